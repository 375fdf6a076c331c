/-
  RecomputeRoutes: the law returns true at all arguments; conditions: those of the statement, no others. Written by a program (pack.py, mklaw2.py).
-/
import Derived.Test.YtpmejlbgjkiobaaGreatKRecomputeRoutes8
open Go.IntKind (i64)
set_option linter.unusedVariables false
set_option linter.unusedSimpArgs false
namespace Go.Proofs.YtpmejlbgjkiobaaGreat
open Go.Stp
open Go.Stp.GoT (ok)
variable {w : World} (n : Nat) {K0 K1 K2 K3 K4 K5 K6 K7 K8 K9 : Option Addr} {M0 M1 M2 M3 M4 M5 M6 M7 M8 M9 : Nat}
theorem f4 (hn : n + 1 ≤ 9) (aG : Topology) (N0 : Rd w K0 M0 aG.links) (aT : TrustPolicy) (N1 : Rd w K1 M1 aT.keys) (N2 : Rd w K2 M2 aT.rules) (N3 : Rd w K3 M3 aT.anchors) (N4 : Rd w K4 M4 aT.certificates) {aH : List TableEntry} (N5 : Rd w K5 M5 aH) {aCapacity : Int} (a4 : ok 10 aG) (a6 : ok 10 aT) (a7 : ok 10 aH) (a0 : ok 10 aCapacity) :
 DP 4 #[aeu aG K0 M0, af7 aT K1 M1 K2 M2 K3 M3 K4 M4, vS K5 aH M5, vI aCapacity] w (pB (a4r aG aT aH aCapacity)) := by
 have hb := bS1 hn
 refine EN Tryz.func4 Z (aS6 N0 N1 N2 N3 N4 N5) ?_
 refine KV Z Z Z Z Z Z O Z (fun w γ => f19 10 aG (γ.q 0 Z) a4 (i6 1048576)) fun cr => ?_
 refine yKD 23 ?_ ?_ <;> intro h1 dz
 exact R4r Z Z (by simp only [a4r, h1, cT, cF])
 obtain ⟨di, ek⟩ := (akm aG 1048576 a4 τ0 τ0).pos τ0
 have ai : ok n aG := GoT.okm (Nat.zero_le n) (Sz.low a4 (show sz aG ≤ 1048576 by omega))
 refine KV Z Z Z Z Z Z O Z (fun w γ => f20 10 aT (γ.q 1 Z) (γ.q 2 Z) (γ.q 3 Z) (γ.q 4 Z) a6 cr) fun bw => ?_
 refine yKD 28 ?_ ?_ <;> intro h2 ds
 exact R4r Z Z (by simp only [a4r, h1, h2, cT, cF])
 obtain ⟨dc, da⟩ := (aij aT (a1p aG 1048576) a6 τ0 τ0).pos τ0
 have ak : ok n aT := GoT.okm (Nat.zero_le n) (Sz.low a6 (show sz aT ≤ 1048576 by omega))
 refine KV Z Z Z Z Z Z O Z (fun w γ => f21 10 (γ.q 5 Z) a7 bw) fun eh => ?_
 refine yKD 33 ?_ ?_ <;> intro h3 e3
 exact R4r Z Z (by simp only [a4r, h1, h2, h3, cT, cF])
 obtain ⟨dt, f2⟩ := (aik aH (a1b aT (a1p aG 1048576)) a7 τ0 τ0).pos τ0
 have aj : ok n aH := GoT.okm (Nat.zero_le n) (Sz.low a7 (show sz aH ≤ 1048576 by omega))
 refine R0 ?_
 refine WX.draw [9] mixed fun bs G0 b4 => ?_
 refine dT 6 [0, 4, 9, 13] ?_
 refine DX.pend 8 10 ⟨39, [.int .i64 (0), .slice none (0) 0, .slice none (0) 0, .slice none (0) 0, .slice none (0) 0, .slice none (0) 0, .slice none (0) 0, .slice none (0) 0, .int .i64 (0), .slice none (0) 0, .slice none (0) 0, .slice none (0) 0, .int .i64 (0), .int .i64 (0)]⟩ ?_
 refine DXA.callF 1 6 (fun _ _ h => GoT.ow_rd h) (fun _ f hf => GoT.fak f hf) ttOk Z Z Z Z Z Z Z J J J Z Z Z Z Z Z Z Z Z Z O Z Z (fun w G bs hI hΓ => f23 n τ0 aG (hΓ.get 0 Z) ai) O O ?_
 rintro ⟨⟨⟩, ⟨p1, c1⟩⟩ a9
 refine DXA.callF 3 8 (fun _ _ h => GoT.ow_rd h) (fun _ f hf => GoT.fak f hf) ttOk Z Z Z Z Z Z Z J J J Z Z Z Z Z Z Z Z Z Z O Z Z (fun w G bs hI hΓ => f24 n τ0 aT (hΓ.get 1 Z) (hΓ.get 2 Z) (hΓ.get 3 Z) (hΓ.get 4 Z) ak) O O ?_
 rintro ⟨⟨p2, c2⟩, ⟨p3, c3⟩, ⟨p4, c4⟩, ⟨p5, c5⟩⟩ bz
 dsimp only
 refine DXA.callF 5 16 (fun _ _ h => GoT.ow_rd h) (fun _ f hf => GoT.fak f hf) ttOk Z Z Z Z Z Z Z J J J Z Z Z Z Z Z Z Z Z Z O Z Z (fun w G bs hI hΓ => f25 n τ0 (hΓ.get 5 Z) aj) O O ?_
 rintro ⟨p6, c6⟩ cm
 dsimp only
 refine DXA.callF 7 18 (fun _ _ h => GoT.ow_rd h) (fun _ f hf => GoT.fak f hf) ttOk Z Z Z Z Z Z Z J J J Z Z Z Z Z Z Z Z Z Z O Z Z (fun w G bs hI hΓ => f22 n τ0 (a06 aG) (hΓ.get 6 Z) (a05 aT) (hΓ.get 8 Z) (hΓ.get 9 Z) (hΓ.get 10 Z) (hΓ.get 11 Z) (hΓ.get 16 Z) a9 bz cm a0) O O ?_
 rintro ⟨⟨⟨⟩, ⟨p7, c7⟩⟩, ⟨⟨p8, c8⟩, ⟨p9, c9⟩, ⟨ex, e0⟩, ⟨eg, f0⟩⟩, ⟨en, de⟩, ⟨d0, eu⟩, ⟨⟩, ⟨df, dl⟩, ⟨e1, ed⟩, ⟨du, e9⟩, ⟨⟩, ⟨⟩⟩ aw
 dsimp only
 refine DXA.tail [9] ttOk Z Z Z Z Z Z J Z Z J ?_
 refine KF Z 38 Z Z Z Z Z O Z (fun w γ => f23 n τ0 aG (γ.q 0 Z) ai) ?_
 rintro ⟨⟨⟩, ⟨ch, cc⟩⟩ ar
 dsimp only
 refine KF Z 40 Z Z Z Z Z O Z (fun w γ => f24 n τ0 aT (γ.q 1 Z) (γ.q 2 Z) (γ.q 3 Z) (γ.q 4 Z) ak) ?_
 rintro ⟨⟨cj, cn⟩, ⟨cw, cp⟩, ⟨cy, co⟩, ⟨cg, cs⟩⟩ ao
 dsimp only
 refine KF Z 48 Z Z Z Z Z O Z (fun w γ => f25 n τ0 (γ.q 5 Z) aj) ?_
 rintro ⟨cv, cb⟩ a8
 dsimp only
 refine KF Z 50 Z Z Z Z Z O Z (fun w γ => f26 n τ0 (a06 aG) (γ.q 38 Z) (a05 aT) (γ.q 40 Z) (γ.q 41 Z) (γ.q 42 Z) (γ.q 43 Z) (γ.q 48 Z) (An (ad0 a9).1 (ad0 ar).2) ao a8 a0) ?_
 rintro ⟨⟨⟨⟩, ⟨bi, ba⟩⟩, ⟨⟨be, b8⟩, ⟨bf, b6⟩, ⟨az, bb⟩, ⟨b7, ax⟩⟩, ⟨bk, am⟩, ⟨b9, b2⟩, ⟨⟩, ⟨bh, av⟩, ⟨b3, b0⟩, ⟨ap, b5⟩, ⟨⟩, ⟨⟩⟩ a2
 dsimp only
 refine KV Z Z Z Z Z Z O Z (fun w γ => f27 n τ0 (a0a (a06 aG) (a05 aT) (a07 aH) aCapacity) (γ.q 50 Z) (γ.q 51 Z) (γ.q 52 Z) (γ.q 53 Z) (γ.q 54 Z) (γ.q 55 Z) (γ.q 56 Z) (γ.q 57 Z) (γ.q 58 Z) (γ.q 59 Z) (a47 (a06 aG) (a05 aT) (a07 aH) aCapacity) (γ.q 18 Z) (γ.q 19 Z) (γ.q 20 Z) (γ.q 21 Z) (γ.q 22 Z) (γ.q 23 Z) (γ.q 24 Z) (γ.q 25 Z) (γ.q 26 Z) (γ.q 27 Z) a2 aw) fun c0 => ?_
 refine yKN 56 ?_ ?_ <;> intro h4 dn
 exact R4r Z Z (by simp only [a4r, h1, h2, h3, h4, cT, cF])
 refine R0 ?_
 refine WX.draw [] mixed fun bs G0 b4 => ?_
 refine dT 3 [0, 2] ?_
 refine DXF 2 70 Z J Z Z Z Z Z Z O Z (fun w γ => f23 n τ0 aG (γ.q 0 Z) ai) ?_
 rintro ⟨⟨⟩, ⟨ey, f8⟩⟩ ay
 dsimp only
 refine DXV 3 Z J Z Z Z Z Z Z O Z (fun w γ => f28 n τ0 (a06 aG) (γ.q 38 Z) (a06 aG) (γ.q 70 Z) (An (ad0 a9).1 (ad0 ar).2) (An (ad0 a9).1 (ad0 ay).2)) fun ct => ?_
 refine dT 0 [9] ?_
 refine DX.tail2 [] Z Z J ?_
 refine yKN 61 ?_ ?_ <;> intro h5 es
 exact R4r Z Z (by simp only [a4r, h1, h2, h3, h4, h5, cT, cF])
 refine R0 ?_
 refine WX.draw [] mixed fun bs G0 b4 => ?_
 refine dT 3 [0, 2] ?_
 refine DXF 2 72 Z J Z Z Z Z Z Z O Z (fun w γ => f24 n τ0 aT (γ.q 1 Z) (γ.q 2 Z) (γ.q 3 Z) (γ.q 4 Z) ak) ?_
 rintro ⟨⟨dq, em⟩, ⟨er, f5⟩, ⟨d1, ep⟩, ⟨e6, eb⟩⟩ aq
 dsimp only
 refine DXV 3 Z J Z Z Z Z Z Z O Z (fun w γ => f29 n τ0 (a05 aT) (γ.q 40 Z) (γ.q 41 Z) (γ.q 42 Z) (γ.q 43 Z) (a05 aT) (γ.q 72 Z) (γ.q 73 Z) (γ.q 74 Z) (γ.q 75 Z) ao aq) fun cx => ?_
 refine dT 0 [9] ?_
 refine DX.tail2 [] Z Z J ?_
 refine yKN 66 ?_ ?_ <;> intro h6 el
 exact R4r Z Z (by simp only [a4r, h1, h2, h3, h4, h5, h6, cT, cF])
 refine KF Z 80 Z Z Z Z Z O Z (fun w γ => f25 n τ0 (γ.q 5 Z) aj) ?_
 rintro ⟨d2, e2⟩ au
 dsimp only
 refine CV Z Z Z Z Z O Z (fun w γ => f30 n τ0 (γ.q 48 Z) (γ.q 80 Z) a8 au) fun cd => ?_
 refine yKN 71 ?_ ?_ <;> intro h7 ea
 exact R4r Z Z (by simp only [a4r, h1, h2, h3, h4, h5, h6, h7, cT, cF])
 refine R0 ?_
 refine CN [39] 82 Z Z Z Z Z Z O Z (fun w β H η σ γ => f31 n τ0 (a06 aG) ch cc η σ (An (ad0 a9).1 (ad0 ar).2) (i6 1)) ?_
 rintro ⟨⟩ ah
 have et : ((a08 (a06 aG) 1).2.links).length = ((a06 aG).links).length := ah.2.2
 refine R0 ?_
 refine CN [44, 45, 46, 47] 84 Z Z Z Z Z Z O Z (fun w β H η σ γ => f32 n τ0 (a05 aT) cj cn cw cp cy co cg cs η σ ao ah.1.1) ?_
 rintro ⟨⟩ a5
 have dv : ((a0b (a05 aT) ((a08 (a06 aG) 1).1)).2.keys).length = ((a05 aT).keys).length := a5.2.1
 have dj : ((a0b (a05 aT) ((a08 (a06 aG) 1).1)).2.rules).length = ((a05 aT).rules).length := a5.2.2.1
 have dp : ((a0b (a05 aT) ((a08 (a06 aG) 1).1)).2.anchors).length = ((a05 aT).anchors).length := a5.2.2.2.1
 have dh : ((a0b (a05 aT) ((a08 (a06 aG) 1).1)).2.certificates).length = ((a05 aT).certificates).length := a5.2.2.2.2
 refine R0 ?_
 refine CN [49] 92 Z Z Z Z Z Z O Z (fun w β H η σ γ => f33 n τ0 (a07 aH) cv cb η σ a8 a5.1.1) ?_
 rintro ⟨⟩ an
 have dm : ((a0h (a07 aH) ((a0b (a05 aT) ((a08 (a06 aG) 1).1)).1)).2).length = ((a07 aH)).length := an.2
 refine yKD 83 ?_ ?_ <;> intro h8 eq
 exact R4r Z Z (by simp only [a4r, h1, h2, h3, h4, h5, h6, h7, h8, cT, cF])
 refine zW 94 60 ?_
 refine zW 95 61 ?_
 refine zW 96 62 ?_
 refine zW 97 63 ?_
 refine zW 98 64 ?_
 refine zW 99 65 ?_
 refine zW 100 66 ?_
 refine zW 101 67 ?_
 refine zW 102 68 ?_
 refine zW 103 69 ?_
 refine zW 104 28 ?_
 refine zW 105 29 ?_
 refine zW 106 30 ?_
 refine zW 107 31 ?_
 refine zW 108 32 ?_
 refine zW 109 33 ?_
 refine zW 110 34 ?_
 refine zW 111 35 ?_
 refine zW 112 36 ?_
 refine zW 113 37 ?_
 refine KV Z Z Z Z Z Z O Z (fun w γ => f27 n τ0 (a0a (a06 aG) (a05 aT) (a07 aH) aCapacity) (γ.q 94 Z) (γ.q 95 Z) (γ.q 96 Z) (γ.q 97 Z) (γ.q 98 Z) (γ.q 99 Z) (γ.q 100 Z) (γ.q 101 Z) (γ.q 102 Z) (γ.q 103 Z) (a47 (a06 aG) (a05 aT) (a07 aH) aCapacity) (γ.q 104 Z) (γ.q 105 Z) (γ.q 106 Z) (γ.q 107 Z) (γ.q 108 Z) (γ.q 109 Z) (γ.q 110 Z) (γ.q 111 Z) (γ.q 112 Z) (γ.q 113 Z) a2 aw) fun ce => ?_
 refine yKN 88 ?_ ?_ <;> intro h9 d9
 exact absurd (h4.symm.trans h9) Bool.false_ne_true
 refine R0 ?_
 refine CN [60, 61, 62, 63, 64, 65, 66, 67, 68, 69] 114 Z Z Z Z Z Z O Z (fun w β H η σ γ => f34 n τ0 (a0a (a06 aG) (a05 aT) (a07 aH) aCapacity) bi ba be b8 bf b6 az bb b7 ax bk am b9 b2 bh av b3 b0 ap b5 η σ a2 (i6 1)) ?_
 rintro ⟨⟩ a1
 have br : ((a01 (a0a (a06 aG) (a05 aT) (a07 aH) aCapacity) 1).2.topology.links).length = ((a0a (a06 aG) (a05 aT) (a07 aH) aCapacity).topology.links).length := a1.2.2.1
 have bl : ((a01 (a0a (a06 aG) (a05 aT) (a07 aH) aCapacity) 1).2.trust.keys).length = ((a0a (a06 aG) (a05 aT) (a07 aH) aCapacity).trust.keys).length := a1.2.2.2.1
 have bu : ((a01 (a0a (a06 aG) (a05 aT) (a07 aH) aCapacity) 1).2.trust.rules).length = ((a0a (a06 aG) (a05 aT) (a07 aH) aCapacity).trust.rules).length := a1.2.2.2.2.1
 have ae : ((a01 (a0a (a06 aG) (a05 aT) (a07 aH) aCapacity) 1).2.trust.anchors).length = ((a0a (a06 aG) (a05 aT) (a07 aH) aCapacity).trust.anchors).length := a1.2.2.2.2.2.1
 have aa : ((a01 (a0a (a06 aG) (a05 aT) (a07 aH) aCapacity) 1).2.trust.certificates).length = ((a0a (a06 aG) (a05 aT) (a07 aH) aCapacity).trust.certificates).length := a1.2.2.2.2.2.2.1
 have ac : ((a01 (a0a (a06 aG) (a05 aT) (a07 aH) aCapacity) 1).2.producers).length = ((a0a (a06 aG) (a05 aT) (a07 aH) aCapacity).producers).length := a1.2.2.2.2.2.2.2.1
 have ag : ((a01 (a0a (a06 aG) (a05 aT) (a07 aH) aCapacity) 1).2.nodes).length = ((a0a (a06 aG) (a05 aT) (a07 aH) aCapacity).nodes).length := a1.2.2.2.2.2.2.2.2.1
 have af : ((a01 (a0a (a06 aG) (a05 aT) (a07 aH) aCapacity) 1).2.failedLinks).length = ((a0a (a06 aG) (a05 aT) (a07 aH) aCapacity).failedLinks).length := a1.2.2.2.2.2.2.2.2.2.2.1
 have ab : ((a01 (a0a (a06 aG) (a05 aT) (a07 aH) aCapacity) 1).2.inFlight).length = ((a0a (a06 aG) (a05 aT) (a07 aH) aCapacity).inFlight).length := a1.2.2.2.2.2.2.2.2.2.2.2.1
 have ad : ((a01 (a0a (a06 aG) (a05 aT) (a07 aH) aCapacity) 1).2.consumers).length = ((a0a (a06 aG) (a05 aT) (a07 aH) aCapacity).consumers).length := a1.2.2.2.2.2.2.2.2.2.2.2.2.1
 have bt : (a01 (a0a (a06 aG) (a05 aT) (a07 aH) aCapacity) 1).2.topology.size = (a0a (a06 aG) (a05 aT) (a07 aH) aCapacity).topology.size := a1.2.1
 have bv : (a01 (a0a (a06 aG) (a05 aT) (a07 aH) aCapacity) 1).2.downNodes = (a0a (a06 aG) (a05 aT) (a07 aH) aCapacity).downNodes := a1.2.2.2.2.2.2.2.2.2.1
 have bn : (a01 (a0a (a06 aG) (a05 aT) (a07 aH) aCapacity) 1).2.now = (a0a (a06 aG) (a05 aT) (a07 aH) aCapacity).now := a1.2.2.2.2.2.2.2.2.2.2.2.2.2.1
 have bq : (a01 (a0a (a06 aG) (a05 aT) (a07 aH) aCapacity) 1).2.dropped = (a0a (a06 aG) (a05 aT) (a07 aH) aCapacity).dropped := a1.2.2.2.2.2.2.2.2.2.2.2.2.2.2
 refine R0 ?_
 refine WX.slot 92 (y := .v (.agg #[.int .i64 ((a01 (a0a (a06 aG) (a05 aT) (a07 aH) aCapacity) 1).2.topology.size), .slice bi (((a01 (a0a (a06 aG) (a05 aT) (a07 aH) aCapacity) 1).2.topology.links).length) ba, .slice be (((a01 (a0a (a06 aG) (a05 aT) (a07 aH) aCapacity) 1).2.trust.keys).length) b8, .slice bf (((a01 (a0a (a06 aG) (a05 aT) (a07 aH) aCapacity) 1).2.trust.rules).length) b6, .slice az (((a01 (a0a (a06 aG) (a05 aT) (a07 aH) aCapacity) 1).2.trust.anchors).length) bb, .slice b7 (((a01 (a0a (a06 aG) (a05 aT) (a07 aH) aCapacity) 1).2.trust.certificates).length) ax, .slice bk (((a01 (a0a (a06 aG) (a05 aT) (a07 aH) aCapacity) 1).2.producers).length) am, .slice b9 (((a01 (a0a (a06 aG) (a05 aT) (a07 aH) aCapacity) 1).2.nodes).length) b2, .int .i64 ((a01 (a0a (a06 aG) (a05 aT) (a07 aH) aCapacity) 1).2.downNodes), .slice bh (((a01 (a0a (a06 aG) (a05 aT) (a07 aH) aCapacity) 1).2.failedLinks).length) av, .slice b3 (((a01 (a0a (a06 aG) (a05 aT) (a07 aH) aCapacity) 1).2.inFlight).length) b0, .slice ap (((a01 (a0a (a06 aG) (a05 aT) (a07 aH) aCapacity) 1).2.consumers).length) b5, .int .i64 ((a01 (a0a (a06 aG) (a05 aT) (a07 aH) aCapacity) 1).2.now), .int .i64 ((a01 (a0a (a06 aG) (a05 aT) (a07 aH) aCapacity) 1).2.dropped)])) Z (fun _ => by simp only [conc, br, bl, bu, ae, aa, ac, ag, af, ab, ad, bt, bv, bn, bq]) ?_
 refine CV Z Z Z Z Z O Z (fun w γ => f35 n τ0 ((a01 (a0a (a06 aG) (a05 aT) (a07 aH) aCapacity) 1).2) (γ.q 114 Z) (γ.q 115 Z) (γ.q 116 Z) (γ.q 117 Z) (γ.q 118 Z) (γ.q 119 Z) (γ.q 120 Z) (γ.q 121 Z) (γ.q 122 Z) (γ.q 123 Z) a1.1.2 (i6 1)) fun cf => ?_
 refine yKD 96 ?_ ?_ <;> intro al cq
 exact R4r Z Z (by simp only [a4r, h1, h2, h3, h4, h5, h6, h7, h8, h9, al, cT, cF])
 refine yKM 99 ?_ ?_ <;> intro bc ci
 exact R4r Z Z (by simp only [a4r, h1, h2, h3, h4, h5, h6, h7, h8, h9, al, bc, cT, cF])
 refine zW 134 88 ?_
 refine zW 135 89 ?_
 refine zW 136 90 ?_
 refine zW 137 91 ?_
 refine zW 138 83 ?_
 refine zW 139 28 ?_
 refine zW 140 29 ?_
 refine zW 141 30 ?_
 refine zW 142 31 ?_
 refine zW 143 32 ?_
 refine zW 144 33 ?_
 refine zW 145 34 ?_
 refine zW 146 35 ?_
 refine zW 147 36 ?_
 refine zW 148 37 ?_
 refine R0 ?_
 refine WX.draw [9] mixed fun bs G0 b4 => ?_
 refine dT 6 [0, 4, 9, 13] ?_
 refine DX.pend 8 18 ⟨39, [.int .i64 (0), .slice none (0) 0, .slice none (0) 0, .slice none (0) 0, .slice none (0) 0, .slice none (0) 0, .slice none (0) 0, .slice none (0) 0, .int .i64 (0), .slice none (0) 0, .slice none (0) 0, .slice none (0) 0, .int .i64 (0), .int .i64 (0)]⟩ ?_
 refine DXA.callF 1 149 (fun _ _ h => GoT.ow_rd h) (fun _ f hf => GoT.fak f hf) ttOk Z Z Z Z Z Z Z J J J Z Z Z Z Z Z Z Z Z Z O Z Z (fun w G bs hI hΓ => f23 n τ0 aG (hΓ.get 0 Z) ai) O O ?_
 rintro ⟨⟨⟩, ⟨d3, ei⟩⟩ b1
 dsimp only
 refine DXA.callF 3 151 (fun _ _ h => GoT.ow_rd h) (fun _ f hf => GoT.fak f hf) ttOk Z Z Z Z Z Z Z J J J Z Z Z Z Z Z Z Z Z Z O Z Z (fun w G bs hI hΓ => f24 n τ0 aT (hΓ.get 1 Z) (hΓ.get 2 Z) (hΓ.get 3 Z) (hΓ.get 4 Z) ak) O O ?_
 rintro ⟨⟨dx, ef⟩, ⟨ee, dk⟩, ⟨f1, f6⟩, ⟨f7, ec⟩⟩ bg
 dsimp only
 refine DXA.callF 5 159 (fun _ _ h => GoT.ow_rd h) (fun _ f hf => GoT.fak f hf) ttOk Z Z Z Z Z Z Z J J J Z Z Z Z Z Z Z Z Z Z O Z Z (fun w G bs hI hΓ => f25 n τ0 (hΓ.get 5 Z) aj) O O ?_
 rintro ⟨dg, dw⟩ bj
 dsimp only
 refine DXA.callF 7 161 (fun _ _ h => GoT.ow_rd h) (fun _ f hf => GoT.fak f hf) ttOk Z Z Z Z Z Z Z J J J Z Z Z Z Z Z Z Z Z Z O Z Z (fun w G bs hI hΓ => f26 n τ0 (a06 aG) (hΓ.get 149 Z) (a05 aT) (hΓ.get 151 Z) (hΓ.get 152 Z) (hΓ.get 153 Z) (hΓ.get 154 Z) (hΓ.get 159 Z) (An (ad0 a9).1 (ad0 b1).2) bg bj a0) O O ?_
 rintro ⟨⟨⟨⟩, ⟨ew, f3⟩⟩, ⟨⟨d4, d5⟩, ⟨db, f9⟩, ⟨d7, dy⟩, ⟨ez, e4⟩⟩, ⟨e8, ev⟩, ⟨dd, e5⟩, ⟨⟩, ⟨d8, e7⟩, ⟨dr, ej⟩, ⟨eo, d6⟩, ⟨⟩, ⟨⟩⟩ a3
 dsimp only
 refine DXA.tail [9] ttOk Z Z Z Z Z Z J Z Z J ?_
 refine KV Z Z Z Z Z Z O Z (fun w γ => f27 n τ0 (a0a (a06 aG) (a05 aT) (a07 aH) aCapacity) (γ.q 161 Z) (γ.q 162 Z) (γ.q 163 Z) (γ.q 164 Z) (γ.q 165 Z) (γ.q 166 Z) (γ.q 167 Z) (γ.q 168 Z) (γ.q 169 Z) (γ.q 170 Z) (a47 (a06 aG) (a05 aT) (a07 aH) aCapacity) (γ.q 139 Z) (γ.q 140 Z) (γ.q 141 Z) (γ.q 142 Z) (γ.q 143 Z) (γ.q 144 Z) (γ.q 145 Z) (γ.q 146 Z) (γ.q 147 Z) (γ.q 148 Z) (An (An (ad0 (acy a2).1).1 (ad0 (acy a3).1).2) (An (acy a3).2.1 (An (acy a3).2.2.1 (An (acy a3).2.2.2.1 (An (acy a2).2.2.2.2.1 (An (acy a3).2.2.2.2.2.1 (An (acy a3).2.2.2.2.2.2.1 (An (acy a3).2.2.2.2.2.2.2.1 (An (acy a2).2.2.2.2.2.2.2.2.1 (acy a2).2.2.2.2.2.2.2.2.2))))))))) aw) fun cz => ?_
 refine yKN 111 ?_ ?_ <;> intro bm ck
 exact absurd (h4.symm.trans bm) Bool.false_ne_true
 refine R0 ?_
 refine WX.slot 112 (y := .v (.agg #[.int .i64 ((a01 (a0a (a06 aG) (a05 aT) (a07 aH) aCapacity) 1).2.topology.size), .slice bi (((a01 (a0a (a06 aG) (a05 aT) (a07 aH) aCapacity) 1).2.topology.links).length) ba, .slice be (((a01 (a0a (a06 aG) (a05 aT) (a07 aH) aCapacity) 1).2.trust.keys).length) b8, .slice bf (((a01 (a0a (a06 aG) (a05 aT) (a07 aH) aCapacity) 1).2.trust.rules).length) b6, .slice az (((a01 (a0a (a06 aG) (a05 aT) (a07 aH) aCapacity) 1).2.trust.anchors).length) bb, .slice b7 (((a01 (a0a (a06 aG) (a05 aT) (a07 aH) aCapacity) 1).2.trust.certificates).length) ax, .slice bk (((a01 (a0a (a06 aG) (a05 aT) (a07 aH) aCapacity) 1).2.producers).length) am, .slice b9 (((a01 (a0a (a06 aG) (a05 aT) (a07 aH) aCapacity) 1).2.nodes).length) b2, .int .i64 ((a01 (a0a (a06 aG) (a05 aT) (a07 aH) aCapacity) 1).2.downNodes), .slice bh (((a01 (a0a (a06 aG) (a05 aT) (a07 aH) aCapacity) 1).2.failedLinks).length) av, .slice b3 (((a01 (a0a (a06 aG) (a05 aT) (a07 aH) aCapacity) 1).2.inFlight).length) b0, .slice ap (((a01 (a0a (a06 aG) (a05 aT) (a07 aH) aCapacity) 1).2.consumers).length) b5, .int .i64 ((a01 (a0a (a06 aG) (a05 aT) (a07 aH) aCapacity) 1).2.now), .int .i64 ((a01 (a0a (a06 aG) (a05 aT) (a07 aH) aCapacity) 1).2.dropped)])) Z (fun _ => by simp only [conc, br, bl, bu, ae, aa, ac, ag, af, ab, ad, bt, bv, bn, bq]) ?_
 refine CV Z Z Z Z Z O Z (fun w γ => f35 n τ0 ((a01 (a0a (a06 aG) (a05 aT) (a07 aH) aCapacity) 1).2) (γ.q 114 Z) (γ.q 115 Z) (γ.q 116 Z) (γ.q 117 Z) (γ.q 118 Z) (γ.q 119 Z) (γ.q 120 Z) (γ.q 121 Z) (γ.q 122 Z) (γ.q 123 Z) a1.1.2 (i6 1)) fun cl => ?_
 refine yKD 116 ?_ ?_ <;> intro bp bx
 exact absurd (al.symm.trans bp) Bool.false_ne_true
 refine yKM 119 ?_ ?_ <;> intro bo ca
 exact absurd (bc.symm.trans bo) Bool.false_ne_true
 exact R4r Z Z (by simp only [a4r, h1, h2, h3, h4, h5, h6, h7, h8, h9, al, bc, bm, bp, bo, cT, cF])
theorem f5 (hn : n + 1 ≤ 9) (aW : Network) (N0 : Rd w K0 M0 aW.topology.links) (N1 : Rd w K1 M1 aW.trust.keys) (N2 : Rd w K2 M2 aW.trust.rules) (N3 : Rd w K3 M3 aW.trust.anchors) (N4 : Rd w K4 M4 aW.trust.certificates) (N5 : Rd w K5 M5 aW.producers) (N6 : Rd w K6 M6 aW.nodes) (N7 : Rd w K7 M7 aW.failedLinks) (N8 : Rd w K8 M8 aW.inFlight) (N9 : Rd w K9 M9 aW.consumers) (a5 : ok 10 aW) :
 DP 5 #[afs aW K0 M0 K1 M1 K2 M2 K3 M3 K4 M4 K5 M5 K6 M6 K7 M7 K8 M8 K9 M9] w (pB (a6f aW)) := by
 have hb := bS1 hn
 refine EN Tryz.func5 Z (aC 0 N0 (aC 1 N1 (aC 2 N2 (aC 3 N3 (aC 4 N4 (aC 5 N5 (aC 6 N6 (aC 7 N7 (aC 8 N8 (aC 9 N9 adb)))))))))) ?_
 refine KV Z Z Z Z Z Z O Z (fun w γ => f36 10 aW (γ.q 0 Z) (γ.q 1 Z) (γ.q 2 Z) (γ.q 3 Z) (γ.q 4 Z) (γ.q 5 Z) (γ.q 6 Z) (γ.q 7 Z) (γ.q 8 Z) (γ.q 9 Z) a5 (i6 1048576)) fun el => ?_
 refine yKD 15 ?_ ?_ <;> intro h1 dn
 exact R4r Z Z (by simp only [a6f, h1, cT, cF])
 obtain ⟨cy, eh⟩ := (amf aW 1048576 a5 τ0 τ0).pos τ0
 have aj : ok n aW := GoT.okm (Nat.zero_le n) (Sz.low a5 (show sz aW ≤ 1048576 by omega))
 refine KF Z 10 Z Z Z Z Z O Z (fun w γ => f37 n τ0 aW (γ.q 0 Z) (γ.q 1 Z) (γ.q 2 Z) (γ.q 3 Z) (γ.q 4 Z) (γ.q 5 Z) (γ.q 6 Z) (γ.q 7 Z) (γ.q 8 Z) (γ.q 9 Z) aj) ?_
 rintro ⟨⟨⟨⟩, ⟨p1, c1⟩⟩, ⟨⟨p2, c2⟩, ⟨p3, c3⟩, ⟨p4, c4⟩, ⟨p5, c5⟩⟩, ⟨p6, c6⟩, ⟨p7, c7⟩, ⟨⟩, ⟨p8, c8⟩, ⟨p9, c9⟩, ⟨f2, dp⟩, ⟨⟩, ⟨⟩⟩ a1
 dsimp only
 refine CF 30 Z Z Z Z Z O Z (fun w γ => f10 n τ0 (a04 aW) (γ.q 10 Z) (γ.q 11 Z) (γ.q 12 Z) (γ.q 13 Z) (γ.q 14 Z) (γ.q 15 Z) (γ.q 16 Z) (γ.q 17 Z) (γ.q 18 Z) (γ.q 19 Z) a1) ?_
 rintro ⟨⟨⟨⟩, ⟨e9, f6⟩⟩, ⟨⟨eo, cq⟩, ⟨ce, ex⟩, ⟨ct, d5⟩, ⟨dq, e4⟩⟩, ⟨de, dz⟩, ⟨di, cw⟩, ⟨⟩, ⟨dt, eb⟩, ⟨f1, ei⟩, ⟨fa, ef⟩, ⟨⟩, ⟨⟩⟩ ax
 dsimp only
 refine KF Z 50 Z Z Z Z Z O Z (fun w γ => f37 n τ0 aW (γ.q 0 Z) (γ.q 1 Z) (γ.q 2 Z) (γ.q 3 Z) (γ.q 4 Z) (γ.q 5 Z) (γ.q 6 Z) (γ.q 7 Z) (γ.q 8 Z) (γ.q 9 Z) aj) ?_
 rintro ⟨⟨⟨⟩, ⟨bi, bu⟩⟩, ⟨⟨bz, bf⟩, ⟨cc, bv⟩, ⟨bx, br⟩, ⟨ca, bp⟩⟩, ⟨bl, bw⟩, ⟨bq, bj⟩, ⟨⟩, ⟨cd, bc⟩, ⟨bt, bn⟩, ⟨cb, bh⟩, ⟨⟩, ⟨⟩⟩ a2
 dsimp only
 refine KF Z 70 Z Z Z Z Z O Z (fun w γ => f7 n τ0 (a04 aW) (γ.q 50 Z) (γ.q 51 Z) (γ.q 52 Z) (γ.q 53 Z) (γ.q 54 Z) (γ.q 55 Z) (γ.q 56 Z) (γ.q 57 Z) (γ.q 58 Z) (γ.q 59 Z) (An (An (ad0 (acy a1).1).1 (ad0 (acy a2).1).2) (An (acy a2).2.1 (An (acy a2).2.2.1 (An (acy a2).2.2.2.1 (An (acy a1).2.2.2.2.1 (An (acy a2).2.2.2.2.2.1 (An (acy a2).2.2.2.2.2.2.1 (An (acy a2).2.2.2.2.2.2.2.1 (An (acy a1).2.2.2.2.2.2.2.2.1 (acy a1).2.2.2.2.2.2.2.2.2)))))))))) ?_
 rintro ⟨⟨⟨⟩, ⟨az, au⟩⟩, ⟨⟨an, b0⟩, ⟨b4, b6⟩, ⟨ao, b1⟩, ⟨b3, b5⟩⟩, ⟨ak, b2⟩, ⟨ar, av⟩, ⟨⟩, ⟨al, aq⟩, ⟨am, ay⟩, ⟨ap, aw⟩, ⟨⟩, ⟨⟩⟩ a7
 dsimp only
 refine KV Z Z Z Z Z Z O Z (fun w γ => f27 n τ0 (a09 (a04 aW)) (γ.q 70 Z) (γ.q 71 Z) (γ.q 72 Z) (γ.q 73 Z) (γ.q 74 Z) (γ.q 75 Z) (γ.q 76 Z) (γ.q 77 Z) (γ.q 78 Z) (γ.q 79 Z) (a3w (a04 aW)) (γ.q 30 Z) (γ.q 31 Z) (γ.q 32 Z) (γ.q 33 Z) (γ.q 34 Z) (γ.q 35 Z) (γ.q 36 Z) (γ.q 37 Z) (γ.q 38 Z) (γ.q 39 Z) a7 ax) fun e8 => ?_
 refine yKN 26 ?_ ?_ <;> intro h2 db
 exact R4r Z Z (by simp only [a6f, h1, h2, cT, cF])
 refine R0 ?_
 refine WX.draw [] mixed fun bs G0 ej => ?_
 refine dT 3 [0, 2] ?_
 refine DXF 2 90 Z J Z Z Z Z Z Z O Z (fun w γ => f37 n τ0 aW (γ.q 0 Z) (γ.q 1 Z) (γ.q 2 Z) (γ.q 3 Z) (γ.q 4 Z) (γ.q 5 Z) (γ.q 6 Z) (γ.q 7 Z) (γ.q 8 Z) (γ.q 9 Z) aj) ?_
 rintro ⟨⟨⟨⟩, ⟨e6, d4⟩⟩, ⟨⟨f8, fd⟩, ⟨fe, e3⟩, ⟨cv, dg⟩, ⟨f0, fb⟩⟩, ⟨cf, cg⟩, ⟨cm, ff⟩, ⟨⟩, ⟨ci, dj⟩, ⟨f3, ds⟩, ⟨dx, ey⟩, ⟨⟩, ⟨⟩⟩ a8
 dsimp only
 refine DXV 3 Z J Z Z Z Z Z Z O Z (fun w γ => f27 n τ0 (a04 aW) (γ.q 50 Z) (γ.q 51 Z) (γ.q 52 Z) (γ.q 53 Z) (γ.q 54 Z) (γ.q 55 Z) (γ.q 56 Z) (γ.q 57 Z) (γ.q 58 Z) (γ.q 59 Z) (a04 aW) (γ.q 90 Z) (γ.q 91 Z) (γ.q 92 Z) (γ.q 93 Z) (γ.q 94 Z) (γ.q 95 Z) (γ.q 96 Z) (γ.q 97 Z) (γ.q 98 Z) (γ.q 99 Z) (An (An (ad0 (acy a1).1).1 (ad0 (acy a2).1).2) (An (acy a2).2.1 (An (acy a2).2.2.1 (An (acy a2).2.2.2.1 (An (acy a1).2.2.2.2.1 (An (acy a2).2.2.2.2.2.1 (An (acy a2).2.2.2.2.2.2.1 (An (acy a2).2.2.2.2.2.2.2.1 (An (acy a1).2.2.2.2.2.2.2.2.1 (acy a1).2.2.2.2.2.2.2.2.2))))))))) (An (An (ad0 (acy a1).1).1 (ad0 (acy a8).1).2) (An (acy a8).2.1 (An (acy a8).2.2.1 (An (acy a8).2.2.2.1 (An (acy a1).2.2.2.2.1 (An (acy a8).2.2.2.2.2.1 (An (acy a8).2.2.2.2.2.2.1 (An (acy a8).2.2.2.2.2.2.2.1 (An (acy a1).2.2.2.2.2.2.2.2.1 (acy a1).2.2.2.2.2.2.2.2.2)))))))))) fun d2 => ?_
 refine dT 0 [9] ?_
 refine DX.tail2 [] Z Z J ?_
 refine yKN 31 ?_ ?_ <;> intro h3 dr
 exact R4r Z Z (by simp only [a6f, h1, h2, h3, cT, cF])
 refine R0 ?_
 refine CN [60, 61, 62, 63, 64, 65, 66, 67, 68, 69] 110 Z Z Z Z Z Z O Z (fun w β H η σ γ => f34 n τ0 (a04 aW) bi bu bz bf cc bv bx br ca bp bl bw bq bj cd bc bt bn cb bh η σ (An (An (ad0 (acy a1).1).1 (ad0 (acy a2).1).2) (An (acy a2).2.1 (An (acy a2).2.2.1 (An (acy a2).2.2.2.1 (An (acy a1).2.2.2.2.1 (An (acy a2).2.2.2.2.2.1 (An (acy a2).2.2.2.2.2.2.1 (An (acy a2).2.2.2.2.2.2.2.1 (An (acy a1).2.2.2.2.2.2.2.2.1 (acy a1).2.2.2.2.2.2.2.2.2))))))))) (i6 1)) ?_
 rintro ⟨⟩ a6
 have ev : ((a01 (a04 aW) 1).2.topology.links).length = ((a04 aW).topology.links).length := a6.2.2.1
 have df : ((a01 (a04 aW) 1).2.trust.keys).length = ((a04 aW).trust.keys).length := a6.2.2.2.1
 have cz : ((a01 (a04 aW) 1).2.trust.rules).length = ((a04 aW).trust.rules).length := a6.2.2.2.2.1
 have d9 : ((a01 (a04 aW) 1).2.trust.anchors).length = ((a04 aW).trust.anchors).length := a6.2.2.2.2.2.1
 have cx : ((a01 (a04 aW) 1).2.trust.certificates).length = ((a04 aW).trust.certificates).length := a6.2.2.2.2.2.2.1
 have d7 : ((a01 (a04 aW) 1).2.producers).length = ((a04 aW).producers).length := a6.2.2.2.2.2.2.2.1
 have ec : ((a01 (a04 aW) 1).2.nodes).length = ((a04 aW).nodes).length := a6.2.2.2.2.2.2.2.2.1
 have d0 : ((a01 (a04 aW) 1).2.failedLinks).length = ((a04 aW).failedLinks).length := a6.2.2.2.2.2.2.2.2.2.2.1
 have er : ((a01 (a04 aW) 1).2.inFlight).length = ((a04 aW).inFlight).length := a6.2.2.2.2.2.2.2.2.2.2.2.1
 have bk : ((a01 (a04 aW) 1).2.consumers).length = ((a04 aW).consumers).length := a6.2.2.2.2.2.2.2.2.2.2.2.2.1
 refine yKD 37 ?_ ?_ <;> intro h4 d8
 exact R4r Z Z (by simp only [a6f, h1, h2, h3, h4, cT, cF])
 refine zW 130 80 ?_
 refine zW 131 81 ?_
 refine zW 132 82 ?_
 refine zW 133 83 ?_
 refine zW 134 84 ?_
 refine zW 135 85 ?_
 refine zW 136 86 ?_
 refine zW 137 87 ?_
 refine zW 138 88 ?_
 refine zW 139 89 ?_
 refine zW 140 40 ?_
 refine zW 141 41 ?_
 refine zW 142 42 ?_
 refine zW 143 43 ?_
 refine zW 144 44 ?_
 refine zW 145 45 ?_
 refine zW 146 46 ?_
 refine zW 147 47 ?_
 refine zW 148 48 ?_
 refine zW 149 49 ?_
 refine KV Z Z Z Z Z Z O Z (fun w γ => f27 n τ0 (a09 (a04 aW)) (γ.q 130 Z) (γ.q 131 Z) (γ.q 132 Z) (γ.q 133 Z) (γ.q 134 Z) (γ.q 135 Z) (γ.q 136 Z) (γ.q 137 Z) (γ.q 138 Z) (γ.q 139 Z) (a3w (a04 aW)) (γ.q 140 Z) (γ.q 141 Z) (γ.q 142 Z) (γ.q 143 Z) (γ.q 144 Z) (γ.q 145 Z) (γ.q 146 Z) (γ.q 147 Z) (γ.q 148 Z) (γ.q 149 Z) a7 ax) fun bm => ?_
 refine yKN 42 ?_ ?_ <;> intro h5 et
 exact absurd (h2.symm.trans h5) Bool.false_ne_true
 refine R0 ?_
 refine CN [80, 81, 82, 83, 84, 85, 86, 87, 88, 89] 150 Z Z Z Z Z Z O Z (fun w β H η σ γ => f34 n τ0 (a09 (a04 aW)) az au an b0 b4 b6 ao b1 b3 b5 ak b2 ar av al aq am ay ap aw η σ a7 (i6 1)) ?_
 rintro ⟨⟩ a0
 have aa : ((a01 (a09 (a04 aW)) 1).2.topology.links).length = ((a09 (a04 aW)).topology.links).length := a0.2.2.1
 have ac : ((a01 (a09 (a04 aW)) 1).2.trust.keys).length = ((a09 (a04 aW)).trust.keys).length := a0.2.2.2.1
 have ag : ((a01 (a09 (a04 aW)) 1).2.trust.rules).length = ((a09 (a04 aW)).trust.rules).length := a0.2.2.2.2.1
 have af : ((a01 (a09 (a04 aW)) 1).2.trust.anchors).length = ((a09 (a04 aW)).trust.anchors).length := a0.2.2.2.2.2.1
 have a9 : ((a01 (a09 (a04 aW)) 1).2.trust.certificates).length = ((a09 (a04 aW)).trust.certificates).length := a0.2.2.2.2.2.2.1
 have ae : ((a01 (a09 (a04 aW)) 1).2.producers).length = ((a09 (a04 aW)).producers).length := a0.2.2.2.2.2.2.2.1
 have ad : ((a01 (a09 (a04 aW)) 1).2.nodes).length = ((a09 (a04 aW)).nodes).length := a0.2.2.2.2.2.2.2.2.1
 have ab : ((a01 (a09 (a04 aW)) 1).2.failedLinks).length = ((a09 (a04 aW)).failedLinks).length := a0.2.2.2.2.2.2.2.2.2.2.1
 have ai : ((a01 (a09 (a04 aW)) 1).2.inFlight).length = ((a09 (a04 aW)).inFlight).length := a0.2.2.2.2.2.2.2.2.2.2.2.1
 have ah : ((a01 (a09 (a04 aW)) 1).2.consumers).length = ((a09 (a04 aW)).consumers).length := a0.2.2.2.2.2.2.2.2.2.2.2.2.1
 have b7 : (a01 (a09 (a04 aW)) 1).2.topology.size = (a09 (a04 aW)).topology.size := a0.2.1
 have ba : (a01 (a09 (a04 aW)) 1).2.downNodes = (a09 (a04 aW)).downNodes := a0.2.2.2.2.2.2.2.2.2.1
 have b8 : (a01 (a09 (a04 aW)) 1).2.now = (a09 (a04 aW)).now := a0.2.2.2.2.2.2.2.2.2.2.2.2.2.1
 have b9 : (a01 (a09 (a04 aW)) 1).2.dropped = (a09 (a04 aW)).dropped := a0.2.2.2.2.2.2.2.2.2.2.2.2.2.2
 refine R0 ?_
 refine WX.slot 46 (y := .v (.agg #[.int .i64 ((a01 (a09 (a04 aW)) 1).2.topology.size), .slice az (((a01 (a09 (a04 aW)) 1).2.topology.links).length) au, .slice an (((a01 (a09 (a04 aW)) 1).2.trust.keys).length) b0, .slice b4 (((a01 (a09 (a04 aW)) 1).2.trust.rules).length) b6, .slice ao (((a01 (a09 (a04 aW)) 1).2.trust.anchors).length) b1, .slice b3 (((a01 (a09 (a04 aW)) 1).2.trust.certificates).length) b5, .slice ak (((a01 (a09 (a04 aW)) 1).2.producers).length) b2, .slice ar (((a01 (a09 (a04 aW)) 1).2.nodes).length) av, .int .i64 ((a01 (a09 (a04 aW)) 1).2.downNodes), .slice al (((a01 (a09 (a04 aW)) 1).2.failedLinks).length) aq, .slice am (((a01 (a09 (a04 aW)) 1).2.inFlight).length) ay, .slice ap (((a01 (a09 (a04 aW)) 1).2.consumers).length) aw, .int .i64 ((a01 (a09 (a04 aW)) 1).2.now), .int .i64 ((a01 (a09 (a04 aW)) 1).2.dropped)])) Z (fun _ => by simp only [conc, aa, ac, ag, af, a9, ae, ad, ab, ai, ah, b7, ba, b8, b9]) ?_
 refine CV Z Z Z Z Z O Z (fun w γ => f35 n τ0 ((a01 (a09 (a04 aW)) 1).2) (γ.q 150 Z) (γ.q 151 Z) (γ.q 152 Z) (γ.q 153 Z) (γ.q 154 Z) (γ.q 155 Z) (γ.q 156 Z) (γ.q 157 Z) (γ.q 158 Z) (γ.q 159 Z) a0.1.2 (i6 1)) fun be => ?_
 refine yKD 50 ?_ ?_ <;> intro h6 en
 exact R4r Z Z (by simp only [a6f, h1, h2, h3, h4, h5, h6, cT, cF])
 refine yKM 53 ?_ ?_ <;> intro h7 e1
 exact R4r Z Z (by simp only [a6f, h1, h2, h3, h4, h5, h6, h7, cT, cF])
 refine KF Z 170 Z Z Z Z Z O Z (fun w γ => f37 n τ0 aW (γ.q 0 Z) (γ.q 1 Z) (γ.q 2 Z) (γ.q 3 Z) (γ.q 4 Z) (γ.q 5 Z) (γ.q 6 Z) (γ.q 7 Z) (γ.q 8 Z) (γ.q 9 Z) aj) ?_
 rintro ⟨⟨⟨⟩, ⟨cn, du⟩⟩, ⟨⟨cj, dv⟩, ⟨da, ee⟩, ⟨eq, ch⟩, ⟨d1, dc⟩⟩, ⟨em, ea⟩, ⟨ep, dd⟩, ⟨⟩, ⟨dk, eu⟩, ⟨cr, dh⟩, ⟨eg, cl⟩, ⟨⟩, ⟨⟩⟩ a3
 dsimp only
 refine CF 190 Z Z Z Z Z O Z (fun w γ => f7 n τ0 (a04 aW) (γ.q 170 Z) (γ.q 171 Z) (γ.q 172 Z) (γ.q 173 Z) (γ.q 174 Z) (γ.q 175 Z) (γ.q 176 Z) (γ.q 177 Z) (γ.q 178 Z) (γ.q 179 Z) (An (An (ad0 (acy a1).1).1 (ad0 (acy a3).1).2) (An (acy a3).2.1 (An (acy a3).2.2.1 (An (acy a3).2.2.2.1 (An (acy a1).2.2.2.2.1 (An (acy a3).2.2.2.2.2.1 (An (acy a3).2.2.2.2.2.2.1 (An (acy a3).2.2.2.2.2.2.2.1 (An (acy a1).2.2.2.2.2.2.2.2.1 (acy a1).2.2.2.2.2.2.2.2.2)))))))))) ?_
 rintro ⟨⟨⟨⟩, ⟨cp, e7⟩⟩, ⟨⟨ez, e0⟩, ⟨e2, ek⟩, ⟨dm, co⟩, ⟨f4, fc⟩⟩, ⟨ed, cs⟩, ⟨e5, ew⟩, ⟨⟩, ⟨f9, d3⟩, ⟨d6, dy⟩, ⟨dl, dw⟩, ⟨⟩, ⟨⟩⟩ a4
 dsimp only
 refine zW 210 40 ?_
 refine zW 211 41 ?_
 refine zW 212 42 ?_
 refine zW 213 43 ?_
 refine zW 214 44 ?_
 refine zW 215 45 ?_
 refine zW 216 46 ?_
 refine zW 217 47 ?_
 refine zW 218 48 ?_
 refine zW 219 49 ?_
 refine KV Z Z Z Z Z Z O Z (fun w γ => f27 n τ0 (a09 (a04 aW)) (γ.q 190 Z) (γ.q 191 Z) (γ.q 192 Z) (γ.q 193 Z) (γ.q 194 Z) (γ.q 195 Z) (γ.q 196 Z) (γ.q 197 Z) (γ.q 198 Z) (γ.q 199 Z) (a3w (a04 aW)) (γ.q 210 Z) (γ.q 211 Z) (γ.q 212 Z) (γ.q 213 Z) (γ.q 214 Z) (γ.q 215 Z) (γ.q 216 Z) (γ.q 217 Z) (γ.q 218 Z) (γ.q 219 Z) (An (An (ad0 (acy a7).1).1 (ad0 (acy a4).1).2) (An (acy a4).2.1 (An (acy a4).2.2.1 (An (acy a4).2.2.2.1 (An (acy a7).2.2.2.2.1 (An (acy a4).2.2.2.2.2.1 (An (acy a4).2.2.2.2.2.2.1 (An (acy a4).2.2.2.2.2.2.2.1 (An (acy a7).2.2.2.2.2.2.2.2.1 (acy a7).2.2.2.2.2.2.2.2.2))))))))) ax) fun bg => ?_
 refine yKN 60 ?_ ?_ <;> intro h8 es
 exact absurd (h2.symm.trans h8) Bool.false_ne_true
 refine R0 ?_
 refine WX.slot 61 (y := .v (.agg #[.int .i64 ((a01 (a09 (a04 aW)) 1).2.topology.size), .slice az (((a01 (a09 (a04 aW)) 1).2.topology.links).length) au, .slice an (((a01 (a09 (a04 aW)) 1).2.trust.keys).length) b0, .slice b4 (((a01 (a09 (a04 aW)) 1).2.trust.rules).length) b6, .slice ao (((a01 (a09 (a04 aW)) 1).2.trust.anchors).length) b1, .slice b3 (((a01 (a09 (a04 aW)) 1).2.trust.certificates).length) b5, .slice ak (((a01 (a09 (a04 aW)) 1).2.producers).length) b2, .slice ar (((a01 (a09 (a04 aW)) 1).2.nodes).length) av, .int .i64 ((a01 (a09 (a04 aW)) 1).2.downNodes), .slice al (((a01 (a09 (a04 aW)) 1).2.failedLinks).length) aq, .slice am (((a01 (a09 (a04 aW)) 1).2.inFlight).length) ay, .slice ap (((a01 (a09 (a04 aW)) 1).2.consumers).length) aw, .int .i64 ((a01 (a09 (a04 aW)) 1).2.now), .int .i64 ((a01 (a09 (a04 aW)) 1).2.dropped)])) Z (fun _ => by simp only [conc, aa, ac, ag, af, a9, ae, ad, ab, ai, ah, b7, ba, b8, b9]) ?_
 refine CV Z Z Z Z Z O Z (fun w γ => f35 n τ0 ((a01 (a09 (a04 aW)) 1).2) (γ.q 150 Z) (γ.q 151 Z) (γ.q 152 Z) (γ.q 153 Z) (γ.q 154 Z) (γ.q 155 Z) (γ.q 156 Z) (γ.q 157 Z) (γ.q 158 Z) (γ.q 159 Z) a0.1.2 (i6 1)) fun c0 => ?_
 refine yKD 65 ?_ ?_ <;> intro h9 ck
 exact absurd (h6.symm.trans h9) Bool.false_ne_true
 refine yKM 68 ?_ ?_ <;> intro bb bo
 exact absurd (h7.symm.trans bb) Bool.false_ne_true
 exact R4r Z Z (by simp only [a6f, h1, h2, h3, h4, h5, h6, h7, h8, h9, bb, cT, cF])
end Go.Proofs.YtpmejlbgjkiobaaGreat
namespace Go.Stp
theorem ai8 (a b c : Int) : a0u a b c = a0m a b c := rfl
theorem an5 : ∀ (a b p : List Str), a.length = b.length → ae7 (p ++ b) a p.length = (if a.map (fun z : Str => z.toList) = b.map (fun z : Str => z.toList) then none else some false)
 | [], [], p, _ => by simp [ae7]
 | x :: a, y :: b, p, h => by
  have ih := an5 a b (p ++ [y]) (by simpa using h)
  rw [adz, ady] at ih
  simp only [ae7, mid]
  by_cases hxy : x.toList = y.toList
  ·simp [hxy, ih]
  ·have hb : (x.toList == y.toList) = false := by simpa using hxy
   simp [hb, hxy]
theorem auj (a b : List Str) : af6 a b = decide (a.map (fun z : Str => z.toList) = b.map (fun z : Str => z.toList)) := by
 unfold af6
 by_cases hl : a.length = b.length
 ·have h := an5 a b [] hl
  simp only [List.nil_append, List.length_nil] at h
  simp only [hl, ad2, cond_false, h]
  split <;> simp_all
 ·have hne : a.map (fun z : Str => z.toList) ≠ b.map (fun z : Str => z.toList) := fun h => hl (by simpa using congrArg List.length h)
  have hn : ((a.length : Int) != (b.length : Int)) = true := by simp; omega
  simp [hn, hne]
theorem cNL : ∀ (a b p : List Str), match a36 ⟨p ++ b⟩ a p.length with
  | some k => k ≠ 0 ∧ a.map (fun z : Str => z.toList) ≠ b.map (fun z : Str => z.toList)
  | none => a.length = b.length → a.map (fun z : Str => z.toList) = b.map (fun z : Str => z.toList)
 | [], b, p => by
  simp only [a36]
  intro h
  cases b with
  | nil => rfl
  | cons => simp at h
 | x :: a, [], p => by simp [a36]
 | x :: a, y :: b, p => by
  have ih := cNL a b (p ++ [y])
  rw [adz, ady] at ih
  have hlt : decide (((p.length : Nat) : Int) < (((p ++ y :: b).length : Nat) : Int)) = true := by simp; omega
  simp only [a36, hlt, cond_true, mid]
  by_cases hk : a35 x y = 0
  ·have e : x.toList = y.toList := (avd _ _).1 hk
   rw [hk]
   simp only [ad2, cond_false]
   revert ih
   cases a36 ⟨p ++ y :: b⟩ a (p.length + 1) with
   | none => intro ih h; simp [e, ih (by simpa using h)]
   | some k => intro ih; exact ⟨ih.1, fun h => ih.2 (by simpa [e] using h)⟩
  ·have hn : (a35 x y != 0) = true := by simpa using hk
   simp only [hn, cond_true]
   exact ⟨hk, fun h => hk ((avd _ _).2 (by simp at h; exact h.1))⟩
theorem ao8 (a b : Name) : aav a b = a90 a b := by
 unfold aav a90 a26
 rw [auj]
 have h : match a36 b a.parts 0 with
  | some k => k ≠ 0 ∧ a.parts.map (fun z : Str => z.toList) ≠ b.parts.map (fun z : Str => z.toList)
  | none => a.parts.length = b.parts.length → a.parts.map (fun z : Str => z.toList) = b.parts.map (fun z : Str => z.toList) := cNL a.parts b.parts []
 revert h
 cases a36 b a.parts 0 with
 | some k => intro ⟨h1, h2⟩; simp [h1, h2]
 | none =>
  intro h
  by_cases hl : a.parts.length = b.parts.length
  ·simp [h hl, hl]
  ·have ne : a.parts.map (fun z : Str => z.toList) ≠ b.parts.map (fun z : Str => z.toList) := fun h => hl (by simpa using congrArg List.length h)
   rcases Nat.lt_or_gt_of_ne hl with c | c
   ·simp [ne, c]
   ·have c' : ¬ a.parts.length < b.parts.length := by omega
    simp [ne, c, c']
theorem vPL : ∀ l : List UInt8, a1d l = a37 l ∧ (a37 l = none ∨ a37 l = some false)
 | [] => ⟨rfl, .inl rfl⟩
 | c :: l => by
  obtain ⟨h1, h2⟩ := vPL l
  simp only [a1d, a37, h1, a0m, ge_iff_le]
  cases decide ((97 : Int) ≤ (c.toNat : Int)) <;> cases decide ((c.toNat : Int) ≤ 122) <;> cases decide ((48 : Int) ≤ (c.toNat : Int)) <;> cases decide ((c.toNat : Int) ≤ 57) <;> cases hc : ((c.toNat : Int) == 45) <;> simp [bne, hc, h2]
theorem aog (s : Str) : a64 s = a51 s := by
 unfold a64 a51
 obtain ⟨h1, h2⟩ := vPL s.data.toList
 rw [h1, ai8]
 rcases h2 with h | h <;> rw [h] <;> cases a0m (((s).size : Nat) : Int) 1 8 <;> rfl
theorem aqp : ∀ (f : Str → Bool) (l : List Str) (i : Nat), (adj f l i = none ∧ l.any f = false) ∨ ∃ j : Nat, adj f l i = some (j : Int) ∧ l.any f = true
 | f, [], i => .inl ⟨rfl, rfl⟩
 | f, x :: l, i => by
  simp only [adj, List.any_cons]
  cases hx : f x
  ·simpa using aqp f l (i + 1)
  ·exact .inr ⟨i, rfl, rfl⟩
theorem auy (l : List Str) (f : Str → Bool) : af0 l f = l.any f := by
 unfold af0 ae8
 rcases aqp f l 0 with ⟨h1, h2⟩ | ⟨j, h1, h2⟩ <;> simp [h1, h2]
theorem vNL : ∀ l : List Str, a7h l = bif l.any (fun e => !(a51 e)) then some false else none
 | [] => rfl
 | x :: l => by
  simp only [a7h, List.any_cons]
  cases (!(a51 x)) <;> simp [vNL l]
theorem aom (a : Name) : a52 a = a53 a := by
 unfold a52 a53 ace
 rw [auy, vNL]
 simp only [aog]
 cases a.parts.any (fun e => !(a51 e)) <;> cases decide ((((a.parts).length : Nat) : Int) ≤ 6) <;> rfl
theorem apb (a i : Int) : a7q a i = a7r a i := by
 simp only [a7q, a7r, ai8]
 cases decide (a ≥ 0) <;> cases a0m i 0 30 <;> rfl
theorem atw (w : Network) (k : Int) : abp w k = aca w k := by
 simp only [abp, aca, ai8, apb]
theorem ixiL (v : Int) : ∀ (l : List Int) (i : Nat), (ae1 v l i = none ∧ a69 v l = none) ∨ (∃ j : Nat, ae1 v l i = some (j : Int)) ∧ a69 v l = some true
 | [], i => .inl ⟨rfl, rfl⟩
 | x :: l, i => by
  simp only [ae1, a69]
  have e : (v == x) = (x == v) := BEq.comm
  rw [e]
  cases x == v
  ·exact ixiL v l (i + 1)
  ·exact .inr ⟨⟨i, rfl⟩, rfl⟩
theorem atl (l : List Int) (v : Int) : af5 l v = a9m l v := by
 unfold af5 aey a9m
 rcases ixiL v l 0 with ⟨h1, h2⟩ | ⟨⟨j, h1⟩, h2⟩
 ·rw [h1, h2]; rfl
 ·rw [h1, h2]
  exact decide_eq_true (show ((j : Nat) : Int) ≥ 0 by omega)
theorem rfL (f : List Int) (d : Int) : ∀ (l : List Link) (i : Nat) (o : List Link), a3r f d l i o = a3s f d l i o
 | [], i, o => rfl
 | x :: l, i, o => by
  simp only [a3r, a3s, atl, apb, rfL f d l]
theorem am2 (n_ : Topology) (f : List Int) (d : Int) : abq n_ f d = abr n_ f d := by
 simp only [abq, abr, rfL]
theorem akv (w_ : Network) : a21 w_ = a3b w_ := am2 _ _ _
end Go.Stp
namespace Go.Stp
theorem inR' {n a b : Int} (h : a0m n a b = true) : a ≤ n ∧ n ≤ b := by
 unfold a0m at h
 cases hd : decide (n ≥ a)
 ·rw [hd] at h; cases h
 ·rw [hd] at h
  exact ⟨of_decide_eq_true hd, of_decide_eq_true h⟩
theorem ay1 {x y : Int} (h : x < y) : ad5 x y = -1 := by
 have n : ∀ z : Int, af8 z = false := fun z => by simp [af8]
 simp only [ad5, n, cond_false, decide_eq_true h, cond_true]
theorem ay5 {x y : Int} (h : x > y) : ad5 x y = 1 := by
 have n : ∀ z : Int, af8 z = false := fun z => by simp [af8]
 simp only [ad5, n, cond_false, decide_eq_true h, decide_eq_false (show ¬ x < y by omega), cond_true]
theorem ay9 {x y : Int} (h : x = y) : ad5 x y = 0 := by
 have n : ∀ z : Int, af8 z = false := fun z => by simp [af8]
 simp only [ad5, n, cond_false, decide_eq_false (show ¬ x > y by omega), decide_eq_false (show ¬ x < y by omega)]
theorem avk (a b : Link) : decide (abt a b ≥ 0) = !(aaw a b) := by
 unfold abt aaw
 rcases Int.lt_trichotomy a.a b.a with h | h | h
 ·rw [ay1 h, decide_eq_true h]; rfl
 ·rw [ay9 h, decide_eq_false (show ¬ a.a < b.a by omega), beq_iff_eq.2 h]
  rcases Int.lt_trichotomy a.b b.b with k | k | k
  ·rw [ay1 k, decide_eq_true k]; rfl
  ·rw [ay9 k, decide_eq_false (show ¬ a.b < b.b by omega)]; rfl
  ·rw [ay5 k, decide_eq_false (show ¬ a.b < b.b by omega)]; rfl
 ·rw [ay5 h, decide_eq_false (show ¬ a.a < b.a by omega), beq_eq_false_iff_ne.2 (show a.a ≠ b.a by omega)]; rfl
theorem vtL (n_ : Topology) (hs : 1 ≤ n_.size ∧ n_.size ≤ 6) : ∀ (l : List Link) (i : Nat), a2e n_ l i = a2o n_ l i
 | [], i => rfl
 | x :: l, i => by
  have ih := vtL n_ hs l (i + 1)
  have w1 : i64.wrap (n_.size - 1) = n_.size - 1 := by simp [IntKind.wrap, IntKind.bits, IntKind.signed]; omega
  simp only [a2e, a2o, ai8, avk, ih, w1]
  cases ha : a0m x.a 0 (n_.size - 1)
  ·rfl
  ·have ha' : 0 ≤ x.a ∧ x.a ≤ n_.size - 1 := inR' ha
   have w2 : i64.wrap (x.a + 1) = x.a + 1 := by simp [IntKind.wrap, IntKind.bits, IntKind.signed]; omega
   rw [w2]
   have e : a0m x.b (x.a + 1) (n_.size - 1) = (a0m x.b 0 (n_.size - 1) && !(decide (x.a ≥ x.b))) := by
    unfold a0m
    by_cases h1 : x.b ≥ x.a + 1
    ·rw [decide_eq_true h1, decide_eq_true (show x.b ≥ 0 by omega), decide_eq_false (show ¬ x.a ≥ x.b by omega)]
     cases decide (x.b ≤ n_.size - 1) <;> rfl
    ·rw [decide_eq_false h1, decide_eq_true (show x.a ≥ x.b by omega)]
     cases decide (x.b ≥ 0) <;> cases decide (x.b ≤ n_.size - 1) <;> rfl
   rw [e]
   cases a0m x.b 0 (n_.size - 1) <;> cases decide (x.a ≥ x.b) <;> rfl
theorem vtI (n_ : Topology) : ∀ (l : List Link) (i : Nat), NT (a2e n_ l i)
 | [], i => .no
 | x :: l, i => by
  have ih := vtI n_ l (i + 1)
  simp only [a2e]
  refine ntc .sf (ntc .sf (ntc ?_ ih))
  cases (n_.links)[(((i : Nat) : Int) - 1).toNat]? with
  | none => exact .no
  | some e2 => exact ntc .sf ih
theorem aky (n_ : Topology) : a3l n_ = a3m n_ := by
 unfold a3l a3m
 cases hs : a0m n_.size 1 6
 ·rw [ai8, hs]
  rcases vtI n_ n_.links 0 with h1 | h1 <;> rcases vtN n_ n_.links 0 with h2 | h2 <;> rw [h1, h2]
 ·have hs' : 1 ≤ n_.size ∧ n_.size ≤ 6 := inR' hs
  rw [vtL n_ hs', ai8, hs]
theorem liL (a b : Int) : ∀ (l : List Link) (i : Nat), adq (fun e0_ => (a4l a b e0_)) l i = a27 a b l i
 | [], i => rfl
 | x :: l, i => by
  have ih := liL a b l (i + 1)
  simp only [adq, a27]
  rw [ih]
  simp only [a4l]
  cases (x.a == a) <;> cases (x.b == b) <;> cases (x.a == b) <;> cases (x.b == a) <;> rfl
theorem aou (n_ : Topology) (a b : Int) : abu n_ a b = a42 n_ a b := by
 unfold abu aea a42
 rw [liL] <;> (cases a27 a b n_.links 0 <;> rfl)
theorem nbL (n_ : Topology) (a : Int) : ∀ (m i : Nat) (o : List Int), i ≤ 6 → a54 n_ a (min m (6 - i)) i o = a38 n_ a m i o
 | 0, i, o, _ => by rw [Nat.zero_min]; rfl
 | m + 1, i, o, h => by
  by_cases hi : i < 6
  ·rw [show min (m + 1) (6 - i) = min m (6 - (i + 1)) + 1 by omega]
   have d : decide (((i : Nat) : Int) < 6) = true := decide_eq_true (by omega)
   simp only [a54, a38, aou, d, cond_true, nbL n_ a m (i + 1) _ (by omega)]
  ·rw [show min (m + 1) (6 - i) = 0 by omega]
   have d : decide (((i : Nat) : Int) < 6) = false := decide_eq_false (by omega)
   simp only [a54, a38, d, cond_false]
theorem aih (n_ : Topology) (a : Int) : a4m n_ a = a17 n_ a := by
 have h := nbL n_ a n_.size.toNat 0 [] (by omega)
 rw [show min n_.size.toNat (6 - 0) = (max 0 (min n_.size 6)).toNat by omega] at h
 simp only [a4m, a17, h]
theorem rtL (n_ : Name) (s : Int) : ∀ (l : List Route) (i : Nat), adh (fun e0_ => (a7l s n_ e0_)) l i = a3p n_ s l i
 | [], i => rfl
 | x :: l, i => by
  have ih := rtL n_ s l (i + 1)
  simp only [adh, a3p]
  rw [ih]
  simp only [a7l, ao8]
  cases (x.face == s) <;> cases a90 x.pfx n_ <;> rfl
theorem aiv (l : List Route) (n_ : Name) (s : Int) : a0r l n_ s = a0p l n_ s := by
 unfold a0r ae0 a0p
 rw [rtL] <;> (cases a3p n_ s l 0 <;> rfl)
theorem roL (l : List Route) : ∀ (r : List Route) (i : Nat), a39 l r i = a3a l r i
 | [], i => rfl
 | x :: r, i => by
  simp only [a39, a3a, aom, ai8, aiv, roL l r]
theorem amj (l : List Route) : a2p l = a3q l := by
 simp only [a2p, a3q, roL]
theorem cpL {α : Type} (L : List α → List α → List α) (h0 : ∀ o, L [] o = o) (h1 : ∀ e l o, L (e :: l) o = L l (o ++ [e])) : ∀ (l o : List α), L l o = o ++ l
 | [], o => by rw [h0, List.append_nil]
 | e :: l, o => by rw [h1, cpL L h0 h1 l, List.append_assoc]; rfl
theorem atj (l : List DataP) : a7m l = l := cpL ab7 (fun _ => rfl) (fun _ _ _ => rfl) l []
theorem axt (l : List Key) : ab9 l = l := cpL ab8 (fun _ => rfl) (fun _ _ _ => rfl) l []
theorem aw2 (l : List Name) : abb l = l := cpL aba (fun _ => rfl) (fun _ _ _ => rfl) l []
theorem axx (l : List SeenNonce) : ac1 l = l := cpL abc (fun _ => rfl) (fun _ _ _ => rfl) l []
theorem axc (l : List Measurement) : ac2 l = l := cpL abd (fun _ => rfl) (fun _ _ _ => rfl) l []
theorem axg (l : List PendingInterest) : ac3 l = l := cpL abe (fun _ => rfl) (fun _ _ _ => rfl) l []
theorem awf (c : ContentStore) : ac5 c = c := by
 show ContentStore.mk c.capacity (a68 _ c.entries []) = c
 rw [cpL (a68 fun e0_ => ac4 e0_) (fun _ => rfl) (fun _ _ _ => rfl)]; rfl
theorem ax6 (x : NodeP) : a9b x = x := by
 show NodeP.mk _ _ _ _ _ _ _ = x
 rw [atj, awf, axg, axx, ajd, axc]
theorem aw7 (l : List TableEntry) : a2q l = l := cpL (a4n fun e0_ => a97 e0_) (fun _ => rfl) (fun _ _ _ => rfl) l []
theorem aw3 (t : TrustPolicy) : a19 t = t := by
 show TrustPolicy.mk _ (a9d t.rules []) _ _ = t
 rw [axt, aw2, atj, cpL a9d (fun _ => rfl) (fun _ _ _ => rfl)]; rfl
theorem ap0 (w : Network) : a9i w = w := by
 show Network.mk _ _ _ (a7p w.nodes []) _ _ (a9h w.inFlight []) (a9g w.consumers []) _ _ = w
 rw [aw3, aw7, cpL a7p (fun _ => rfl) (fun e l o => by simp only [a7p, ax6]), cpL a9h (fun _ => rfl) (fun _ _ _ => rfl), cpL a9g (fun _ => rfl) (fun _ _ _ => rfl)]; rfl
theorem axe (l : List Key) : a98 l = l := cpL abf (fun _ => rfl) (fun _ _ _ => rfl) l []
theorem asd (l : List DataP) : a99 l = l := cpL abg (fun _ => rfl) (fun _ _ _ => rfl) l []
theorem ax9 (l : List PendingInterest) : ac6 l = l := cpL abh (fun _ => rfl) (fun _ _ _ => rfl) l []
theorem awy (l : List SeenNonce) : ac7 l = l := cpL abi (fun _ => rfl) (fun _ _ _ => rfl) l []
theorem ax0 (l : List Measurement) : ac8 l = l := cpL abj (fun _ => rfl) (fun _ _ _ => rfl) l []
theorem awc (c : ContentStore) : ac9 c = c := by
 show ContentStore.mk c.capacity (a9a c.entries []) = c
 rw [cpL a9a (fun _ => rfl) (fun _ _ _ => rfl)]; rfl
theorem axf (x : NodeP) : a9c x = x := by
 show NodeP.mk _ _ _ _ _ _ _ = x
 rw [asd, awc, ax9, awy, akb, ax0]
theorem awo (t : TrustPolicy) : a28 t = t := by
 show TrustPolicy.mk _ (a9f t.rules []) (a9e t.anchors []) _ = t
 rw [axe, asd, cpL a9f (fun _ => rfl) (fun _ _ _ => rfl), cpL a9e (fun _ => rfl) (fun _ _ _ => rfl)]; rfl
theorem awk (l : List TableEntry) : a4o l = l := cpL a67 (fun _ => rfl) (fun _ _ _ => rfl) l []
theorem au3 (w : Network) : a0c w = w := by
 show Network.mk _ _ _ (a43 w.nodes []) _ _ (a9l w.inFlight []) (a9k w.consumers []) _ _ = w
 rw [awo, awk, cpL a43 (fun _ => rfl) (fun e l o => by simp only [a43, axf]), cpL a9l (fun _ => rfl) (fun _ _ _ => rfl), cpL a9k (fun _ => rfl) (fun _ _ _ => rfl)]; rfl
theorem aj2 (l : List Advertisement) (f : Int) : a0t l f = a0e l f := by
 have e : ∀ (l : List Advertisement) (i : Nat), ad1 (fun e0_ => (a9n f e0_)) l i = a57 f l i := fun l => by
  induction l with
  | nil => intro i; rfl
  | cons x l ih => intro i; simp only [ad1, a57]; rw [ih]; simp only [a9n]
 unfold a0t adi a0e
 rw [e]
theorem ams (l : List Advertisement) (f : Int) (h : 0 ≤ a0e l f) : ∃ e, l[(a0e l f).toNat]? = some e := ⟨_, List.getElem?_eq_getElem (by have := ari l f; omega)⟩
theorem as2 (l : List Advertisement) (a b : Int) : a1y l a b = a1k l a b := by
 unfold a1y a1k a9o
 rw [aj2, aj2]
 by_cases h1 : 0 ≤ a0e l a
 ·obtain ⟨e1, he1⟩ := ams l a h1
  rw [show decide (a0e l a ≥ 0) = true from decide_eq_true h1, he1]
  by_cases h2 : 0 ≤ a0e l b
  ·obtain ⟨e2, he2⟩ := ams l b h2
   rw [show decide (a0e l b ≥ 0) = true from decide_eq_true h2, he2]
   simp only [cond_true, atl]
  ·rw [show decide (a0e l b ≥ 0) = false from decide_eq_false h2]
   simp only [cond_true, cond_false]
   cases a9m e1.neighbors b <;> rfl
 ·rw [show decide (a0e l a ≥ 0) = false from decide_eq_false h1]; rfl
theorem ak4 (l : List Advertisement) (a : Int) : a1e l a = a1l l a := by
 by_cases h : (0 ≤ a ∧ a ≤ 5) ∧ 0 ≤ a0e l a
 ·have h1 := ann l h.1 (by rw [aj2]; exact h.2)
  have h2 := ala l h.1 h.2
  rw [show a1y l = a1k l from funext fun a => funext fun b => as2 l a b] at h1
  exact h1.1.eq h2.1 (by omega) (by omega) h1.2 h2.2
 ·rw [amq l h, asy l (by rw [aj2]; exact h)]
theorem al7 (l : List Advertisement) (a b : Int) : a1s l a b = a1a l a b := by
 unfold a1s a1a; rw [ai8, ak4]
theorem aud (l : List Advertisement) (a : Int) : a15 l a = a2a l a := by
 unfold a15 a2a; rw [ak4, rchL]
theorem clL (l : List Advertisement) (a b : Int) (h : 0 < a1a l a b) : ∀ (m i : Nat) (o : List Int), a3c l a b m i o = a3u l a b m i o
 | 0, i, o => by simp only [a3c, a3u]
 | m + 1, i, o => by
  simp only [a3c, a3u, al7, as2, clL l a b h m, decide_eq_true h, decide_eq_true (show a1a l a b ≥ 0 by omega), cond_true]
theorem asg (l : List Advertisement) (a b : Int) (h : 0 < a1a l a b) : a3d l a b = a29 l a b := by
 simp only [a3d, a29, clL l a b h]
theorem avh {l : List Advertisement} {a b : Int} (h : b ∈ a2a l a) (hn : b ≠ a) : 0 < a1a l a b := by
 have h' : b ∈ a2f (a1l l a) 0 [] := by rw [rchL]; exact h
 rcases rchM _ 0 [] b h' with h | ⟨j, e, rfl, h2, h3⟩
 ·cases h
 ·rw [Nat.zero_add] at hn ⊢
  have hj := (List.getElem?_eq_some_iff.1 h2).1
  rw [alm] at hj
  have hin : a0m (j : Int) 0 5 = true := by unfold a0m; rw [decide_eq_true (show (j : Int) ≥ 0 by omega), decide_eq_true (show (j : Int) ≤ 5 by omega)]; rfl
  unfold a1a
  rw [hin, Int.toNat_natCast, h2]
  show 0 < e
  by_cases hf : (0 ≤ a ∧ a ≤ 5) ∧ 0 ≤ a0e l a
  ·have hg := (ala l hf.1 hf.2).1
   by_cases he : e = 0
   ·subst he; exact absurd (hg.zero j h2) hn
   ·omega
  ·rw [amq l hf] at h2
   have := List.mem_of_getElem? h2
   simp at this; omega
theorem av9 (n_ : Topology) (a : Int) : ∀ (m i : Nat) (o : List Int), (a38 n_ a m i o).length ≤ o.length + (6 - i)
 | 0, i, o => by simp only [a38]; omega
 | m + 1, i, o => by
  simp only [a38]
  cases h : decide (((i : Nat) : Int) < 6)
  ·rw [cond_false]; omega
  ·have hi : i < 6 := by have := of_decide_eq_true h; omega
   rw [cond_true]
   cases decide (a42 n_ a ((i : Nat) : Int) ≥ 0)
   ·rw [cond_false]; have := av9 n_ a m (i + 1) o; omega
   ·rw [cond_true]; have := av9 n_ a m (i + 1) (o ++ [((i : Nat) : Int)]); rw [List.length_append] at this; simp only [List.length_cons, List.length_nil] at this; omega
theorem axl (n_ : Topology) (a : Int) : (a17 n_ a).length ≤ 6 := av9 n_ a n_.size.toNat 0 []
theorem ftL (b : Int) : ∀ (l : List Int) (i : Nat), i + l.length ≤ 9223372036854775806 → (match ae1 b l i with | some r => i64.wrap (r + 1) | none => 0) = (match a6b b l i with | some r => r | none => 0) ∧ 0 ≤ (match a6b b l i with | some r => r | none => 0)
 | [], i, _ => ⟨rfl, Int.le_refl _⟩
 | x :: l, i, h => by
  simp only [List.length_cons] at h
  simp only [ae1, a6b]
  rw [show (b == x) = (x == b) from Bool.beq_comm]
  cases hx : (x == b)
  ·exact ftL b l (i + 1) (by omega)
  ·refine ⟨?_, ?_⟩
   ·show i64.wrap (((i : Nat) : Int) + 1) = ((i : Nat) : Int) + 1
    simp [IntKind.wrap, IntKind.bits, IntKind.signed]; omega
   ·show 0 ≤ ((i : Nat) : Int) + 1
    omega
theorem ash (n_ : Topology) (a b : Int) : a1z n_ a b = a13 n_ a b ∧ 0 ≤ a13 n_ a b := by
 have h := ftL b (a17 n_ a) 0 (by have := axl n_ a; omega)
 unfold a1z a13 aey
 rw [aih]
 refine ⟨?_, h.2⟩
 refine Eq.trans ?_ h.1
 cases ae1 b (a17 n_ a) 0 <;> rfl
theorem aqb (l : List Route) (r : Route) : a1m l r = a1t l r := by
 unfold a1m a1t
 rw [aiv, ajd, akb]
 simp only [amj]
 rfl
theorem crC (n_ : Topology) (l : List Advertisement) (a b : Int) (p : Name) (e2 : Advertisement) (i2 : Nat) (hp : e2.prefixes[i2]? = some p) : ∀ (c : List Int) (o : List Route), a2b n_ l a b p c o = a3e n_ l a b e2 i2 c o
 | [], o => by simp only [a2b, a3e]
 | x :: c, o => by
  have hf := ash n_ a x
  have hd : (a13 n_ a x != 0) = decide (a13 n_ a x > 0) := by
   by_cases h0 : a13 n_ a x = 0
   ·rw [h0]; rfl
   ·rw [decide_eq_true (show a13 n_ a x > 0 by omega)]; simpa using h0
  simp only [a2b, a3e, hp, hf.1, hd, aiv, al7, aqb, crC n_ l a b p e2 i2 hp c]
theorem crP (n_ : Topology) (l : List Advertisement) (a b : Int) (e2 : Advertisement) (hl : l[(a0e l b).toNat]? = some e2) (hb : b ≠ a) (hpos : 0 < a1a l a b) : ∀ (k i : Nat) (o : List Route), k = e2.prefixes.length - i → i ≤ e2.prefixes.length → (a59 n_ l a b i o).2 = a4p n_ l a b (e2.prefixes.drop i) o
 | k, i, o, hk, hi => by
  rw [a59, if_pos (by rw [aup hl]; exact hi), hl]
  dsimp only
  by_cases h : i < e2.prefixes.length
  ·obtain ⟨p, hp⟩ : ∃ p, e2.prefixes[i]? = some p := ⟨_, List.getElem?_eq_getElem h⟩
   rw [if_pos (by omega), if_pos (by simpa using hb), acx hp]
   simp only [a4p, crC n_ l a b p e2 i hp, asg l a b hpos]
   exact crP n_ l a b e2 hl hb hpos (e2.prefixes.length - (i + 1)) (i + 1) _ rfl (by omega)
  ·rw [if_neg (by omega), List.drop_eq_nil_of_le (by omega)]
   simp only [a4p]
 termination_by k => k
 decreasing_by omega
theorem crA (n_ : Topology) (l : List Advertisement) (a : Int) (hf : 0 ≤ a0e l a) (o : List Route) : (a59 n_ l a a 0 o).2 = o := by
 obtain ⟨e, he⟩ := ams l a hf
 rw [a59, if_pos (Nat.zero_le _), he]
 dsimp only
 split
 ·rw [if_neg (by simp)]
 ·rfl
theorem crL (n_ : Topology) (l : List Advertisement) (a : Int) : ∀ (r : List Int) (o : List Route), (∀ x ∈ r, x ∈ a2a l a) → a2t n_ l a r o = a6c n_ l a r o
 | [], o, _ => by simp only [a2t, a6c]
 | x :: r, o, h => by
  have hx := h x List.mem_cons_self
  have hf := (amg hx).2
  have ih := fun o' => crL n_ l a r o' (fun y hy => h y (List.mem_cons_of_mem _ hy))
  simp only [a2t, a6c, ih, aj2]
  cases h0 : (x == a)
  ·have hne : x ≠ a := by simpa using h0
   obtain ⟨e, he⟩ := ams l x hf
   rw [cond_false, he]
   dsimp only
   rw [crP n_ l a x e he hne (avh hx hne) _ 0 o rfl (Nat.zero_le _), List.drop_zero]
  ·have he : x = a := by simpa using h0
   subst he
   rw [cond_true, crA n_ l x hf]
theorem al1 (n_ : Topology) (l : List Advertisement) (a : Int) : a2g n_ l a = a3v n_ l a := by
 unfold a2g a3v
 rw [aud]
 simp only [crL n_ l a _ _ fun x hx => hx]
theorem adF (i : Nat) : ∀ (l : List TableEntry) (x : List Name), 4 ≤ x.length → a23 i l x = x
 | [], x, _ => by simp only [a23]
 | e :: l, x, h => by
  have d : decide (((x.length : Nat) : Int) < 4) = false := decide_eq_false (by omega)
  simp only [a23, d, cond_false, adF i l x h]
  cases (e.value == ((i : Nat) : Int)) <;> rfl
theorem adL2 (i : Nat) : ∀ (l : List TableEntry) (x : List Name), a23 i l x = a45 i l x
 | [], x => by simp only [a23, a45]
 | e :: l, x => by
  cases h : decide (((x.length : Nat) : Int) < 4)
  ·rw [adF i (e :: l) x (by have := of_decide_eq_false h; omega)]
   simp only [a45, h, cond_false]
  ·simp only [a23, a45, h, cond_true, adL2 i l]
   rfl
theorem adL1 (n_ : Topology) (p : List TableEntry) (v : Int) : ∀ (m i : Nat) (o : List Advertisement), a4q n_ p v m i o = a6d n_ p v m i o
 | 0, i, o => by simp only [a4q, a6d]
 | m + 1, i, o => by simp only [a4q, a6d, adL2, aih, adL1 n_ p v m]
theorem awd (n_ : Topology) (p : List TableEntry) (v : Int) : a1f n_ p v = a24 n_ p v := by
 unfold a1f a24
 rw [aky, ai8, adL1]
theorem rrL (w : Network) : ∀ (k i : Nat) (o : List NodeP), k = w.nodes.length - i → i ≤ w.nodes.length → o.length = w.nodes.length → (a6e w i o).2 = a2h w (w.nodes.drop i) i o
 | k, i, o, hk, hi, ho => by
  rw [a6e, if_pos hi]
  by_cases h : i < w.nodes.length
  ·obtain ⟨e, he⟩ : ∃ e, w.nodes[i]? = some e := ⟨_, List.getElem?_eq_getElem h⟩
   obtain ⟨f, hf⟩ : ∃ f, o[i]? = some f := ⟨_, List.getElem?_eq_getElem (by omega)⟩
   rw [if_pos (by omega), acx he]
   simp only [a2h, atw, al1, awd, akv, hf]
   split
   ·rename_i hu
    rw [hu, cond_true]
    exact rrL w (w.nodes.length - (i + 1)) (i + 1) _ rfl (by omega) (by simpa using ho)
   ·rename_i hu
    rw [Bool.eq_false_iff.2 hu, cond_false]
    exact rrL w (w.nodes.length - (i + 1)) (i + 1) o rfl (by omega) ho
  ·rw [if_neg (by omega), List.drop_eq_nil_of_le (by omega)]
   simp only [a2h]
 termination_by k => k
 decreasing_by all_goals omega
theorem ara (w : Network) : a5a w = a46 w := by
 have h := rrL w w.nodes.length 0 w.nodes rfl (Nat.zero_le _) rfl
 rw [List.drop_zero] at h
 unfold a5a a46
 rw [← h]
theorem ah4 (w : Network) : a09 w = a3w w := by
 unfold a09 a3w
 rw [ap0, au3, ara]
theorem aob {α : Type} [GoT α] [Sz α] (a : α) (l : List α) : szL (a :: l) = sz a + szL l := by simp [szL]
theorem av4 {α : Type} [GoT α] [Sz α] : ∀ {l : List α} {i : Nat} {e : α} (f : α), l[i]? = some e → szL (l.set i f) + sz e = szL l + sz f
 | [], i, e, f, h => by simp at h
 | x :: l, 0, e, f, h => by simp at h; subst h; simp only [List.set_cons_zero, aob]; omega
 | x :: l, i + 1, e, f, h => by
  have := av4 (l := l) (i := i) f (by simpa using h)
  simp only [List.set_cons_succ, aob]; omega
theorem av2 {α : Type} [GoT α] [Sz α] {Z : Nat} : ∀ (l : List α), (∀ x ∈ l, sz x ≤ Z) → szL l ≤ l.length * Z
 | [], _ => by simp [szL]
 | x :: l, h => by
  have h1 := h x List.mem_cons_self
  have h2 := av2 l (fun y hy => h y (List.mem_cons_of_mem _ hy))
  rw [aob, List.length_cons, Nat.add_mul, Nat.one_mul]; omega
def RB (Z : Nat) (o : List Route) : Prop := (∀ r ∈ o, sz r ≤ Z) ∧ o.length ≤ 24
theorem addB {Z : Nat} {o : List Route} {r : Route} (h : RB Z o) (hr : sz r.pfx ≤ Z) : RB Z (a1m o r).1 := by
 unfold a1m
 rw [ajd]
 cases decide (a0r o r.pfx r.face ≥ 0)
 ·rw [cond_false]
  cases hv : a2p (o ++ [(Route.mk (a0f r.pfx) r.face r.cost)])
  ·exact h
  ·refine ⟨fun x hx => ?_, aux hv⟩
   rcases List.mem_append.1 hx with hx | hx
   ·exact h.1 x hx
   ·simp only [List.mem_singleton] at hx; subst hx; rw [ako]; exact hr
 ·rw [cond_true]
  split
  ·exact ⟨(fun _ h => by cases h), Nat.zero_le _⟩
  ·rename_i e he
   cases hv : a2p (o.set (a0r o r.pfx r.face).toNat (Route.mk e.pfx e.face r.cost))
   ·exact h
   ·refine ⟨fun x hx => ?_, by show (o.set _ _).length ≤ 24; rw [List.length_set]; exact h.2⟩
    rcases List.mem_or_eq_of_mem_set hx with hx | hx
    ·exact h.1 x hx
    ·subst hx; rw [ako]; have := h.1 e (List.mem_of_getElem? he); rw [ako] at this; exact this
theorem cB3 {Z : Nat} (n_ : Topology) (l : List Advertisement) (a b : Int) (p : Name) (hp : sz p ≤ Z) : ∀ (c : List Int) (o : List Route), RB Z o → RB Z (a2b n_ l a b p c o)
 | [], o, h => by simpa only [a2b] using h
 | x :: c, o, h => by
  simp only [a2b]
  have h1 := cB3 n_ l a b p hp c _ (addB (r := Route.mk p (a1z n_ a x) (a1s l a b)) h hp)
  have h2 := cB3 n_ l a b p hp c o h
  cases (a1z n_ a x != 0)
  ·exact h2
  ·cases decide (a0r o p (a1z n_ a x) < 0)
   ·simp only [cond_true, cond_false]
    split
    ·exact ⟨(fun _ h => by cases h), Nat.zero_le _⟩
    ·rename_i e he
     cases decide (e.cost > a1s l a b)
     ·exact h2
     ·exact h1
   ·exact h1
theorem cB2 {Z : Nat} (n_ : Topology) (l : List Advertisement) (a b : Int) : ∀ (q : List Name) (o : List Route), (∀ x ∈ q, sz x ≤ Z) → RB Z o → RB Z (a4p n_ l a b q o)
 | [], o, _, h => by simpa only [a4p] using h
 | p :: q, o, hq, h => by
  simp only [a4p]
  exact cB2 n_ l a b q _ (fun x hx => hq x (List.mem_cons_of_mem _ hx)) (cB3 n_ l a b p (hq p List.mem_cons_self) _ o h)
theorem cB1 {Z : Nat} (n_ : Topology) (l : List Advertisement) (a : Int) (hl : ∀ e ∈ l, ∀ x ∈ e.prefixes, sz x ≤ Z) : ∀ (q : List Int) (o : List Route), RB Z o → RB Z (a2t n_ l a q o)
 | [], o, h => by simpa only [a2t] using h
 | b :: q, o, h => by
  simp only [a2t]
  cases (b == a)
  ·rw [cond_false]
   split
   ·exact ⟨(fun _ h => by cases h), Nat.zero_le _⟩
   ·rename_i e he
    exact cB1 n_ l a hl q _ (cB2 n_ l a b e.prefixes o (hl e (List.mem_of_getElem? he)) h)
  ·exact cB1 n_ l a hl q o h
theorem cB {Z : Nat} (n_ : Topology) (l : List Advertisement) (a : Int) (hl : ∀ e ∈ l, ∀ x ∈ e.prefixes, sz x ≤ Z) : sz (a2g n_ l a) ≤ 24 + 24 * Z := by
 have h := cB1 (Z := Z) n_ l a hl (a15 l a) [] ⟨(fun _ h => by cases h), Nat.zero_le _⟩
 have h1 := av2 _ h.1
 have h2 : (a2t n_ l a (a15 l a) []).length * Z ≤ 24 * Z := Nat.mul_le_mul_right _ h.2
 have h3 := h.2
 show sz (a2t n_ l a (a15 l a) []) ≤ _
 rw [aem]; omega
theorem aB2 {Z : Nat} (i : Nat) : ∀ (p : List TableEntry) (x : List Name), (∀ e ∈ p, sz e.name ≤ Z) → (∀ y ∈ x, sz y ≤ Z) → ∀ y ∈ a23 i p x, sz y ≤ Z
 | [], x, _, h => by simpa only [a23] using h
 | e :: p, x, hp, h => by
  have hp' : ∀ e ∈ p, sz e.name ≤ Z := fun y hy => hp y (List.mem_cons_of_mem _ hy)
  simp only [a23]
  cases (e.value == ((i : Nat) : Int))
  ·exact aB2 i p x hp' h
  ·cases decide (((x.length : Nat) : Int) < 4)
   ·exact aB2 i p x hp' h
   ·refine aB2 i p _ hp' (fun y hy => ?_)
    rcases List.mem_append.1 hy with hy | hy
    ·exact h y hy
    ·rw [List.mem_singleton.1 hy]; exact hp e List.mem_cons_self
theorem aB1 {Z : Nat} (n_ : Topology) (p : List TableEntry) (v : Int) (hp : ∀ e ∈ p, sz e.name ≤ Z) : ∀ (m i : Nat) (o : List Advertisement), (∀ e ∈ o, ∀ x ∈ e.prefixes, sz x ≤ Z) → ∀ e ∈ a4q n_ p v m i o, ∀ x ∈ e.prefixes, sz x ≤ Z
 | 0, i, o, h => by simpa only [a4q] using h
 | m + 1, i, o, h => by
  simp only [a4q]
  refine aB1 n_ p v hp m (i + 1) _ (fun e he => ?_)
  rcases List.mem_append.1 he with he | he
  ·exact h e he
  ·rw [List.mem_singleton.1 he]; exact aB2 i p [] hp (fun _ h => by cases h)
theorem aB {Z : Nat} (n_ : Topology) (p : List TableEntry) (v : Int) (hp : ∀ e ∈ p, sz e.name ≤ Z) : ∀ e ∈ a1f n_ p v, ∀ x ∈ e.prefixes, sz x ≤ Z := by
 unfold a1f
 cases a3l n_
 ·intro e he; cases he
 ·cases a0u v 1 1000
  ·intro e he; cases he
  ·exact aB1 n_ p v hp _ 0 [] (fun _ h => by cases h)
theorem rB {B : Nat} (w : Network) (hB : ∀ a, sz (a2g w.topology (a1f (a21 w) w.producers 1) a) ≤ B) : ∀ (l : List NodeP) (i : Nat) (o : List NodeP), i + l.length = o.length → szL (a2h w l i o) ≤ szL o + l.length * B ∧ (a2h w l i o).length = o.length
 | [], i, o, _ => by simp only [a2h]; exact ⟨by simp, by first | rfl | trivial⟩
 | x :: l, i, o, h => by
  rw [List.length_cons] at h
  simp only [a2h, List.length_cons, Nat.add_mul, Nat.one_mul]
  cases abp (Network.mk w.topology w.trust w.producers o w.downNodes w.failedLinks w.inFlight w.consumers w.now w.dropped) ((i : Nat) : Int)
  ·have := rB w hB l (i + 1) o (by omega)
   exact ⟨by simp only [cond_false]; omega, this.2⟩
  ·obtain ⟨e, he⟩ : ∃ e, o[i]? = some e := ⟨_, List.getElem?_eq_getElem (by omega)⟩
   simp only [cond_true, he]
   have h1 := rB w hB l (i + 1) (o.set i (NodeP.mk e.locl e.cache e.pending e.seen (a2g w.topology (a1f (a21 w) w.producers 1) ((i : Nat) : Int)) e.measurements e.dropped)) (by rw [List.length_set]; omega)
   have h2 := av4 (NodeP.mk e.locl e.cache e.pending e.seen (a2g w.topology (a1f (a21 w) w.producers 1) ((i : Nat) : Int)) e.measurements e.dropped) he
   have h3 := hB ((i : Nat) : Int)
   rw [List.length_set] at h1
   rw [amr, amr] at h2
   dsimp only at h2
   exact ⟨by omega, h1.2⟩
theorem ass (w : Network) (hz : sz w ≤ 2097152) : sz (a5a w) ≤ 1125899906842624 := by
 rw [ajk] at hz
 have hp : ∀ e ∈ w.producers, sz e.name ≤ 2097152 := fun e he => by
  have h1 := ao4 he
  rw [ai7] at h1
  have h2 := aem w.producers
  omega
 have hB := fun a => cB w.topology (a1f (a21 w) w.producers 1) a (aB (a21 w) w.producers 1 hp)
 have hr := rB w hB w.nodes 0 w.nodes (Nat.zero_add _)
 have hl := aem w.nodes
 have hm : w.nodes.length * (24 + 24 * 2097152) ≤ 2097152 * (24 + 24 * 2097152) := Nat.mul_le_mul_right _ (by omega)
 rw [ajk]
 show sz w.topology + sz w.trust + sz w.producers + sz (a2h w w.nodes 0 w.nodes) + sz w.failedLinks + sz w.inFlight + sz w.consumers ≤ _
 rw [aem (a2h w w.nodes 0 w.nodes), hr.2]
 omega
theorem ak9 (w : Network) (hz : sz w ≤ 1048576) : sz (a3w w) ≤ 1125899906842624 := by
 rw [← ah4]
 unfold a09
 rw [ap0]
 exact ass w (by omega)
end Go.Stp
namespace Go.Proofs.YtpmejlbgjkiobaaGreat.Facts
set_option maxRecDepth 100000
theorem laid : laidOutB Tryz.prog = true := by kernel_rfl
theorem rowed : mapsRowed Tryz.prog = true := by kernel_rfl
end Go.Proofs.YtpmejlbgjkiobaaGreat.Facts
namespace Go.Stp
theorem aix (aW : Network) : a09 aW = a3w aW := ah4 aW
theorem air (aW : Network) (hz : sz aW ≤ 1048576): sz (a3w aW) ≤ 1125899906842624 := ak9 aW hz
theorem ajq (aW : Network) (haW : GoT.ok 10 aW) : a6f aW = true := by
 unfold a6f
 by_cases s0 : a1n aW 1048576 < 0
 ·simp only [dT s0, cond_true]
 have d0 := dF (show 0 ≤ a1n aW 1048576 by omega)
 obtain ⟨t0, z0⟩ := (amf aW 1048576 haW (by omega) (by omega)).pos (by omega)
 obtain ⟨mp0, mq0, me0⟩ := ap8 aW (1) (by omega) (by omega)
 have dk := dF (show 0 ≤ (a01 aW (1)).1 by omega)
 have hb := air aW (by omega)
 have hb0 := hb
 obtain ⟨gp0, gq0, ge0⟩ := ap8 (a3w aW) (1) (by omega) (by omega)
 have dg0 := dF (show 0 ≤ (a01 (a3w aW) (1)).1 by omega)
 simp only [d0, cond_false, auc, aix, au2, dk, ge0, dg0, Bool.not_true, ad2, ade, beq_self_eq_true]
end Go.Stp
namespace Go.Proofs.YtpmejlbgjkiobaaGreat
open Go.Stp
open Go.RowKit (Below)
open Go.ChangeShapes Go.WideShapes Go.ChangeAt
namespace LawRecomputeRoutes
theorem own : ownKnob Tryz.prog.godebug = none := by kernel_rfl
theorem laid : laidOutB Tryz.prog = true := Facts.laid
set_option maxRecDepth 100000 in
theorem op239 : Opens Tryz.prog 239 Link := ae9 (fun e : Link => (e.a, e.b)) (fun b => ⟨b.1, b.2⟩) (fun _ => rfl) Tryz.underlying239 (show Tryz.prog.cellsOf 239 = 2 by kernel_rfl) (ad4 rfl (aeb Tryz.underlying3 (by kernel_rfl)) (aeq rfl (aeb Tryz.underlying3 (by kernel_rfl))))
set_option maxRecDepth 100000 in
theorem op59 : Opens Tryz.prog 59 Topology := ae9 (fun e : Topology => (e.size, e.links)) (fun b => ⟨b.1, b.2⟩) (fun _ => rfl) Tryz.underlying59 (show Tryz.prog.cellsOf 59 = 2 by kernel_rfl) (ad4 rfl (aeb Tryz.underlying3 (by kernel_rfl)) (aeq rfl (ael Tryz.underlying57 (by kernel_rfl) op239)))
set_option maxRecDepth 100000 in
theorem op141 : Opens Tryz.prog 141 Name := ae9 (fun e : Name => e.parts) (fun b => ⟨b⟩) (fun _ => rfl) Tryz.underlying141 (show Tryz.prog.cellsOf 141 = 1 by kernel_rfl) (aeq rfl (ael Tryz.underlying47 (by kernel_rfl) (arc Tryz.underlying9 (by kernel_rfl))))
set_option maxRecDepth 100000 in
theorem op222 : Opens Tryz.prog 222 Key := ae9 (fun e : Key => (e.name, e.secret)) (fun b => ⟨b.1, b.2⟩) (fun _ => rfl) Tryz.underlying222 (show Tryz.prog.cellsOf 222 = 2 by kernel_rfl) (ad4 rfl op141 (aeq rfl (aeb Tryz.underlying3 (by kernel_rfl))))
set_option maxRecDepth 100000 in
theorem op224 : Opens Tryz.prog 224 Pattern := ae9 (fun e : Pattern => e.parts) (fun b => ⟨b⟩) (fun _ => rfl) Tryz.underlying224 (show Tryz.prog.cellsOf 224 = 1 by kernel_rfl) (aeq rfl (ael Tryz.underlying47 (by kernel_rfl) (arc Tryz.underlying9 (by kernel_rfl))))
set_option maxRecDepth 100000 in
theorem op226 : Opens Tryz.prog 226 Rule := ae9 (fun e : Rule => (e.dataPattern, e.keyPattern)) (fun b => ⟨b.1, b.2⟩) (fun _ => rfl) Tryz.underlying226 (show Tryz.prog.cellsOf 226 = 2 by kernel_rfl) (ad4 rfl op224 (aeq rfl op224))
set_option maxRecDepth 100000 in
theorem op230 : Opens Tryz.prog 230 DataP := ae9 (fun e : DataP => (e.name, e.content, e.keyName, e.freshUntil, e.signature)) (fun b => ⟨b.1, b.2.1, b.2.2.1, b.2.2.2.1, b.2.2.2.2⟩) (fun _ => rfl) Tryz.underlying230 (show Tryz.prog.cellsOf 230 = 5 by kernel_rfl) (ad4 rfl op141 (ad4 rfl (ael Tryz.underlying22 (by kernel_rfl) (auk Tryz.underlying5 (by kernel_rfl))) (ad4 rfl op141 (ad4 rfl (aeb Tryz.underlying3 (by kernel_rfl)) (aeq rfl (aeb Tryz.underlying3 (by kernel_rfl)))))))
set_option maxRecDepth 100000 in
theorem op65 : Opens Tryz.prog 65 TrustPolicy := ae9 (fun e : TrustPolicy => (e.keys, e.rules, e.anchors, e.certificates)) (fun b => ⟨b.1, b.2.1, b.2.2.1, b.2.2.2⟩) (fun _ => rfl) Tryz.underlying65 (show Tryz.prog.cellsOf 65 = 4 by kernel_rfl) (ad4 rfl (ael Tryz.underlying60 (by kernel_rfl) op222) (ad4 rfl (ael Tryz.underlying61 (by kernel_rfl) op226) (ad4 rfl (ael Tryz.underlying62 (by kernel_rfl) op141) (aeq rfl (ael Tryz.underlying63 (by kernel_rfl) op230)))))
set_option maxRecDepth 100000 in
theorem op143 : Opens Tryz.prog 143 TableEntry := ae9 (fun e : TableEntry => (e.name, e.value)) (fun b => ⟨b.1, b.2⟩) (fun _ => rfl) Tryz.underlying143 (show Tryz.prog.cellsOf 143 = 2 by kernel_rfl) (ad4 rfl op141 (aeq rfl (aeb Tryz.underlying3 (by kernel_rfl))))
set_option maxRecDepth 100000 in
theorem op430 : Opens Tryz.prog 430 CacheEntry := ae9 (fun e : CacheEntry => (e.data, e.lastUsed)) (fun b => ⟨b.1, b.2⟩) (fun _ => rfl) Tryz.underlying430 (show Tryz.prog.cellsOf 430 = 6 by kernel_rfl) (ad4 rfl op230 (aeq rfl (aeb Tryz.underlying3 (by kernel_rfl))))
set_option maxRecDepth 100000 in
theorem op268 : Opens Tryz.prog 268 ContentStore := ae9 (fun e : ContentStore => (e.capacity, e.entries)) (fun b => ⟨b.1, b.2⟩) (fun _ => rfl) Tryz.underlying268 (show Tryz.prog.cellsOf 268 = 2 by kernel_rfl) (ad4 rfl (aeb Tryz.underlying3 (by kernel_rfl)) (aeq rfl (ael Tryz.underlying266 (by kernel_rfl) op430)))
set_option maxRecDepth 100000 in
theorem op472 : Opens Tryz.prog 472 Requester := ae9 (fun e : Requester => (e.face, e.nonce, e.expiry)) (fun b => ⟨b.1, b.2.1, b.2.2⟩) (fun _ => rfl) Tryz.underlying472 (show Tryz.prog.cellsOf 472 = 3 by kernel_rfl) (ad4 rfl (aeb Tryz.underlying3 (by kernel_rfl)) (ad4 rfl (aeb Tryz.underlying3 (by kernel_rfl)) (aeq rfl (aeb Tryz.underlying3 (by kernel_rfl)))))
set_option maxRecDepth 100000 in
theorem op391 : Opens Tryz.prog 391 PendingInterest := ae9 (fun e : PendingInterest => (e.name, e.requesters, e.lastSent)) (fun b => ⟨b.1, b.2.1, b.2.2⟩) (fun _ => rfl) Tryz.underlying391 (show Tryz.prog.cellsOf 391 = 3 by kernel_rfl) (ad4 rfl op141 (ad4 rfl (ael Tryz.underlying389 (by kernel_rfl) op472) (aeq rfl (aeb Tryz.underlying3 (by kernel_rfl)))))
set_option maxRecDepth 100000 in
theorem op394 : Opens Tryz.prog 394 SeenNonce := ae9 (fun e : SeenNonce => (e.name, e.nonce)) (fun b => ⟨b.1, b.2⟩) (fun _ => rfl) Tryz.underlying394 (show Tryz.prog.cellsOf 394 = 2 by kernel_rfl) (ad4 rfl op141 (aeq rfl (aeb Tryz.underlying3 (by kernel_rfl))))
set_option maxRecDepth 100000 in
theorem op397 : Opens Tryz.prog 397 Route := ae9 (fun e : Route => (e.pfx, e.face, e.cost)) (fun b => ⟨b.1, b.2.1, b.2.2⟩) (fun _ => rfl) Tryz.underlying397 (show Tryz.prog.cellsOf 397 = 3 by kernel_rfl) (ad4 rfl op141 (ad4 rfl (aeb Tryz.underlying3 (by kernel_rfl)) (aeq rfl (aeb Tryz.underlying3 (by kernel_rfl)))))
set_option maxRecDepth 100000 in
theorem op400 : Opens Tryz.prog 400 Measurement := ae9 (fun e : Measurement => (e.pfx, e.face, e.failures)) (fun b => ⟨b.1, b.2.1, b.2.2⟩) (fun _ => rfl) Tryz.underlying400 (show Tryz.prog.cellsOf 400 = 3 by kernel_rfl) (ad4 rfl op141 (ad4 rfl (aeb Tryz.underlying3 (by kernel_rfl)) (aeq rfl (aeb Tryz.underlying3 (by kernel_rfl)))))
set_option maxRecDepth 100000 in
theorem op274 : Opens Tryz.prog 274 NodeP := ae9 (fun e : NodeP => (e.locl, e.cache, e.pending, e.seen, e.routes, e.measurements, e.dropped)) (fun b => ⟨b.1, b.2.1, b.2.2.1, b.2.2.2.1, b.2.2.2.2.1, b.2.2.2.2.2.1, b.2.2.2.2.2.2⟩) (fun _ => rfl) Tryz.underlying274 (show Tryz.prog.cellsOf 274 = 8 by kernel_rfl) (ad4 rfl (ael Tryz.underlying63 (by kernel_rfl) op230) (ad4 rfl op268 (ad4 rfl (ael Tryz.underlying269 (by kernel_rfl) op391) (ad4 rfl (ael Tryz.underlying270 (by kernel_rfl) op394) (ad4 rfl (ael Tryz.underlying271 (by kernel_rfl) op397) (ad4 rfl (ael Tryz.underlying272 (by kernel_rfl) op400) (aeq rfl (aeb Tryz.underlying3 (by kernel_rfl)))))))))
set_option maxRecDepth 100000 in
theorem op277 : Opens Tryz.prog 277 Interest := ae9 (fun e : Interest => (e.name, e.nonce, e.hopLimit, e.lifetime)) (fun b => ⟨b.1, b.2.1, b.2.2.1, b.2.2.2⟩) (fun _ => rfl) Tryz.underlying277 (show Tryz.prog.cellsOf 277 = 4 by kernel_rfl) (ad4 rfl op141 (ad4 rfl (aeb Tryz.underlying3 (by kernel_rfl)) (ad4 rfl (aeb Tryz.underlying3 (by kernel_rfl)) (aeq rfl (aeb Tryz.underlying3 (by kernel_rfl))))))
set_option maxRecDepth 100000 in
theorem op279 : Opens Tryz.prog 279 PacketInFlight := ae9 (fun e : PacketInFlight => (e.to, e.face, e.isInterest, e.interest, e.data)) (fun b => ⟨b.1, b.2.1, b.2.2.1, b.2.2.2.1, b.2.2.2.2⟩) (fun _ => rfl) Tryz.underlying279 (show Tryz.prog.cellsOf 279 = 12 by kernel_rfl) (ad4 rfl (aeb Tryz.underlying3 (by kernel_rfl)) (ad4 rfl (aeb Tryz.underlying3 (by kernel_rfl)) (ad4 rfl (apr Tryz.underlying4 (by kernel_rfl)) (ad4 rfl op277 (aeq rfl op230)))))
set_option maxRecDepth 100000 in
theorem op282 : Opens Tryz.prog 282 Consumer := ae9 (fun e : Consumer => (e.node, e.index, e.name, e.attempts, e.wait, e.satisfied, e.data)) (fun b => ⟨b.1, b.2.1, b.2.2.1, b.2.2.2.1, b.2.2.2.2.1, b.2.2.2.2.2.1, b.2.2.2.2.2.2⟩) (fun _ => rfl) Tryz.underlying282 (show Tryz.prog.cellsOf 282 = 11 by kernel_rfl) (ad4 rfl (aeb Tryz.underlying3 (by kernel_rfl)) (ad4 rfl (aeb Tryz.underlying3 (by kernel_rfl)) (ad4 rfl op141 (ad4 rfl (aeb Tryz.underlying3 (by kernel_rfl)) (ad4 rfl (aeb Tryz.underlying3 (by kernel_rfl)) (ad4 rfl (apr Tryz.underlying4 (by kernel_rfl)) (aeq rfl op230)))))))
set_option maxRecDepth 100000 in
theorem op86 : Opens Tryz.prog 86 Network := ae9 (fun e : Network => (e.topology, e.trust, e.producers, e.nodes, e.downNodes, e.failedLinks, e.inFlight, e.consumers, e.now, e.dropped)) (fun b => ⟨b.1, b.2.1, b.2.2.1, b.2.2.2.1, b.2.2.2.2.1, b.2.2.2.2.2.1, b.2.2.2.2.2.2.1, b.2.2.2.2.2.2.2.1, b.2.2.2.2.2.2.2.2.1, b.2.2.2.2.2.2.2.2.2⟩) (fun _ => rfl) Tryz.underlying86 (show Tryz.prog.cellsOf 86 = 14 by kernel_rfl) (ad4 rfl op59 (ad4 rfl op65 (ad4 rfl (ael Tryz.underlying66 (by kernel_rfl) op143) (ad4 rfl (ael Tryz.underlying82 (by kernel_rfl) op274) (ad4 rfl (aeb Tryz.underlying3 (by kernel_rfl)) (ad4 rfl (ael Tryz.underlying35 (by kernel_rfl) (aeb Tryz.underlying3 (by kernel_rfl))) (ad4 rfl (ael Tryz.underlying83 (by kernel_rfl) op279) (ad4 rfl (ael Tryz.underlying84 (by kernel_rfl) op282) (ad4 rfl (aeb Tryz.underlying3 (by kernel_rfl)) (aeq rfl (aeb Tryz.underlying3 (by kernel_rfl))))))))))))
set_option maxRecDepth 100000 in
theorem lifted (os : Os) (started : os.Started) (H : Type) (enc : TypeId × Value → H) :
  ReturnsInHanded {} Tryz.checked os 5 .any (Rows.fnExactRecomputeRoutesSpec.pre6 enc Tryz.prog Tryz.f5 Rows.fnExactRecomputeRoutesRow.domain false) (Rows.fnExactRecomputeRoutesSpec.post enc Tryz.prog Tryz.f5 false true false false) := by
 refine returnsInHanded_of_change (C := Tryz.checked) own started (by kernel_rfl) Tryz.func5
  (ChangeSpec.witness6 (enc := enc) (C := Tryz.checked) false ⟨#[], #[.agg #[.int .i64 (0), .slice none 0 0, .slice none 0 0, .slice none 0 0, .slice none 0 0, .slice none 0 0, .slice none 0 0, .slice none 0 0, .int .i64 (0), .slice none 0 0, .slice none 0 0, .slice none 0 0, .int .i64 (0), .int .i64 (0)]], []⟩ 8 (by kernel_rfl) (by kernel_rfl) (by kernel_rfl) (by kernel_rfl)) ?_
 intro W base args ds gs before hval0 hW _ _
 have hval : ∀ (j : Nat) t v, Tryz.f5.params[j]? = some t → args[j]? = some v → Value.okWide Tryz.prog W .any base t v := hval0
 have hW' := hW
 obtain ⟨p, q, hA0, _⟩ := hW
 have hA : DataW.TrodAll enc Tryz.prog W 0 (fun _ => true) true Tryz.f5.params.toList args.toList ds p := hA0
 rw [Tryz.params5] at hA hval
 obtain ⟨v0, vs0, d0, ds0, p0, q0, hargs, rfl, rfl, h0, r0⟩ := ChangeShapes.trodAll_cons hA
 obtain ⟨rfl, rfl, rfl⟩ := trodAll_nil r0
 obtain rfl : args = #[v0] := by cases args; simp_all
 obtain ⟨a0, x0, rfl, k0, g0⟩ := (atz Tryz.underlying86 op86) (hval 0 86 _ rfl rfl) h0
 have ht := ajq a0 k0
 refine (f5 0 (by decide) a0 (g0 (MF.rs .der x0.1.2.1 x0.1.2.2 a0.topology.links) (List.mem_cons_self)) (g0 (MF.rs .der x0.2.1.1.1 x0.2.1.1.2 a0.trust.keys) (by simp [GoT.fa])) (g0 (MF.rs .der x0.2.1.2.1.1 x0.2.1.2.1.2 a0.trust.rules) (by simp [GoT.fa])) (g0 (MF.rs .der x0.2.1.2.2.1.1 x0.2.1.2.2.1.2 a0.trust.anchors) (by simp [GoT.fa])) (g0 (MF.rs .der x0.2.1.2.2.2.1 x0.2.1.2.2.2.2 a0.trust.certificates) (by simp [GoT.fa])) (g0 (MF.rs .der x0.2.2.1.1 x0.2.2.1.2 a0.producers) (by simp [GoT.fa])) (g0 (MF.rs .der x0.2.2.2.1.1 x0.2.2.2.1.2 a0.nodes) (by simp [GoT.fa])) (g0 (MF.rs .der x0.2.2.2.2.2.1.1 x0.2.2.2.2.2.1.2 a0.failedLinks) (by simp [GoT.fa])) (g0 (MF.rs .der x0.2.2.2.2.2.2.1.1 x0.2.2.2.2.2.2.1.2 a0.inFlight) (by simp [GoT.fa])) (g0 (MF.rs .der x0.2.2.2.2.2.2.2.1.1 x0.2.2.2.2.2.2.2.1.2 a0.consumers) (by simp [GoT.fa])) k0).2.mono fun e W1 ⟨v, he, hb, hv⟩ => ?_
 rw [ht] at hv
 obtain ⟨rfl, _⟩ := hv
 subst he
 exact ⟨_, rfl, awn laid (by kernel_rfl) rfl rfl Tryz.underlying4 (fun ds h => by match ds, h with | [_], _ => rfl) hW' hb.below⟩
set_option maxRecDepth 100000 in
theorem c_inPlace : (Rows.fnExactRecomputeRoutesRow.inPlace == Tryz.prog.inPlace 5) = true := by kernel_rfl
set_option maxRecDepth 100000 in
theorem c_unfollowed : (Rows.fnExactRecomputeRoutesRow.unfollowed == Tryz.prog.unfollowed 5) = true := by kernel_rfl
set_option maxRecDepth 100000 in
theorem c_recurses : (Rows.fnExactRecomputeRoutesRow.recurses == Tryz.prog.recurses 5) = true := by kernel_rfl
set_option maxRecDepth 100000 in
theorem c_named : (Rows.fnExactRecomputeRoutesRow.named == Tryz.prog.varsNamed 5) = true := by kernel_rfl
set_option maxRecDepth 100000 in
theorem c_read : Tryz.f5.params.all (Tryz.pinned.checked.prog.readableRec ·) = true := by kernel_rfl
set_option maxRecDepth 100000 in
theorem c_maps : (Rows.fnExactRecomputeRoutesRow.maps == (Tryz.f5.params.toList ++ Rows.fnExactRecomputeRoutesSpec.plain.varTypes Tryz.pinned.checked.prog).any (Tryz.pinned.checked.prog.mapsRec ·)) = true := by kernel_rfl
set_option maxRecDepth 100000 in
theorem c_ifaces : (Rows.fnExactRecomputeRoutesRow.ifaces == (Tryz.f5.params.toList ++ Rows.fnExactRecomputeRoutesSpec.plain.varTypes Tryz.pinned.checked.prog).any (Tryz.pinned.checked.prog.ifacesRec ·)) = true := by kernel_rfl
set_option maxRecDepth 100000 in
theorem c_loops : (Rows.fnExactRecomputeRoutesRow.loops == (Tryz.f5.params.toList ++ Rows.fnExactRecomputeRoutesSpec.plain.varTypes Tryz.pinned.checked.prog).any (Tryz.pinned.checked.prog.loopsFrom ·)) = true := by kernel_rfl
set_option maxRecDepth 100000 in
theorem c_wide : (Rows.fnExactRecomputeRoutesRow.wideKeys == (Tryz.f5.params.toList ++ Rows.fnExactRecomputeRoutesSpec.plain.varTypes Tryz.pinned.checked.prog ++ Tryz.f5.resultTypes.toList).any (Tryz.pinned.checked.prog.wideKeysFrom ·)) = true := by kernel_rfl
set_option maxRecDepth 100000 in
theorem c_rread : Tryz.f5.resultTypes.all (fun t => Tryz.pinned.checked.prog.readableRec t && decide (t < Tryz.pinned.checked.prog.types.size)) = true := by kernel_rfl
set_option maxRecDepth 100000 in
theorem c_veiled : (Rows.fnExactRecomputeRoutesRow.veiled == (Tryz.f5.params.toList ++ Rows.fnExactRecomputeRoutesSpec.plain.varTypes Tryz.pinned.checked.prog ++ Tryz.f5.resultTypes.toList).any (Tryz.pinned.checked.prog.veiledRec ·)) = true := by kernel_rfl
set_option maxRecDepth 100000 in
theorem c_vfits : Rows.fnExactRecomputeRoutesRow.veiledFits Tryz.pinned.checked.prog Tryz.f5.params.toList (Tryz.f5.params.toList ++ Rows.fnExactRecomputeRoutesSpec.plain.varTypes Tryz.pinned.checked.prog ++ Tryz.f5.resultTypes.toList) = true := by kernel_rfl
set_option maxRecDepth 100000 in
theorem c_enter : Tryz.pinned.checked.prog.mayEnter = true := by kernel_rfl
set_option maxRecDepth 100000 in
theorem c_heard : Tryz.pinned.checked.prog.stopsHeard = true := by kernel_rfl
set_option maxRecDepth 100000 in
theorem c_lifted : (Rows.fnExactRecomputeRoutesRow.lifted == Tryz.pinned.checked.prog.liftsFinal) = true := by kernel_rfl
set_option maxRecDepth 100000 in
theorem c_plainKeys : (Rows.fnExactRecomputeRoutesRow.plainKeys == Tryz.pinned.checked.prog.plainKeys) = true := by kernel_rfl
set_option maxRecDepth 100000 in
theorem c_make : (Tryz.pinned.checked.prog.make == some Rows.fnExactRecomputeRoutesRow.make) = true := by kernel_rfl
set_option maxRecDepth 100000 in
theorem closed : joinedFacts Tryz.pinned.checked.prog 5 Tryz.f5 Rows.fnExactRecomputeRoutesSpec Rows.fnExactRecomputeRoutesRow = true := by
 unfold joinedFacts
 rw [show laidOutB Tryz.pinned.checked.prog = true from laid, show mapsRowed Tryz.pinned.checked.prog = true from Facts.rowed, show (Rows.fnExactRecomputeRoutesRow.inPlace == Tryz.pinned.checked.prog.inPlace 5) = true from c_inPlace, show (Rows.fnExactRecomputeRoutesRow.unfollowed == Tryz.pinned.checked.prog.unfollowed 5) = true from c_unfollowed, show (Rows.fnExactRecomputeRoutesRow.recurses == Tryz.pinned.checked.prog.recurses 5) = true from c_recurses, show (Rows.fnExactRecomputeRoutesRow.named == Tryz.pinned.checked.prog.varsNamed 5) = true from c_named, c_read, c_maps, c_ifaces, c_loops, c_wide, c_rread, c_veiled, c_vfits, c_enter, c_heard, c_lifted, c_plainKeys, c_make]
 kernel_rfl
theorem over : Rows.fnExactRecomputeRoutesRow.holds Tryz.pinned (OpenSpec.ofChange Rows.fnExactRecomputeRoutesSpec) :=
 OpenClaim.holds_of_wide 5 Tryz.f5 rfl rfl rfl rfl rfl rfl rfl ⟨rfl, rfl, rfl, rfl, rfl⟩ rfl rfl rfl rfl rfl (by kernel_rfl) Tryz.func5 closed
  (of_decide_eq_true (by kernel_rfl)) (by unfold Func.isWrapper; first | (rw [if_pos (by decide +kernel)]; kernel_rfl) | (rw [if_neg (by decide +kernel)]; exact ⟨rfl, rfl⟩))
  (fun os started H enc _ => lifted os started H enc)
theorem proved : Rows.FnExactRecomputeRoutesSaid := over
#print axioms proved
end LawRecomputeRoutes
end Go.Proofs.YtpmejlbgjkiobaaGreat
