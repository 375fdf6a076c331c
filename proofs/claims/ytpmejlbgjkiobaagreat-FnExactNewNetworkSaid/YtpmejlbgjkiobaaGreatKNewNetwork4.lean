/-
  What the proof of one law needs: rules of the program logic, functions as Lean functions, contracts. No condition but what each says. Written by a program (pack.py) out of my own texts.
-/
import Derived.Test.YtpmejlbgjkiobaaGreatKNewNetwork3
open Go.IntKind (i64)
set_option linter.unusedVariables false
set_option linter.unusedSimpArgs false
namespace Go.Stp
def a9t (a : Link) (b : Link) : Bool := bif (a.a != b.a) then false else bif (a.b != b.b) then false else true
def a6v (b : (List Link)) : List Link → Nat → Option (Bool) | [], i => none | e1 :: rest_, i => match (b)[i]? with | none => default | some e2 => bif (!(a9t e1 e2)) then (some false) else a6v b rest_ (i + 1)
def a9u (a : (List Link)) (b : (List Link)) : Bool := bif ((((a).length : Nat) : Int) != (((b).length : Nat) : Int)) then false else match a6v b a 0 with | some r_ => r_ | none => true
def a85 (a : Topology) (b : Topology) : Bool := bif (a.size != b.size) then false else bif (!(a9u a.links b.links)) then false else true
def a6w (b : (List Str)) : List Str → Nat → Option (Bool) | [], i => none | e1 :: rest_, i => match (b)[i]? with | none => default | some e2 => bif (!((e1).toList == (e2).toList)) then (some false) else a6w b rest_ (i + 1)
def a86 (a : (List Str)) (b : (List Str)) : Bool := bif ((((a).length : Nat) : Int) != (((b).length : Nat) : Int)) then false else match a6w b a 0 with | some r_ => r_ | none => true
def a2m (a : Name) (b : Name) : Bool := bif (!(a86 a.parts b.parts)) then false else true
def a9v (a : Key) (b : Key) : Bool := bif (!(a2m a.name b.name)) then false else bif (a.secret != b.secret) then false else true
def a6x (b : (List Key)) : List Key → Nat → Option (Bool) | [], i => none | e1 :: rest_, i => match (b)[i]? with | none => default | some e2 => bif (!(a9v e1 e2)) then (some false) else a6x b rest_ (i + 1)
def a9w (a : (List Key)) (b : (List Key)) : Bool := bif ((((a).length : Nat) : Int) != (((b).length : Nat) : Int)) then false else match a6x b a 0 with | some r_ => r_ | none => true
def a9x (a : Pattern) (b : Pattern) : Bool := bif (!(a86 a.parts b.parts)) then false else true
def a9y (a : Rule) (b : Rule) : Bool := bif (!(a9x a.dataPattern b.dataPattern)) then false else bif (!(a9x a.keyPattern b.keyPattern)) then false else true
def a6y (b : (List Rule)) : List Rule → Nat → Option (Bool) | [], i => none | e1 :: rest_, i => match (b)[i]? with | none => default | some e2 => bif (!(a9y e1 e2)) then (some false) else a6y b rest_ (i + 1)
def a9z (a : (List Rule)) (b : (List Rule)) : Bool := bif ((((a).length : Nat) : Int) != (((b).length : Nat) : Int)) then false else match a6y b a 0 with | some r_ => r_ | none => true
def a6z (b : (List Name)) : List Name → Nat → Option (Bool) | [], i => none | e1 :: rest_, i => match (b)[i]? with | none => default | some e2 => bif (!(a2m e1 e2)) then (some false) else a6z b rest_ (i + 1)
def aa0 (a : (List Name)) (b : (List Name)) : Bool := bif ((((a).length : Nat) : Int) != (((b).length : Nat) : Int)) then false else match a6z b a 0 with | some r_ => r_ | none => true
def a70 (b : (List UInt8)) : List UInt8 → Nat → Option (Bool) | [], i => none | e1 :: rest_, i => match (b)[i]? with | none => default | some e2 => bif (((e1).toNat : Int) != ((e2).toNat : Int)) then (some false) else a70 b rest_ (i + 1)
def aa1 (a : (List UInt8)) (b : (List UInt8)) : Bool := bif ((((a).length : Nat) : Int) != (((b).length : Nat) : Int)) then false else match a70 b a 0 with | some r_ => r_ | none => true
def a44 (a : DataP) (b : DataP) : Bool := bif (!(a2m a.name b.name)) then false else bif (!(aa1 a.content b.content)) then false else bif (!(a2m a.keyName b.keyName)) then false else bif (a.freshUntil != b.freshUntil) then false else bif (a.signature != b.signature) then false else true
def a71 (b : (List DataP)) : List DataP → Nat → Option (Bool) | [], i => none | e1 :: rest_, i => match (b)[i]? with | none => default | some e2 => bif (!(a44 e1 e2)) then (some false) else a71 b rest_ (i + 1)
def a87 (a : (List DataP)) (b : (List DataP)) : Bool := bif ((((a).length : Nat) : Int) != (((b).length : Nat) : Int)) then false else match a71 b a 0 with | some r_ => r_ | none => true
def a68 (a : TrustPolicy) (b : TrustPolicy) : Bool := bif (!(a9w a.keys b.keys)) then false else bif (!(a9z a.rules b.rules)) then false else bif (!(aa0 a.anchors b.anchors)) then false else bif (!(a87 a.certificates b.certificates)) then false else true
def aa2 (a : TableEntry) (b : TableEntry) : Bool := bif (!(a2m a.name b.name)) then false else bif (a.value != b.value) then false else true
def a72 (b : (List TableEntry)) : List TableEntry → Nat → Option (Bool) | [], i => none | e1 :: rest_, i => match (b)[i]? with | none => default | some e2 => bif (!(aa2 e1 e2)) then (some false) else a72 b rest_ (i + 1)
def a88 (a : (List TableEntry)) (b : (List TableEntry)) : Bool := bif ((((a).length : Nat) : Int) != (((b).length : Nat) : Int)) then false else match a72 b a 0 with | some r_ => r_ | none => true
def aa3 (a : CacheEntry) (b : CacheEntry) : Bool := bif (!(a44 a.data b.data)) then false else bif (a.lastUsed != b.lastUsed) then false else true
def a73 (b : (List CacheEntry)) : List CacheEntry → Nat → Option (Bool) | [], i => none | e1 :: rest_, i => match (b)[i]? with | none => default | some e2 => bif (!(aa3 e1 e2)) then (some false) else a73 b rest_ (i + 1)
def aa4 (a : (List CacheEntry)) (b : (List CacheEntry)) : Bool := bif ((((a).length : Nat) : Int) != (((b).length : Nat) : Int)) then false else match a73 b a 0 with | some r_ => r_ | none => true
def aa5 (a : ContentStore) (b : ContentStore) : Bool := bif (a.capacity != b.capacity) then false else bif (!(aa4 a.entries b.entries)) then false else true
def a89 (a : Requester) (b : Requester) : Bool := bif (a.face != b.face) then false else bif (a.nonce != b.nonce) then false else bif (a.expiry != b.expiry) then false else true
def a74 (b : (List Requester)) : List Requester → Nat → Option (Bool) | [], i => none | e1 :: rest_, i => match (b)[i]? with | none => default | some e2 => bif (!(a89 e1 e2)) then (some false) else a74 b rest_ (i + 1)
def aa6 (a : (List Requester)) (b : (List Requester)) : Bool := bif ((((a).length : Nat) : Int) != (((b).length : Nat) : Int)) then false else match a74 b a 0 with | some r_ => r_ | none => true
def a8a (a : PendingInterest) (b : PendingInterest) : Bool := bif (!(a2m a.name b.name)) then false else bif (!(aa6 a.requesters b.requesters)) then false else bif (a.lastSent != b.lastSent) then false else true
def a75 (b : (List PendingInterest)) : List PendingInterest → Nat → Option (Bool) | [], i => none | e1 :: rest_, i => match (b)[i]? with | none => default | some e2 => bif (!(a8a e1 e2)) then (some false) else a75 b rest_ (i + 1)
def aa7 (a : (List PendingInterest)) (b : (List PendingInterest)) : Bool := bif ((((a).length : Nat) : Int) != (((b).length : Nat) : Int)) then false else match a75 b a 0 with | some r_ => r_ | none => true
def aa8 (a : SeenNonce) (b : SeenNonce) : Bool := bif (!(a2m a.name b.name)) then false else bif (a.nonce != b.nonce) then false else true
def a76 (b : (List SeenNonce)) : List SeenNonce → Nat → Option (Bool) | [], i => none | e1 :: rest_, i => match (b)[i]? with | none => default | some e2 => bif (!(aa8 e1 e2)) then (some false) else a76 b rest_ (i + 1)
def aa9 (a : (List SeenNonce)) (b : (List SeenNonce)) : Bool := bif ((((a).length : Nat) : Int) != (((b).length : Nat) : Int)) then false else match a76 b a 0 with | some r_ => r_ | none => true
def a8b (a : Route) (b : Route) : Bool := bif (!(a2m a.pfx b.pfx)) then false else bif (a.face != b.face) then false else bif (a.cost != b.cost) then false else true
def a77 (b : (List Route)) : List Route → Nat → Option (Bool) | [], i => none | e1 :: rest_, i => match (b)[i]? with | none => default | some e2 => bif (!(a8b e1 e2)) then (some false) else a77 b rest_ (i + 1)
def aaa (a : (List Route)) (b : (List Route)) : Bool := bif ((((a).length : Nat) : Int) != (((b).length : Nat) : Int)) then false else match a77 b a 0 with | some r_ => r_ | none => true
def a8c (a : Measurement) (b : Measurement) : Bool := bif (!(a2m a.pfx b.pfx)) then false else bif (a.face != b.face) then false else bif (a.failures != b.failures) then false else true
def a78 (b : (List Measurement)) : List Measurement → Nat → Option (Bool) | [], i => none | e1 :: rest_, i => match (b)[i]? with | none => default | some e2 => bif (!(a8c e1 e2)) then (some false) else a78 b rest_ (i + 1)
def aab (a : (List Measurement)) (b : (List Measurement)) : Bool := bif ((((a).length : Nat) : Int) != (((b).length : Nat) : Int)) then false else match a78 b a 0 with | some r_ => r_ | none => true
def a4m (a : NodeP) (b : NodeP) : Bool := bif (!(a87 a.locl b.locl)) then false else bif (!(aa5 a.cache b.cache)) then false else bif (!(aa7 a.pending b.pending)) then false else bif (!(aa9 a.seen b.seen)) then false else bif (!(aaa a.routes b.routes)) then false else bif (!(aab a.measurements b.measurements)) then false else bif (a.dropped != b.dropped) then false else true
def a79 (b : (List NodeP)) : List NodeP → Nat → Option (Bool) | [], i => none | e1 :: rest_, i => match (b)[i]? with | none => default | some e2 => bif (!(a4m e1 e2)) then (some false) else a79 b rest_ (i + 1)
def aac (a : (List NodeP)) (b : (List NodeP)) : Bool := bif ((((a).length : Nat) : Int) != (((b).length : Nat) : Int)) then false else match a79 b a 0 with | some r_ => r_ | none => true
def a7a (b : (List Int)) : List Int → Nat → Option (Bool) | [], i => none | e1 :: rest_, i => match (b)[i]? with | none => default | some e2 => bif (e1 != e2) then (some false) else a7a b rest_ (i + 1)
def aad (a : (List Int)) (b : (List Int)) : Bool := bif ((((a).length : Nat) : Int) != (((b).length : Nat) : Int)) then false else match a7a b a 0 with | some r_ => r_ | none => true
def a7b (a : Interest) (b : Interest) : Bool := bif (!(a2m a.name b.name)) then false else bif (a.nonce != b.nonce) then false else bif (a.hopLimit != b.hopLimit) then false else bif (a.lifetime != b.lifetime) then false else true
def a69 (a : PacketInFlight) (b : PacketInFlight) : Bool := bif (a.to != b.to) then false else bif (a.face != b.face) then false else bif (!(a.isInterest == b.isInterest)) then false else bif (!(a7b a.interest b.interest)) then false else bif (!(a44 a.data b.data)) then false else true
def a7c (b : (List PacketInFlight)) : List PacketInFlight → Nat → Option (Bool) | [], i => none | e1 :: rest_, i => match (b)[i]? with | none => default | some e2 => bif (!(a69 e1 e2)) then (some false) else a7c b rest_ (i + 1)
def aae (a : (List PacketInFlight)) (b : (List PacketInFlight)) : Bool := bif ((((a).length : Nat) : Int) != (((b).length : Nat) : Int)) then false else match a7c b a 0 with | some r_ => r_ | none => true
def a4n (a : Consumer) (b : Consumer) : Bool := bif (a.node != b.node) then false else bif (a.index != b.index) then false else bif (!(a2m a.name b.name)) then false else bif (a.attempts != b.attempts) then false else bif (a.wait != b.wait) then false else bif (!(a.satisfied == b.satisfied)) then false else bif (!(a44 a.data b.data)) then false else true
def a7d (b : (List Consumer)) : List Consumer → Nat → Option (Bool) | [], i => none | e1 :: rest_, i => match (b)[i]? with | none => default | some e2 => bif (!(a4n e1 e2)) then (some false) else a7d b rest_ (i + 1)
def aaf (a : (List Consumer)) (b : (List Consumer)) : Bool := bif ((((a).length : Nat) : Int) != (((b).length : Nat) : Int)) then false else match a7d b a 0 with | some r_ => r_ | none => true
def a2g (a : Network) (b : Network) : Bool := bif (!(a85 a.topology b.topology)) then false else bif (!(a68 a.trust b.trust)) then false else bif (!(a88 a.producers b.producers)) then false else bif (!(aac a.nodes b.nodes)) then false else bif (a.downNodes != b.downNodes) then false else bif (!(aad a.failedLinks b.failedLinks)) then false else bif (!(aae a.inFlight b.inFlight)) then false else bif (!(aaf a.consumers b.consumers)) then false else bif (a.now != b.now) then false else bif (a.dropped != b.dropped) then false else true
end Go.Stp
namespace Go.Proofs.YtpmejlbgjkiobaaGreat
open Go.Stp
open Go.Stp.GoT (ok)
variable {w : World} (n : Nat) {K0 K1 K2 K3 K4 K5 K6 K7 K8 K9 K10 K11 K12 K13 K14 K15 K16 K17 K18 K19 : Option Addr} {M0 M1 M2 M3 M4 M5 M6 M7 M8 M9 M10 M11 M12 M13 M14 M15 M16 M17 M18 M19 : Nat}
theorem f204 (hn : n + 0 ≤ 9) (a : Link) (b : Link) (a1 : ok n a) (a0 : ok n b) :
 DP 204 #[.agg #[vI a.a, vI a.b], .agg #[vI b.a, vI b.b]] w (pB (a9t a b)) := by
 refine EN Tryz.func204 Z adc ?_
 refine yKM 9 ?_ ?_ <;> intro h1 a3
 exact R4r Z Z (by simp only [a9t, h1, cT, cF])
 refine yKM 14 ?_ ?_ <;> intro h2 a2
 exact R4r Z Z (by simp only [a9t, h1, h2, cT, cF])
 exact R4r Z Z (by simp only [a9t, h1, h2, cT, cF])
theorem f92 (hn : n + 0 ≤ 9) {a : List Link} (N0 : Rd w K0 M0 a) {b : List Link} (N1 : Rd w K1 M1 b) (a0 : ok n a) (a4 : ok n b) :
 DP 92 #[vS K0 a M0, vS K1 b M1] w (pB (a9u a b)) := by
 have hb := bS0 hn
 refine EN Tryz.func92 Z (aS2 N0 N1) ?_
 refine yKM 10 ?_ ?_ <;> intro h1 ag
 exact R4r Z Z (by simp only [a9u, h1, cT, cF])
 have r1 := (okl a0).1
 refine LM Z 0 (fun i => ((i ≤ a.length) ∧ (a6v b a 0 = a6v b (a.drop i) i), a.length - i, [(5, .v (vI i))], [], [], [])) ⟨zl, Z⟩ [0, 1] [] [0, 1] [0, 1] ?_
 rintro i ⟨v1, v2⟩
 refine yKD 14 ?_ ?_ <;> intro h2 af
 have a5 : i < a.length := τ0
 obtain ⟨e1, a3⟩ := gE a5
 have a8 := okE a0 a3
 refine R0 ?_
 refine WX.draw [] mixed fun bs G0 a1 => ?_
 refine dT 8 [1, 3] ?_
 refine zDI 2 0 i a1 Z a5 ?_
 rintro ac rfl
 refine zDL 3 0 2 e1 a1 a3 ?_
 rintro ⟨⟨⟩, ⟨⟩⟩
 refine dT 4 [9, 11] ?_
 have a6 : i < b.length := τ3
 obtain ⟨e2, a2⟩ := gE a6
 have a9 := okE a4 a2
 refine zDI 6 1 i a1 Z a6 ?_
 rintro ae rfl
 refine zDL 7 1 2 e2 a1 a2 ?_
 rintro ⟨⟨⟩, ⟨⟩⟩
 refine DXV 8 Z J Z Z Z Z Z Z O Z (fun w γ => f204 n τ0 e1 e2 a8 a9) fun ab => ?_
 refine dT 0 [19] ?_
 refine DX.tail2 [] Z Z J ?_
 refine yKN 26 ?_ ?_ <;> intro h3 ad
 have aa := v2.trans (show _ = (some false) by rw [acx a3]; simp only [a6v, a2, h3, cT, cF])
 exact R4r Z Z (by simp only [a9u, h1, aa, cT, cF])
 refine SA ?_
 exact ITr Z (i + 1) ⟨τ0, (by rw [v2, acx a3]; simp only [a6v, a2, h3, cT, cF])⟩ τ1 [0, 1]
 have a7 := v2.trans (show _ = none by rw [dn (show a.length ≤ i by omega)]; simp only [a6v, cT, cF])
 exact R4r Z Z (by simp only [a9u, h1, a7, cT, cF])
theorem f28 (hn : n + 0 ≤ 9) (a : Topology) (N0 : Rd w K0 M0 a.links) (b : Topology) (N1 : Rd w K1 M1 b.links) (a1 : ok n a) (a0 : ok n b) :
 DP 28 #[aeq a K0 M0, aeq b K1 M1] w (pB (a85 a b)) := by
 have hb := bS0 hn
 refine EN Tryz.func28 Z (aS2 N0 N1) ?_
 refine yKM 9 ?_ ?_ <;> intro h1 a4
 exact R4r Z Z (by simp only [a85, h1, cT, cF])
 refine KV Z Z Z Z Z Z O Z (fun w γ => f92 n τ0 (γ.q 0 Z) (γ.q 1 Z) ((ad0 a1).2) ((ad0 a0).2)) fun a2 => ?_
 refine yKN 15 ?_ ?_ <;> intro h2 a3
 exact R4r Z Z (by simp only [a85, h1, h2, cT, cF])
 exact R4r Z Z (by simp only [a85, h1, h2, cT, cF])
theorem f302 (hn : n + 0 ≤ 9) {a : List Str} (N0 : Rd w K0 M0 a) {b : List Str} (N1 : Rd w K1 M1 b) (a0 : ok n a) (a4 : ok n b) :
 DP 302 #[vS K0 a M0, vS K1 b M1] w (pB (a86 a b)) := by
 have hb := bS0 hn
 refine EN Tryz.func302 Z (aS2 N0 N1) ?_
 refine yKM 10 ?_ ?_ <;> intro h1 af
 exact R4r Z Z (by simp only [a86, h1, cT, cF])
 have r1 := (okl a0).1
 refine LM Z 0 (fun i => ((i ≤ a.length) ∧ (a6w b a 0 = a6w b (a.drop i) i), a.length - i, [(5, .v (vI i))], [], [], [])) ⟨zl, Z⟩ [0, 1] [] [0, 1] [0, 1] ?_
 rintro i ⟨v1, v2⟩
 refine yKD 14 ?_ ?_ <;> intro h2 ae
 have a5 : i < a.length := τ0
 obtain ⟨e1, a3⟩ := gE a5
 have ab := okE a0 a3
 refine R0 ?_
 refine WX.draw [] mixed fun bs G0 a1 => ?_
 refine dT 7 [1, 3] ?_
 refine zDI 2 0 i a1 Z a5 ?_
 rintro a9 rfl
 refine zDL 3 0 2 e1 a1 a3 ?_
 rintro ⟨⟩
 refine dT 3 [9, 11] ?_
 have a6 : i < b.length := τ3
 obtain ⟨e2, a2⟩ := gE a6
 have ad := okE a4 a2
 refine zDI 6 1 i a1 Z a6 ?_
 rintro ac rfl
 refine zDL 7 1 2 e2 a1 a2 ?_
 rintro ⟨⟩
 refine dT 0 [17] ?_
 refine DX.tail2 [] Z Z J ?_
 refine yKX 25 ?_ ?_ <;> intro h3 aa
 have a8 := v2.trans (show _ = (some false) by rw [acx a3]; simp only [a6w, a2, h3, cT, cF])
 exact R4r Z Z (by simp only [a86, h1, a8, cT, cF])
 refine SA ?_
 exact ITr Z (i + 1) ⟨τ0, (by rw [v2, acx a3]; simp only [a6w, a2, h3, cT, cF])⟩ τ1 [0, 1]
 have a7 := v2.trans (show _ = none by rw [dn (show a.length ≤ i by omega)]; simp only [a6w, cT, cF])
 exact R4r Z Z (by simp only [a86, h1, a7, cT, cF])
theorem f207 (hn : n + 0 ≤ 9) (a : Name) (N0 : Rd w K0 M0 a.parts) (b : Name) (N1 : Rd w K1 M1 b.parts) (a1 : ok n a) (a0 : ok n b) :
 DP 207 #[.agg #[vS K0 a.parts M0], .agg #[vS K1 b.parts M1]] w (pB (a2m a b)) := by
 have hb := bS0 hn
 refine EN Tryz.func207 Z (aS2 N0 N1) ?_
 refine KV Z Z Z Z Z Z O Z (fun w γ => f302 n τ0 (γ.q 0 Z) (γ.q 1 Z) (ae4 a1) (ae4 a0)) fun a2 => ?_
 refine yKN 10 ?_ ?_ <;> intro h1 a3
 exact R4r Z Z (by simp only [a2m, h1, cT, cF])
 exact R4r Z Z (by simp only [a2m, h1, cT, cF])
theorem f205 (hn : n + 0 ≤ 9) (a : Key) (N0 : Rd w K0 M0 a.name.parts) (b : Key) (N1 : Rd w K1 M1 b.name.parts) (a1 : ok n a) (a0 : ok n b) :
 DP 205 #[.agg #[vS K0 a.name.parts M0, vI a.secret], .agg #[vS K1 b.name.parts M1, vI b.secret]] w (pB (a9v a b)) := by
 have hb := bS0 hn
 refine EN Tryz.func205 Z (aS2 N0 N1) ?_
 refine KV Z Z Z Z Z Z O Z (fun w γ => f207 n τ0 a.name (γ.q 0 Z) b.name (γ.q 1 Z) ((ag3 a1).1) ((ag3 a0).1)) fun a2 => ?_
 refine yKN 10 ?_ ?_ <;> intro h1 a4
 exact R4r Z Z (by simp only [a9v, h1, cT, cF])
 refine yKM 15 ?_ ?_ <;> intro h2 a3
 exact R4r Z Z (by simp only [a9v, h1, h2, cT, cF])
 exact R4r Z Z (by simp only [a9v, h1, h2, cT, cF])
theorem f93 (hn : n + 0 ≤ 9) {a : List Key} (N0 : Rd w K0 M0 a) {b : List Key} (N1 : Rd w K1 M1 b) (a0 : ok n a) (a4 : ok n b) :
 DP 93 #[vS K0 a M0, vS K1 b M1] w (pB (a9w a b)) := by
 have hb := bS0 hn
 refine EN Tryz.func93 Z (aS2 N0 N1) ?_
 refine yKM 10 ?_ ?_ <;> intro h1 ag
 exact R4r Z Z (by simp only [a9w, h1, cT, cF])
 have r1 := (okl a0).1
 refine LM Z 0 (fun i => ((i ≤ a.length) ∧ (a6x b a 0 = a6x b (a.drop i) i), a.length - i, [(5, .v (vI i))], [], [], [])) ⟨zl, Z⟩ [0, 1] [] [0, 1] [0, 1] ?_
 rintro i ⟨v1, v2⟩
 refine yKD 14 ?_ ?_ <;> intro h2 af
 have a5 : i < a.length := τ0
 obtain ⟨e1, a3⟩ := gE a5
 have a8 := okE a0 a3
 refine R0 ?_
 refine WX.draw [] mixed fun bs G0 a1 => ?_
 refine dT 8 [1, 3] ?_
 refine zDI 2 0 i a1 Z a5 ?_
 rintro ac rfl
 refine zDL 3 0 2 e1 a1 a3 ?_
 rintro ⟨⟨p1, c1⟩, ⟨⟩⟩
 refine dT 4 [9, 11] ?_
 have a6 : i < b.length := τ3
 obtain ⟨e2, a2⟩ := gE a6
 have a9 := okE a4 a2
 refine zDI 6 1 i a1 Z a6 ?_
 rintro ae rfl
 refine zDL 7 1 3 e2 a1 a2 ?_
 rintro ⟨⟨p2, c2⟩, ⟨⟩⟩
 refine DXV 8 Z J Z Z Z Z Z Z O Z (fun w γ => f205 n τ0 e1 (γ.q 2 Z) e2 (γ.q 3 Z) a8 a9) fun ab => ?_
 refine dT 0 [19] ?_
 refine DX.tail2 [] Z Z J ?_
 refine yKN 26 ?_ ?_ <;> intro h3 ad
 have aa := v2.trans (show _ = (some false) by rw [acx a3]; simp only [a6x, a2, h3, cT, cF])
 exact R4r Z Z (by simp only [a9w, h1, aa, cT, cF])
 refine SA ?_
 exact ITr Z (i + 1) ⟨τ0, (by rw [v2, acx a3]; simp only [a6x, a2, h3, cT, cF])⟩ τ1 [0, 1]
 have a7 := v2.trans (show _ = none by rw [dn (show a.length ≤ i by omega)]; simp only [a6x, cT, cF])
 exact R4r Z Z (by simp only [a9w, h1, a7, cT, cF])
theorem f301 (hn : n + 0 ≤ 9) (a : Pattern) (N0 : Rd w K0 M0 a.parts) (b : Pattern) (N1 : Rd w K1 M1 b.parts) (a1 : ok n a) (a0 : ok n b) :
 DP 301 #[.agg #[vS K0 a.parts M0], .agg #[vS K1 b.parts M1]] w (pB (a9x a b)) := by
 have hb := bS0 hn
 refine EN Tryz.func301 Z (aS2 N0 N1) ?_
 refine KV Z Z Z Z Z Z O Z (fun w γ => f302 n τ0 (γ.q 0 Z) (γ.q 1 Z) (ad9 a1) (ad9 a0)) fun a2 => ?_
 refine yKN 10 ?_ ?_ <;> intro h1 a3
 exact R4r Z Z (by simp only [a9x, h1, cT, cF])
 exact R4r Z Z (by simp only [a9x, h1, cT, cF])
theorem f206 (hn : n + 0 ≤ 9) (a : Rule) (N0 : Rd w K0 M0 a.dataPattern.parts) (N1 : Rd w K1 M1 a.keyPattern.parts) (b : Rule) (N2 : Rd w K2 M2 b.dataPattern.parts) (N3 : Rd w K3 M3 b.keyPattern.parts) (a1 : ok n a) (a0 : ok n b) :
 DP 206 #[arv a K0 M0 K1 M1, arv b K2 M2 K3 M3] w (pB (a9y a b)) := by
 have hb := bS0 hn
 refine EN Tryz.func206 Z (aS4 N0 N1 N2 N3) ?_
 refine KV Z Z Z Z Z Z O Z (fun w γ => f301 n τ0 a.dataPattern (γ.q 0 Z) b.dataPattern (γ.q 2 Z) ((adx a1).1) ((adx a0).1)) fun a2 => ?_
 refine yKN 10 ?_ ?_ <;> intro h1 a5
 exact R4r Z Z (by simp only [a9y, h1, cT, cF])
 refine KV Z Z Z Z Z Z O Z (fun w γ => f301 n τ0 a.keyPattern (γ.q 1 Z) b.keyPattern (γ.q 3 Z) ((adx a1).2) ((adx a0).2)) fun a3 => ?_
 refine yKN 16 ?_ ?_ <;> intro h2 a4
 exact R4r Z Z (by simp only [a9y, h1, h2, cT, cF])
 exact R4r Z Z (by simp only [a9y, h1, h2, cT, cF])
theorem f94 (hn : n + 0 ≤ 9) {a : List Rule} (N0 : Rd w K0 M0 a) {b : List Rule} (N1 : Rd w K1 M1 b) (a0 : ok n a) (a4 : ok n b) :
 DP 94 #[vS K0 a M0, vS K1 b M1] w (pB (a9z a b)) := by
 have hb := bS0 hn
 refine EN Tryz.func94 Z (aS2 N0 N1) ?_
 refine yKM 10 ?_ ?_ <;> intro h1 ag
 exact R4r Z Z (by simp only [a9z, h1, cT, cF])
 have r1 := (okl a0).1
 refine LM Z 0 (fun i => ((i ≤ a.length) ∧ (a6y b a 0 = a6y b (a.drop i) i), a.length - i, [(5, .v (vI i))], [], [], [])) ⟨zl, Z⟩ [0, 1] [] [0, 1] [0, 1] ?_
 rintro i ⟨v1, v2⟩
 refine yKD 14 ?_ ?_ <;> intro h2 af
 have a5 : i < a.length := τ0
 obtain ⟨e1, a3⟩ := gE a5
 have a8 := okE a0 a3
 refine R0 ?_
 refine WX.draw [] mixed fun bs G0 a1 => ?_
 refine dT 8 [1, 3] ?_
 refine zDI 2 0 i a1 Z a5 ?_
 rintro ac rfl
 refine zDL 3 0 2 e1 a1 a3 ?_
 rintro ⟨⟨p1, c1⟩, ⟨p2, c2⟩⟩
 refine dT 4 [9, 11] ?_
 have a6 : i < b.length := τ3
 obtain ⟨e2, a2⟩ := gE a6
 have a9 := okE a4 a2
 refine zDI 6 1 i a1 Z a6 ?_
 rintro ae rfl
 refine zDL 7 1 4 e2 a1 a2 ?_
 rintro ⟨⟨p3, c3⟩, ⟨p4, c4⟩⟩
 refine DXV 8 Z J Z Z Z Z Z Z O Z (fun w γ => f206 n τ0 e1 (γ.q 2 Z) (γ.q 3 Z) e2 (γ.q 4 Z) (γ.q 5 Z) a8 a9) fun ab => ?_
 refine dT 0 [19] ?_
 refine DX.tail2 [] Z Z J ?_
 refine yKN 26 ?_ ?_ <;> intro h3 ad
 have aa := v2.trans (show _ = (some false) by rw [acx a3]; simp only [a6y, a2, h3, cT, cF])
 exact R4r Z Z (by simp only [a9z, h1, aa, cT, cF])
 refine SA ?_
 exact ITr Z (i + 1) ⟨τ0, (by rw [v2, acx a3]; simp only [a6y, a2, h3, cT, cF])⟩ τ1 [0, 1]
 have a7 := v2.trans (show _ = none by rw [dn (show a.length ≤ i by omega)]; simp only [a6y, cT, cF])
 exact R4r Z Z (by simp only [a9z, h1, a7, cT, cF])
theorem f95 (hn : n + 0 ≤ 9) {a : List Name} (N0 : Rd w K0 M0 a) {b : List Name} (N1 : Rd w K1 M1 b) (a0 : ok n a) (a4 : ok n b) :
 DP 95 #[vS K0 a M0, vS K1 b M1] w (pB (aa0 a b)) := by
 have hb := bS0 hn
 refine EN Tryz.func95 Z (aS2 N0 N1) ?_
 refine yKM 10 ?_ ?_ <;> intro h1 ag
 exact R4r Z Z (by simp only [aa0, h1, cT, cF])
 have r1 := (okl a0).1
 refine LM Z 0 (fun i => ((i ≤ a.length) ∧ (a6z b a 0 = a6z b (a.drop i) i), a.length - i, [(5, .v (vI i))], [], [], [])) ⟨zl, Z⟩ [0, 1] [] [0, 1] [0, 1] ?_
 rintro i ⟨v1, v2⟩
 refine yKD 14 ?_ ?_ <;> intro h2 af
 have a5 : i < a.length := τ0
 obtain ⟨e1, a3⟩ := gE a5
 have a8 := okE a0 a3
 refine R0 ?_
 refine WX.draw [] mixed fun bs G0 a1 => ?_
 refine dT 8 [1, 3] ?_
 refine zDI 2 0 i a1 Z a5 ?_
 rintro ac rfl
 refine zDL 3 0 2 e1 a1 a3 ?_
 rintro ⟨p1, c1⟩
 refine dT 4 [9, 11] ?_
 have a6 : i < b.length := τ3
 obtain ⟨e2, a2⟩ := gE a6
 have a9 := okE a4 a2
 refine zDI 6 1 i a1 Z a6 ?_
 rintro ae rfl
 refine zDL 7 1 3 e2 a1 a2 ?_
 rintro ⟨p2, c2⟩
 refine DXV 8 Z J Z Z Z Z Z Z O Z (fun w γ => f207 n τ0 e1 (γ.q 2 Z) e2 (γ.q 3 Z) a8 a9) fun ab => ?_
 refine dT 0 [19] ?_
 refine DX.tail2 [] Z Z J ?_
 refine yKN 26 ?_ ?_ <;> intro h3 ad
 have aa := v2.trans (show _ = (some false) by rw [acx a3]; simp only [a6z, a2, h3, cT, cF])
 exact R4r Z Z (by simp only [aa0, h1, aa, cT, cF])
 refine SA ?_
 exact ITr Z (i + 1) ⟨τ0, (by rw [v2, acx a3]; simp only [a6z, a2, h3, cT, cF])⟩ τ1 [0, 1]
 have a7 := v2.trans (show _ = none by rw [dn (show a.length ≤ i by omega)]; simp only [a6z, cT, cF])
 exact R4r Z Z (by simp only [aa0, h1, a7, cT, cF])
theorem f303 (hn : n + 0 ≤ 9) {a : List UInt8} (N0 : Rd w K0 M0 a) {b : List UInt8} (N1 : Rd w K1 M1 b) (a2 : ok n a) (a7 : ok n b) :
 DP 303 #[vS K0 a M0, vS K1 b M1] w (pB (aa1 a b)) := by
 have hb := bS0 hn
 refine EN Tryz.func303 Z (aS2 N0 N1) ?_
 refine yKM 10 ?_ ?_ <;> intro h1 ad
 exact R4r Z Z (by simp only [aa1, h1, cT, cF])
 have r1 := (okl a2).1
 refine LM Z 0 (fun i => ((i ≤ a.length) ∧ (a70 b a 0 = a70 b (a.drop i) i), a.length - i, [(5, .v (vI i))], [], [], [])) ⟨zl, Z⟩ [0, 1] [] [0, 1] [0, 1] ?_
 rintro i ⟨v1, v2⟩
 refine yKD 14 ?_ ?_ <;> intro h2 ac
 have a4 : i < a.length := τ0
 obtain ⟨e1, a3⟩ := gE a4
 refine R0 ?_
 refine WX.draw [] mixed fun bs G0 a0 => ?_
 refine dT 7 [1, 3] ?_
 refine zDI 2 0 i a0 Z a4 ?_
 rintro a9 rfl
 refine zDL 3 0 2 e1 a0 a3 ?_
 rintro ⟨⟩
 refine dT 3 [9, 11] ?_
 have a5 : i < b.length := τ3
 obtain ⟨e2, a1⟩ := gE a5
 refine zDI 6 1 i a0 Z a5 ?_
 rintro ab rfl
 refine zDL 7 1 2 e2 a0 a1 ?_
 rintro ⟨⟩
 refine dT 0 [17] ?_
 refine DX.tail2 [] Z Z J ?_
 refine yKM 25 ?_ ?_ <;> intro h3 aa
 have a8 := v2.trans (show _ = (some false) by rw [acx a3]; simp only [a70, a1, h3, cT, cF])
 exact R4r Z Z (by simp only [aa1, h1, a8, cT, cF])
 refine SA ?_
 exact ITr Z (i + 1) ⟨τ0, (by rw [v2, acx a3]; simp only [a70, a1, h3, cT, cF])⟩ τ1 [0, 1]
 have a6 := v2.trans (show _ = none by rw [dn (show a.length ≤ i by omega)]; simp only [a70, cT, cF])
 exact R4r Z Z (by simp only [aa1, h1, a6, cT, cF])
theorem f208 (hn : n + 0 ≤ 9) (a : DataP) (N0 : Rd w K0 M0 a.name.parts) (N1 : Rd w K1 M1 a.content) (N2 : Rd w K2 M2 a.keyName.parts) (b : DataP) (N3 : Rd w K3 M3 b.name.parts) (N4 : Rd w K4 M4 b.content) (N5 : Rd w K5 M5 b.keyName.parts) (a1 : ok n a) (a0 : ok n b) :
 DP 208 #[al6 a K0 M0 K1 M1 K2 M2, al6 b K3 M3 K4 M4 K5 M5] w (pB (a44 a b)) := by
 have hb := bS0 hn
 refine EN Tryz.func208 Z (aS6 N0 N1 N2 N3 N4 N5) ?_
 refine KV Z Z Z Z Z Z O Z (fun w γ => f207 n τ0 a.name (γ.q 0 Z) b.name (γ.q 3 Z) ((ado a1).1) ((ado a0).1)) fun a3 => ?_
 refine yKN 10 ?_ ?_ <;> intro h1 a9
 exact R4r Z Z (by simp only [a44, h1, cT, cF])
 refine KV Z Z Z Z Z Z O Z (fun w γ => f303 n τ0 (γ.q 1 Z) (γ.q 4 Z) ((ado a1).2.1) ((ado a0).2.1)) fun a5 => ?_
 refine yKN 16 ?_ ?_ <;> intro h2 a6
 exact R4r Z Z (by simp only [a44, h1, h2, cT, cF])
 refine KV Z Z Z Z Z Z O Z (fun w γ => f207 n τ0 a.keyName (γ.q 2 Z) b.keyName (γ.q 5 Z) ((ado a1).2.2.1) ((ado a0).2.2.1)) fun a4 => ?_
 refine yKN 22 ?_ ?_ <;> intro h3 a7
 exact R4r Z Z (by simp only [a44, h1, h2, h3, cT, cF])
 refine yKM 27 ?_ ?_ <;> intro h4 a8
 exact R4r Z Z (by simp only [a44, h1, h2, h3, h4, cT, cF])
 refine yKM 32 ?_ ?_ <;> intro h5 a2
 exact R4r Z Z (by simp only [a44, h1, h2, h3, h4, h5, cT, cF])
 exact R4r Z Z (by simp only [a44, h1, h2, h3, h4, h5, cT, cF])
theorem f96 (hn : n + 0 ≤ 9) {a : List DataP} (N0 : Rd w K0 M0 a) {b : List DataP} (N1 : Rd w K1 M1 b) (a0 : ok n a) (a4 : ok n b) :
 DP 96 #[vS K0 a M0, vS K1 b M1] w (pB (a87 a b)) := by
 have hb := bS0 hn
 refine EN Tryz.func96 Z (aS2 N0 N1) ?_
 refine yKM 10 ?_ ?_ <;> intro h1 ag
 exact R4r Z Z (by simp only [a87, h1, cT, cF])
 have r1 := (okl a0).1
 refine LM Z 0 (fun i => ((i ≤ a.length) ∧ (a71 b a 0 = a71 b (a.drop i) i), a.length - i, [(5, .v (vI i))], [], [], [])) ⟨zl, Z⟩ [0, 1] [] [0, 1] [0, 1] ?_
 rintro i ⟨v1, v2⟩
 refine yKD 14 ?_ ?_ <;> intro h2 af
 have a5 : i < a.length := τ0
 obtain ⟨e1, a3⟩ := gE a5
 have a8 := okE a0 a3
 refine R0 ?_
 refine WX.draw [] mixed fun bs G0 a1 => ?_
 refine dT 8 [1, 3] ?_
 refine zDI 2 0 i a1 Z a5 ?_
 rintro ac rfl
 refine zDL 3 0 2 e1 a1 a3 ?_
 rintro ⟨⟨p1, c1⟩, ⟨p2, c2⟩, ⟨p3, c3⟩, ⟨⟩, ⟨⟩⟩
 refine dT 4 [9, 11] ?_
 have a6 : i < b.length := τ3
 obtain ⟨e2, a2⟩ := gE a6
 have a9 := okE a4 a2
 refine zDI 6 1 i a1 Z a6 ?_
 rintro ae rfl
 refine zDL 7 1 5 e2 a1 a2 ?_
 rintro ⟨⟨p4, c4⟩, ⟨p5, c5⟩, ⟨p6, c6⟩, ⟨⟩, ⟨⟩⟩
 refine DXV 8 Z J Z Z Z Z Z Z O Z (fun w γ => f208 n τ0 e1 (γ.q 2 Z) (γ.q 3 Z) (γ.q 4 Z) e2 (γ.q 5 Z) (γ.q 6 Z) (γ.q 7 Z) a8 a9) fun ab => ?_
 refine dT 0 [19] ?_
 refine DX.tail2 [] Z Z J ?_
 refine yKN 26 ?_ ?_ <;> intro h3 ad
 have aa := v2.trans (show _ = (some false) by rw [acx a3]; simp only [a71, a2, h3, cT, cF])
 exact R4r Z Z (by simp only [a87, h1, aa, cT, cF])
 refine SA ?_
 exact ITr Z (i + 1) ⟨τ0, (by rw [v2, acx a3]; simp only [a71, a2, h3, cT, cF])⟩ τ1 [0, 1]
 have a7 := v2.trans (show _ = none by rw [dn (show a.length ≤ i by omega)]; simp only [a71, cT, cF])
 exact R4r Z Z (by simp only [a87, h1, a7, cT, cF])
theorem f29 (hn : n + 0 ≤ 9) (a : TrustPolicy) (N0 : Rd w K0 M0 a.keys) (N1 : Rd w K1 M1 a.rules) (N2 : Rd w K2 M2 a.anchors) (N3 : Rd w K3 M3 a.certificates) (b : TrustPolicy) (N4 : Rd w K4 M4 b.keys) (N5 : Rd w K5 M5 b.rules) (N6 : Rd w K6 M6 b.anchors) (N7 : Rd w K7 M7 b.certificates) (a1 : ok n a) (a0 : ok n b) :
 DP 29 #[af4 a K0 M0 K1 M1 K2 M2 K3 M3, af4 b K4 M4 K5 M5 K6 M6 K7 M7] w (pB (a68 a b)) := by
 have hb := bS0 hn
 refine EN Tryz.func29 Z (aC 0 N0 (aC 1 N1 (aC 2 N2 (aC 3 N3 (aC 4 N4 (aC 5 N5 (aC 6 N6 (aC 7 N7 adc)))))))) ?_
 refine KV Z Z Z Z Z Z O Z (fun w γ => f93 n τ0 (γ.q 0 Z) (γ.q 4 Z) ((acz a1).1) ((acz a0).1)) fun a2 => ?_
 refine yKN 10 ?_ ?_ <;> intro h1 a9
 exact R4r Z Z (by simp only [a68, h1, cT, cF])
 refine KV Z Z Z Z Z Z O Z (fun w γ => f94 n τ0 (γ.q 1 Z) (γ.q 5 Z) ((acz a1).2.1) ((acz a0).2.1)) fun a5 => ?_
 refine yKN 16 ?_ ?_ <;> intro h2 a6
 exact R4r Z Z (by simp only [a68, h1, h2, cT, cF])
 refine KV Z Z Z Z Z Z O Z (fun w γ => f95 n τ0 (γ.q 2 Z) (γ.q 6 Z) ((acz a1).2.2.1) ((acz a0).2.2.1)) fun a3 => ?_
 refine yKN 22 ?_ ?_ <;> intro h3 a7
 exact R4r Z Z (by simp only [a68, h1, h2, h3, cT, cF])
 refine KV Z Z Z Z Z Z O Z (fun w γ => f96 n τ0 (γ.q 3 Z) (γ.q 7 Z) ((acz a1).2.2.2) ((acz a0).2.2.2)) fun a4 => ?_
 refine yKN 28 ?_ ?_ <;> intro h4 a8
 exact R4r Z Z (by simp only [a68, h1, h2, h3, h4, cT, cF])
 exact R4r Z Z (by simp only [a68, h1, h2, h3, h4, cT, cF])
theorem f97 (hn : n + 0 ≤ 9) (a : TableEntry) (N0 : Rd w K0 M0 a.name.parts) (b : TableEntry) (N1 : Rd w K1 M1 b.name.parts) (a1 : ok n a) (a0 : ok n b) :
 DP 97 #[.agg #[vS K0 a.name.parts M0, vI a.value], .agg #[vS K1 b.name.parts M1, vI b.value]] w (pB (aa2 a b)) := by
 have hb := bS0 hn
 refine EN Tryz.func97 Z (aS2 N0 N1) ?_
 refine KV Z Z Z Z Z Z O Z (fun w γ => f207 n τ0 a.name (γ.q 0 Z) b.name (γ.q 1 Z) ((adv a1).1) ((adv a0).1)) fun a2 => ?_
 refine yKN 10 ?_ ?_ <;> intro h1 a4
 exact R4r Z Z (by simp only [aa2, h1, cT, cF])
 refine yKM 15 ?_ ?_ <;> intro h2 a3
 exact R4r Z Z (by simp only [aa2, h1, h2, cT, cF])
 exact R4r Z Z (by simp only [aa2, h1, h2, cT, cF])
theorem f30 (hn : n + 0 ≤ 9) {a : List TableEntry} (N0 : Rd w K0 M0 a) {b : List TableEntry} (N1 : Rd w K1 M1 b) (a0 : ok n a) (a4 : ok n b) :
 DP 30 #[vS K0 a M0, vS K1 b M1] w (pB (a88 a b)) := by
 have hb := bS0 hn
 refine EN Tryz.func30 Z (aS2 N0 N1) ?_
 refine yKM 10 ?_ ?_ <;> intro h1 ag
 exact R4r Z Z (by simp only [a88, h1, cT, cF])
 have r1 := (okl a0).1
 refine LM Z 0 (fun i => ((i ≤ a.length) ∧ (a72 b a 0 = a72 b (a.drop i) i), a.length - i, [(5, .v (vI i))], [], [], [])) ⟨zl, Z⟩ [0, 1] [] [0, 1] [0, 1] ?_
 rintro i ⟨v1, v2⟩
 refine yKD 14 ?_ ?_ <;> intro h2 af
 have a5 : i < a.length := τ0
 obtain ⟨e1, a3⟩ := gE a5
 have a8 := okE a0 a3
 refine R0 ?_
 refine WX.draw [] mixed fun bs G0 a1 => ?_
 refine dT 8 [1, 3] ?_
 refine zDI 2 0 i a1 Z a5 ?_
 rintro ac rfl
 refine zDL 3 0 2 e1 a1 a3 ?_
 rintro ⟨⟨p1, c1⟩, ⟨⟩⟩
 refine dT 4 [9, 11] ?_
 have a6 : i < b.length := τ3
 obtain ⟨e2, a2⟩ := gE a6
 have a9 := okE a4 a2
 refine zDI 6 1 i a1 Z a6 ?_
 rintro ae rfl
 refine zDL 7 1 3 e2 a1 a2 ?_
 rintro ⟨⟨p2, c2⟩, ⟨⟩⟩
 refine DXV 8 Z J Z Z Z Z Z Z O Z (fun w γ => f97 n τ0 e1 (γ.q 2 Z) e2 (γ.q 3 Z) a8 a9) fun ab => ?_
 refine dT 0 [19] ?_
 refine DX.tail2 [] Z Z J ?_
 refine yKN 26 ?_ ?_ <;> intro h3 ad
 have aa := v2.trans (show _ = (some false) by rw [acx a3]; simp only [a72, a2, h3, cT, cF])
 exact R4r Z Z (by simp only [a88, h1, aa, cT, cF])
 refine SA ?_
 exact ITr Z (i + 1) ⟨τ0, (by rw [v2, acx a3]; simp only [a72, a2, h3, cT, cF])⟩ τ1 [0, 1]
 have a7 := v2.trans (show _ = none by rw [dn (show a.length ≤ i by omega)]; simp only [a72, cT, cF])
 exact R4r Z Z (by simp only [a88, h1, a7, cT, cF])
theorem f402 (hn : n + 0 ≤ 9) (a : CacheEntry) (N0 : Rd w K0 M0 a.data.name.parts) (N1 : Rd w K1 M1 a.data.content) (N2 : Rd w K2 M2 a.data.keyName.parts) (b : CacheEntry) (N3 : Rd w K3 M3 b.data.name.parts) (N4 : Rd w K4 M4 b.data.content) (N5 : Rd w K5 M5 b.data.keyName.parts) (a1 : ok n a) (a0 : ok n b) :
 DP 402 #[aha a K0 M0 K1 M1 K2 M2, aha b K3 M3 K4 M4 K5 M5] w (pB (aa3 a b)) := by
 have hb := bS0 hn
 refine EN Tryz.func402 Z (aS6 N0 N1 N2 N3 N4 N5) ?_
 refine KV Z Z Z Z Z Z O Z (fun w γ => f208 n τ0 a.data (γ.q 0 Z) (γ.q 1 Z) (γ.q 2 Z) b.data (γ.q 3 Z) (γ.q 4 Z) (γ.q 5 Z) ((aec a1).1) ((aec a0).1)) fun a2 => ?_
 refine yKN 10 ?_ ?_ <;> intro h1 a4
 exact R4r Z Z (by simp only [aa3, h1, cT, cF])
 refine yKM 15 ?_ ?_ <;> intro h2 a3
 exact R4r Z Z (by simp only [aa3, h1, h2, cT, cF])
 exact R4r Z Z (by simp only [aa3, h1, h2, cT, cF])
theorem f366 (hn : n + 0 ≤ 9) {a : List CacheEntry} (N0 : Rd w K0 M0 a) {b : List CacheEntry} (N1 : Rd w K1 M1 b) (a0 : ok n a) (a4 : ok n b) :
 DP 366 #[vS K0 a M0, vS K1 b M1] w (pB (aa4 a b)) := by
 have hb := bS0 hn
 refine EN Tryz.func366 Z (aS2 N0 N1) ?_
 refine yKM 10 ?_ ?_ <;> intro h1 ag
 exact R4r Z Z (by simp only [aa4, h1, cT, cF])
 have r1 := (okl a0).1
 refine LM Z 0 (fun i => ((i ≤ a.length) ∧ (a73 b a 0 = a73 b (a.drop i) i), a.length - i, [(5, .v (vI i))], [], [], [])) ⟨zl, Z⟩ [0, 1] [] [0, 1] [0, 1] ?_
 rintro i ⟨v1, v2⟩
 refine yKD 14 ?_ ?_ <;> intro h2 af
 have a5 : i < a.length := τ0
 obtain ⟨e1, a3⟩ := gE a5
 have a8 := okE a0 a3
 refine R0 ?_
 refine WX.draw [] mixed fun bs G0 a1 => ?_
 refine dT 8 [1, 3] ?_
 refine zDI 2 0 i a1 Z a5 ?_
 rintro ac rfl
 refine zDL 3 0 2 e1 a1 a3 ?_
 rintro ⟨⟨⟨p1, c1⟩, ⟨p2, c2⟩, ⟨p3, c3⟩, ⟨⟩, ⟨⟩⟩, ⟨⟩⟩
 refine dT 4 [9, 11] ?_
 have a6 : i < b.length := τ3
 obtain ⟨e2, a2⟩ := gE a6
 have a9 := okE a4 a2
 refine zDI 6 1 i a1 Z a6 ?_
 rintro ae rfl
 refine zDL 7 1 5 e2 a1 a2 ?_
 rintro ⟨⟨⟨p4, c4⟩, ⟨p5, c5⟩, ⟨p6, c6⟩, ⟨⟩, ⟨⟩⟩, ⟨⟩⟩
 refine DXV 8 Z J Z Z Z Z Z Z O Z (fun w γ => f402 n τ0 e1 (γ.q 2 Z) (γ.q 3 Z) (γ.q 4 Z) e2 (γ.q 5 Z) (γ.q 6 Z) (γ.q 7 Z) a8 a9) fun ab => ?_
 refine dT 0 [19] ?_
 refine DX.tail2 [] Z Z J ?_
 refine yKN 26 ?_ ?_ <;> intro h3 ad
 have aa := v2.trans (show _ = (some false) by rw [acx a3]; simp only [a73, a2, h3, cT, cF])
 exact R4r Z Z (by simp only [aa4, h1, aa, cT, cF])
 refine SA ?_
 exact ITr Z (i + 1) ⟨τ0, (by rw [v2, acx a3]; simp only [a73, a2, h3, cT, cF])⟩ τ1 [0, 1]
 have a7 := v2.trans (show _ = none by rw [dn (show a.length ≤ i by omega)]; simp only [a73, cT, cF])
 exact R4r Z Z (by simp only [aa4, h1, a7, cT, cF])
theorem f295 (hn : n + 0 ≤ 9) (a : ContentStore) (N0 : Rd w K0 M0 a.entries) (b : ContentStore) (N1 : Rd w K1 M1 b.entries) (a1 : ok n a) (a0 : ok n b) :
 DP 295 #[.agg #[vI a.capacity, vS K0 a.entries M0], .agg #[vI b.capacity, vS K1 b.entries M1]] w (pB (aa5 a b)) := by
 have hb := bS0 hn
 refine EN Tryz.func295 Z (aS2 N0 N1) ?_
 refine yKM 9 ?_ ?_ <;> intro h1 a4
 exact R4r Z Z (by simp only [aa5, h1, cT, cF])
 refine KV Z Z Z Z Z Z O Z (fun w γ => f366 n τ0 (γ.q 0 Z) (γ.q 1 Z) ((aei a1).2) ((aei a0).2)) fun a2 => ?_
 refine yKN 15 ?_ ?_ <;> intro h2 a3
 exact R4r Z Z (by simp only [aa5, h1, h2, cT, cF])
 exact R4r Z Z (by simp only [aa5, h1, h2, cT, cF])
theorem f443 (hn : n + 0 ≤ 9) (a : Requester) (b : Requester) (a1 : ok n a) (a0 : ok n b) :
 DP 443 #[.agg #[vI a.face, vI a.nonce, vI a.expiry], .agg #[vI b.face, vI b.nonce, vI b.expiry]] w (pB (a89 a b)) := by
 refine EN Tryz.func443 Z adc ?_
 refine yKM 9 ?_ ?_ <;> intro h1 a4
 exact R4r Z Z (by simp only [a89, h1, cT, cF])
 refine yKM 14 ?_ ?_ <;> intro h2 a2
 exact R4r Z Z (by simp only [a89, h1, h2, cT, cF])
 refine yKM 19 ?_ ?_ <;> intro h3 a3
 exact R4r Z Z (by simp only [a89, h1, h2, h3, cT, cF])
 exact R4r Z Z (by simp only [a89, h1, h2, h3, cT, cF])
theorem f403 (hn : n + 0 ≤ 9) {a : List Requester} (N0 : Rd w K0 M0 a) {b : List Requester} (N1 : Rd w K1 M1 b) (a0 : ok n a) (a4 : ok n b) :
 DP 403 #[vS K0 a M0, vS K1 b M1] w (pB (aa6 a b)) := by
 have hb := bS0 hn
 refine EN Tryz.func403 Z (aS2 N0 N1) ?_
 refine yKM 10 ?_ ?_ <;> intro h1 ag
 exact R4r Z Z (by simp only [aa6, h1, cT, cF])
 have r1 := (okl a0).1
 refine LM Z 0 (fun i => ((i ≤ a.length) ∧ (a74 b a 0 = a74 b (a.drop i) i), a.length - i, [(5, .v (vI i))], [], [], [])) ⟨zl, Z⟩ [0, 1] [] [0, 1] [0, 1] ?_
 rintro i ⟨v1, v2⟩
 refine yKD 14 ?_ ?_ <;> intro h2 af
 have a5 : i < a.length := τ0
 obtain ⟨e1, a3⟩ := gE a5
 have a8 := okE a0 a3
 refine R0 ?_
 refine WX.draw [] mixed fun bs G0 a1 => ?_
 refine dT 8 [1, 3] ?_
 refine zDI 2 0 i a1 Z a5 ?_
 rintro ac rfl
 refine zDL 3 0 2 e1 a1 a3 ?_
 rintro ⟨⟨⟩, ⟨⟩, ⟨⟩⟩
 refine dT 4 [9, 11] ?_
 have a6 : i < b.length := τ3
 obtain ⟨e2, a2⟩ := gE a6
 have a9 := okE a4 a2
 refine zDI 6 1 i a1 Z a6 ?_
 rintro ae rfl
 refine zDL 7 1 2 e2 a1 a2 ?_
 rintro ⟨⟨⟩, ⟨⟩, ⟨⟩⟩
 refine DXV 8 Z J Z Z Z Z Z Z O Z (fun w γ => f443 n τ0 e1 e2 a8 a9) fun ab => ?_
 refine dT 0 [19] ?_
 refine DX.tail2 [] Z Z J ?_
 refine yKN 26 ?_ ?_ <;> intro h3 ad
 have aa := v2.trans (show _ = (some false) by rw [acx a3]; simp only [a74, a2, h3, cT, cF])
 exact R4r Z Z (by simp only [aa6, h1, aa, cT, cF])
 refine SA ?_
 exact ITr Z (i + 1) ⟨τ0, (by rw [v2, acx a3]; simp only [a74, a2, h3, cT, cF])⟩ τ1 [0, 1]
 have a7 := v2.trans (show _ = none by rw [dn (show a.length ≤ i by omega)]; simp only [a74, cT, cF])
 exact R4r Z Z (by simp only [aa6, h1, a7, cT, cF])
theorem f367 (hn : n + 0 ≤ 9) (a : PendingInterest) (N0 : Rd w K0 M0 a.name.parts) (N1 : Rd w K1 M1 a.requesters) (b : PendingInterest) (N2 : Rd w K2 M2 b.name.parts) (N3 : Rd w K3 M3 b.requesters) (a1 : ok n a) (a0 : ok n b) :
 DP 367 #[agc a K0 M0 K1 M1, agc b K2 M2 K3 M3] w (pB (a8a a b)) := by
 have hb := bS0 hn
 refine EN Tryz.func367 Z (aS4 N0 N1 N2 N3) ?_
 refine KV Z Z Z Z Z Z O Z (fun w γ => f207 n τ0 a.name (γ.q 0 Z) b.name (γ.q 2 Z) ((ad8 a1).1) ((ad8 a0).1)) fun a2 => ?_
 refine yKN 10 ?_ ?_ <;> intro h1 a6
 exact R4r Z Z (by simp only [a8a, h1, cT, cF])
 refine KV Z Z Z Z Z Z O Z (fun w γ => f403 n τ0 (γ.q 1 Z) (γ.q 3 Z) ((ad8 a1).2.1) ((ad8 a0).2.1)) fun a3 => ?_
 refine yKN 16 ?_ ?_ <;> intro h2 a4
 exact R4r Z Z (by simp only [a8a, h1, h2, cT, cF])
 refine yKM 21 ?_ ?_ <;> intro h3 a5
 exact R4r Z Z (by simp only [a8a, h1, h2, h3, cT, cF])
 exact R4r Z Z (by simp only [a8a, h1, h2, h3, cT, cF])
theorem f296 (hn : n + 0 ≤ 9) {a : List PendingInterest} (N0 : Rd w K0 M0 a) {b : List PendingInterest} (N1 : Rd w K1 M1 b) (a0 : ok n a) (a4 : ok n b) :
 DP 296 #[vS K0 a M0, vS K1 b M1] w (pB (aa7 a b)) := by
 have hb := bS0 hn
 refine EN Tryz.func296 Z (aS2 N0 N1) ?_
 refine yKM 10 ?_ ?_ <;> intro h1 ag
 exact R4r Z Z (by simp only [aa7, h1, cT, cF])
 have r1 := (okl a0).1
 refine LM Z 0 (fun i => ((i ≤ a.length) ∧ (a75 b a 0 = a75 b (a.drop i) i), a.length - i, [(5, .v (vI i))], [], [], [])) ⟨zl, Z⟩ [0, 1] [] [0, 1] [0, 1] ?_
 rintro i ⟨v1, v2⟩
 refine yKD 14 ?_ ?_ <;> intro h2 af
 have a5 : i < a.length := τ0
 obtain ⟨e1, a3⟩ := gE a5
 have a8 := okE a0 a3
 refine R0 ?_
 refine WX.draw [] mixed fun bs G0 a1 => ?_
 refine dT 8 [1, 3] ?_
 refine zDI 2 0 i a1 Z a5 ?_
 rintro ac rfl
 refine zDL 3 0 2 e1 a1 a3 ?_
 rintro ⟨⟨p1, c1⟩, ⟨p2, c2⟩, ⟨⟩⟩
 refine dT 4 [9, 11] ?_
 have a6 : i < b.length := τ3
 obtain ⟨e2, a2⟩ := gE a6
 have a9 := okE a4 a2
 refine zDI 6 1 i a1 Z a6 ?_
 rintro ae rfl
 refine zDL 7 1 4 e2 a1 a2 ?_
 rintro ⟨⟨p3, c3⟩, ⟨p4, c4⟩, ⟨⟩⟩
 refine DXV 8 Z J Z Z Z Z Z Z O Z (fun w γ => f367 n τ0 e1 (γ.q 2 Z) (γ.q 3 Z) e2 (γ.q 4 Z) (γ.q 5 Z) a8 a9) fun ab => ?_
 refine dT 0 [19] ?_
 refine DX.tail2 [] Z Z J ?_
 refine yKN 26 ?_ ?_ <;> intro h3 ad
 have aa := v2.trans (show _ = (some false) by rw [acx a3]; simp only [a75, a2, h3, cT, cF])
 exact R4r Z Z (by simp only [aa7, h1, aa, cT, cF])
 refine SA ?_
 exact ITr Z (i + 1) ⟨τ0, (by rw [v2, acx a3]; simp only [a75, a2, h3, cT, cF])⟩ τ1 [0, 1]
 have a7 := v2.trans (show _ = none by rw [dn (show a.length ≤ i by omega)]; simp only [a75, cT, cF])
 exact R4r Z Z (by simp only [aa7, h1, a7, cT, cF])
theorem f368 (hn : n + 0 ≤ 9) (a : SeenNonce) (N0 : Rd w K0 M0 a.name.parts) (b : SeenNonce) (N1 : Rd w K1 M1 b.name.parts) (a1 : ok n a) (a0 : ok n b) :
 DP 368 #[.agg #[vS K0 a.name.parts M0, vI a.nonce], .agg #[vS K1 b.name.parts M1, vI b.nonce]] w (pB (aa8 a b)) := by
 have hb := bS0 hn
 refine EN Tryz.func368 Z (aS2 N0 N1) ?_
 refine KV Z Z Z Z Z Z O Z (fun w γ => f207 n τ0 a.name (γ.q 0 Z) b.name (γ.q 1 Z) ((aew a1).1) ((aew a0).1)) fun a2 => ?_
 refine yKN 10 ?_ ?_ <;> intro h1 a4
 exact R4r Z Z (by simp only [aa8, h1, cT, cF])
 refine yKM 15 ?_ ?_ <;> intro h2 a3
 exact R4r Z Z (by simp only [aa8, h1, h2, cT, cF])
 exact R4r Z Z (by simp only [aa8, h1, h2, cT, cF])
theorem f297 (hn : n + 0 ≤ 9) {a : List SeenNonce} (N0 : Rd w K0 M0 a) {b : List SeenNonce} (N1 : Rd w K1 M1 b) (a0 : ok n a) (a4 : ok n b) :
 DP 297 #[vS K0 a M0, vS K1 b M1] w (pB (aa9 a b)) := by
 have hb := bS0 hn
 refine EN Tryz.func297 Z (aS2 N0 N1) ?_
 refine yKM 10 ?_ ?_ <;> intro h1 ag
 exact R4r Z Z (by simp only [aa9, h1, cT, cF])
 have r1 := (okl a0).1
 refine LM Z 0 (fun i => ((i ≤ a.length) ∧ (a76 b a 0 = a76 b (a.drop i) i), a.length - i, [(5, .v (vI i))], [], [], [])) ⟨zl, Z⟩ [0, 1] [] [0, 1] [0, 1] ?_
 rintro i ⟨v1, v2⟩
 refine yKD 14 ?_ ?_ <;> intro h2 af
 have a5 : i < a.length := τ0
 obtain ⟨e1, a3⟩ := gE a5
 have a8 := okE a0 a3
 refine R0 ?_
 refine WX.draw [] mixed fun bs G0 a1 => ?_
 refine dT 8 [1, 3] ?_
 refine zDI 2 0 i a1 Z a5 ?_
 rintro ac rfl
 refine zDL 3 0 2 e1 a1 a3 ?_
 rintro ⟨⟨p1, c1⟩, ⟨⟩⟩
 refine dT 4 [9, 11] ?_
 have a6 : i < b.length := τ3
 obtain ⟨e2, a2⟩ := gE a6
 have a9 := okE a4 a2
 refine zDI 6 1 i a1 Z a6 ?_
 rintro ae rfl
 refine zDL 7 1 3 e2 a1 a2 ?_
 rintro ⟨⟨p2, c2⟩, ⟨⟩⟩
 refine DXV 8 Z J Z Z Z Z Z Z O Z (fun w γ => f368 n τ0 e1 (γ.q 2 Z) e2 (γ.q 3 Z) a8 a9) fun ab => ?_
 refine dT 0 [19] ?_
 refine DX.tail2 [] Z Z J ?_
 refine yKN 26 ?_ ?_ <;> intro h3 ad
 have aa := v2.trans (show _ = (some false) by rw [acx a3]; simp only [a76, a2, h3, cT, cF])
 exact R4r Z Z (by simp only [aa9, h1, aa, cT, cF])
 refine SA ?_
 exact ITr Z (i + 1) ⟨τ0, (by rw [v2, acx a3]; simp only [a76, a2, h3, cT, cF])⟩ τ1 [0, 1]
 have a7 := v2.trans (show _ = none by rw [dn (show a.length ≤ i by omega)]; simp only [a76, cT, cF])
 exact R4r Z Z (by simp only [aa9, h1, a7, cT, cF])
theorem f369 (hn : n + 0 ≤ 9) (a : Route) (N0 : Rd w K0 M0 a.pfx.parts) (b : Route) (N1 : Rd w K1 M1 b.pfx.parts) (a1 : ok n a) (a0 : ok n b) :
 DP 369 #[an6 a K0 M0, an6 b K1 M1] w (pB (a8b a b)) := by
 have hb := bS0 hn
 refine EN Tryz.func369 Z (aS2 N0 N1) ?_
 refine KV Z Z Z Z Z Z O Z (fun w γ => f207 n τ0 a.pfx (γ.q 0 Z) b.pfx (γ.q 1 Z) ((adn a1).1) ((adn a0).1)) fun a2 => ?_
 refine yKN 10 ?_ ?_ <;> intro h1 a5
 exact R4r Z Z (by simp only [a8b, h1, cT, cF])
 refine yKM 15 ?_ ?_ <;> intro h2 a3
 exact R4r Z Z (by simp only [a8b, h1, h2, cT, cF])
 refine yKM 20 ?_ ?_ <;> intro h3 a4
 exact R4r Z Z (by simp only [a8b, h1, h2, h3, cT, cF])
 exact R4r Z Z (by simp only [a8b, h1, h2, h3, cT, cF])
theorem f298 (hn : n + 0 ≤ 9) {a : List Route} (N0 : Rd w K0 M0 a) {b : List Route} (N1 : Rd w K1 M1 b) (a0 : ok n a) (a4 : ok n b) :
 DP 298 #[vS K0 a M0, vS K1 b M1] w (pB (aaa a b)) := by
 have hb := bS0 hn
 refine EN Tryz.func298 Z (aS2 N0 N1) ?_
 refine yKM 10 ?_ ?_ <;> intro h1 ag
 exact R4r Z Z (by simp only [aaa, h1, cT, cF])
 have r1 := (okl a0).1
 refine LM Z 0 (fun i => ((i ≤ a.length) ∧ (a77 b a 0 = a77 b (a.drop i) i), a.length - i, [(5, .v (vI i))], [], [], [])) ⟨zl, Z⟩ [0, 1] [] [0, 1] [0, 1] ?_
 rintro i ⟨v1, v2⟩
 refine yKD 14 ?_ ?_ <;> intro h2 af
 have a5 : i < a.length := τ0
 obtain ⟨e1, a3⟩ := gE a5
 have a8 := okE a0 a3
 refine R0 ?_
 refine WX.draw [] mixed fun bs G0 a1 => ?_
 refine dT 8 [1, 3] ?_
 refine zDI 2 0 i a1 Z a5 ?_
 rintro ac rfl
 refine zDL 3 0 2 e1 a1 a3 ?_
 rintro ⟨⟨p1, c1⟩, ⟨⟩, ⟨⟩⟩
 refine dT 4 [9, 11] ?_
 have a6 : i < b.length := τ3
 obtain ⟨e2, a2⟩ := gE a6
 have a9 := okE a4 a2
 refine zDI 6 1 i a1 Z a6 ?_
 rintro ae rfl
 refine zDL 7 1 3 e2 a1 a2 ?_
 rintro ⟨⟨p2, c2⟩, ⟨⟩, ⟨⟩⟩
 refine DXV 8 Z J Z Z Z Z Z Z O Z (fun w γ => f369 n τ0 e1 (γ.q 2 Z) e2 (γ.q 3 Z) a8 a9) fun ab => ?_
 refine dT 0 [19] ?_
 refine DX.tail2 [] Z Z J ?_
 refine yKN 26 ?_ ?_ <;> intro h3 ad
 have aa := v2.trans (show _ = (some false) by rw [acx a3]; simp only [a77, a2, h3, cT, cF])
 exact R4r Z Z (by simp only [aaa, h1, aa, cT, cF])
 refine SA ?_
 exact ITr Z (i + 1) ⟨τ0, (by rw [v2, acx a3]; simp only [a77, a2, h3, cT, cF])⟩ τ1 [0, 1]
 have a7 := v2.trans (show _ = none by rw [dn (show a.length ≤ i by omega)]; simp only [a77, cT, cF])
 exact R4r Z Z (by simp only [aaa, h1, a7, cT, cF])
theorem f370 (hn : n + 0 ≤ 9) (a : Measurement) (N0 : Rd w K0 M0 a.pfx.parts) (b : Measurement) (N1 : Rd w K1 M1 b.pfx.parts) (a1 : ok n a) (a0 : ok n b) :
 DP 370 #[.agg #[vS K0 a.pfx.parts M0, vI a.face, vI a.failures], .agg #[vS K1 b.pfx.parts M1, vI b.face, vI b.failures]] w (pB (a8c a b)) := by
 have hb := bS0 hn
 refine EN Tryz.func370 Z (aS2 N0 N1) ?_
 refine KV Z Z Z Z Z Z O Z (fun w γ => f207 n τ0 a.pfx (γ.q 0 Z) b.pfx (γ.q 1 Z) ((ae3 a1).1) ((ae3 a0).1)) fun a2 => ?_
 refine yKN 10 ?_ ?_ <;> intro h1 a5
 exact R4r Z Z (by simp only [a8c, h1, cT, cF])
 refine yKM 15 ?_ ?_ <;> intro h2 a3
 exact R4r Z Z (by simp only [a8c, h1, h2, cT, cF])
 refine yKM 20 ?_ ?_ <;> intro h3 a4
 exact R4r Z Z (by simp only [a8c, h1, h2, h3, cT, cF])
 exact R4r Z Z (by simp only [a8c, h1, h2, h3, cT, cF])
theorem f299 (hn : n + 0 ≤ 9) {a : List Measurement} (N0 : Rd w K0 M0 a) {b : List Measurement} (N1 : Rd w K1 M1 b) (a0 : ok n a) (a4 : ok n b) :
 DP 299 #[vS K0 a M0, vS K1 b M1] w (pB (aab a b)) := by
 have hb := bS0 hn
 refine EN Tryz.func299 Z (aS2 N0 N1) ?_
 refine yKM 10 ?_ ?_ <;> intro h1 ag
 exact R4r Z Z (by simp only [aab, h1, cT, cF])
 have r1 := (okl a0).1
 refine LM Z 0 (fun i => ((i ≤ a.length) ∧ (a78 b a 0 = a78 b (a.drop i) i), a.length - i, [(5, .v (vI i))], [], [], [])) ⟨zl, Z⟩ [0, 1] [] [0, 1] [0, 1] ?_
 rintro i ⟨v1, v2⟩
 refine yKD 14 ?_ ?_ <;> intro h2 af
 have a5 : i < a.length := τ0
 obtain ⟨e1, a3⟩ := gE a5
 have a8 := okE a0 a3
 refine R0 ?_
 refine WX.draw [] mixed fun bs G0 a1 => ?_
 refine dT 8 [1, 3] ?_
 refine zDI 2 0 i a1 Z a5 ?_
 rintro ac rfl
 refine zDL 3 0 2 e1 a1 a3 ?_
 rintro ⟨⟨p1, c1⟩, ⟨⟩, ⟨⟩⟩
 refine dT 4 [9, 11] ?_
 have a6 : i < b.length := τ3
 obtain ⟨e2, a2⟩ := gE a6
 have a9 := okE a4 a2
 refine zDI 6 1 i a1 Z a6 ?_
 rintro ae rfl
 refine zDL 7 1 3 e2 a1 a2 ?_
 rintro ⟨⟨p2, c2⟩, ⟨⟩, ⟨⟩⟩
 refine DXV 8 Z J Z Z Z Z Z Z O Z (fun w γ => f370 n τ0 e1 (γ.q 2 Z) e2 (γ.q 3 Z) a8 a9) fun ab => ?_
 refine dT 0 [19] ?_
 refine DX.tail2 [] Z Z J ?_
 refine yKN 26 ?_ ?_ <;> intro h3 ad
 have aa := v2.trans (show _ = (some false) by rw [acx a3]; simp only [a78, a2, h3, cT, cF])
 exact R4r Z Z (by simp only [aab, h1, aa, cT, cF])
 refine SA ?_
 exact ITr Z (i + 1) ⟨τ0, (by rw [v2, acx a3]; simp only [a78, a2, h3, cT, cF])⟩ τ1 [0, 1]
 have a7 := v2.trans (show _ = none by rw [dn (show a.length ≤ i by omega)]; simp only [a78, cT, cF])
 exact R4r Z Z (by simp only [aab, h1, a7, cT, cF])
theorem f201 (hn : n + 0 ≤ 9) (a : NodeP) (N0 : Rd w K0 M0 a.locl) (N1 : Rd w K1 M1 a.cache.entries) (N2 : Rd w K2 M2 a.pending) (N3 : Rd w K3 M3 a.seen) (N4 : Rd w K4 M4 a.routes) (N5 : Rd w K5 M5 a.measurements) (b : NodeP) (N6 : Rd w K6 M6 b.locl) (N7 : Rd w K7 M7 b.cache.entries) (N8 : Rd w K8 M8 b.pending) (N9 : Rd w K9 M9 b.seen) (N10 : Rd w K10 M10 b.routes) (N11 : Rd w K11 M11 b.measurements) (a1 : ok n a) (a0 : ok n b) :
 DP 201 #[apk a K0 M0 K1 M1 K2 M2 K3 M3 K4 M4 K5 M5, apk b K6 M6 K7 M7 K8 M8 K9 M9 K10 M10 K11 M11] w (pB (a4m a b)) := by
 have hb := bS0 hn
 refine EN Tryz.func201 Z (aC 0 N0 (aC 1 N1 (aC 2 N2 (aC 3 N3 (aC 4 N4 (aC 5 N5 (aC 6 N6 (aC 7 N7 (aC 8 N8 (aC 9 N9 (aC 10 N10 (aC 11 N11 adc)))))))))))) ?_
 refine KV Z Z Z Z Z Z O Z (fun w γ => f96 n τ0 (γ.q 0 Z) (γ.q 6 Z) ((ad6 a1).1) ((ad6 a0).1)) fun a4 => ?_
 refine yKN 10 ?_ ?_ <;> intro h1 ae
 exact R4r Z Z (by simp only [a4m, h1, cT, cF])
 refine KV Z Z Z Z Z Z O Z (fun w γ => f295 n τ0 a.cache (γ.q 1 Z) b.cache (γ.q 7 Z) ((ad6 a1).2.1) ((ad6 a0).2.1)) fun a5 => ?_
 refine yKN 16 ?_ ?_ <;> intro h2 ab
 exact R4r Z Z (by simp only [a4m, h1, h2, cT, cF])
 refine KV Z Z Z Z Z Z O Z (fun w γ => f296 n τ0 (γ.q 2 Z) (γ.q 8 Z) ((ad6 a1).2.2.1) ((ad6 a0).2.2.1)) fun ad => ?_
 refine yKN 22 ?_ ?_ <;> intro h3 a6
 exact R4r Z Z (by simp only [a4m, h1, h2, h3, cT, cF])
 refine KV Z Z Z Z Z Z O Z (fun w γ => f297 n τ0 (γ.q 3 Z) (γ.q 9 Z) ((ad6 a1).2.2.2.1) ((ad6 a0).2.2.2.1)) fun aa => ?_
 refine yKN 28 ?_ ?_ <;> intro h4 a7
 exact R4r Z Z (by simp only [a4m, h1, h2, h3, h4, cT, cF])
 refine KV Z Z Z Z Z Z O Z (fun w γ => f298 n τ0 (γ.q 4 Z) (γ.q 10 Z) ((ad6 a1).2.2.2.2.1) ((ad6 a0).2.2.2.2.1)) fun a3 => ?_
 refine yKN 34 ?_ ?_ <;> intro h5 a9
 exact R4r Z Z (by simp only [a4m, h1, h2, h3, h4, h5, cT, cF])
 refine KV Z Z Z Z Z Z O Z (fun w γ => f299 n τ0 (γ.q 5 Z) (γ.q 11 Z) ((ad6 a1).2.2.2.2.2.1) ((ad6 a0).2.2.2.2.2.1)) fun ac => ?_
 refine yKN 40 ?_ ?_ <;> intro h6 a2
 exact R4r Z Z (by simp only [a4m, h1, h2, h3, h4, h5, h6, cT, cF])
 refine yKM 45 ?_ ?_ <;> intro h7 a8
 exact R4r Z Z (by simp only [a4m, h1, h2, h3, h4, h5, h6, h7, cT, cF])
 exact R4r Z Z (by simp only [a4m, h1, h2, h3, h4, h5, h6, h7, cT, cF])
theorem f88 (hn : n + 0 ≤ 9) {a : List NodeP} (N0 : Rd w K0 M0 a) {b : List NodeP} (N1 : Rd w K1 M1 b) (a0 : ok n a) (a4 : ok n b) :
 DP 88 #[vS K0 a M0, vS K1 b M1] w (pB (aac a b)) := by
 have hb := bS0 hn
 refine EN Tryz.func88 Z (aS2 N0 N1) ?_
 refine yKM 10 ?_ ?_ <;> intro h1 am
 exact R4r Z Z (by simp only [aac, h1, cT, cF])
 have r1 := (okl a0).1
 refine LM Z 0 (fun i => ((i ≤ a.length) ∧ (a79 b a 0 = a79 b (a.drop i) i), a.length - i, [(5, .v (vI i))], [], [], [])) ⟨zl, Z⟩ [0, 1] [] [0, 1] [0, 1] ?_
 rintro i ⟨v1, v2⟩
 refine yKD 14 ?_ ?_ <;> intro h2 al
 have a5 : i < a.length := τ0
 obtain ⟨e1, a3⟩ := gE a5
 have a8 := okE a0 a3
 refine R0 ?_
 refine WX.draw [] mixed fun bs G0 a1 => ?_
 refine dT 8 [1, 3] ?_
 refine zDI 2 0 i a1 Z a5 ?_
 rintro ad rfl
 refine zDL 3 0 2 e1 a1 a3 ?_
 rintro ⟨⟨p1, c1⟩, ⟨⟨⟩, ⟨p2, c2⟩⟩, ⟨p3, c3⟩, ⟨p4, c4⟩, ⟨p5, c5⟩, ⟨p6, c6⟩, ⟨⟩⟩
 refine dT 4 [9, 11] ?_
 have a6 : i < b.length := τ3
 obtain ⟨e2, a2⟩ := gE a6
 have a9 := okE a4 a2
 refine zDI 6 1 i a1 Z a6 ?_
 rintro ak rfl
 refine zDL 7 1 8 e2 a1 a2 ?_
 rintro ⟨⟨p7, c7⟩, ⟨⟨⟩, ⟨p8, c8⟩⟩, ⟨p9, c9⟩, ⟨af, ai⟩, ⟨aj, ah⟩, ⟨ag, ab⟩, ⟨⟩⟩
 refine DXV 8 Z J Z Z Z Z Z Z O Z (fun w γ => f201 n τ0 e1 (γ.q 2 Z) (γ.q 3 Z) (γ.q 4 Z) (γ.q 5 Z) (γ.q 6 Z) (γ.q 7 Z) e2 (γ.q 8 Z) (γ.q 9 Z) (γ.q 10 Z) (γ.q 11 Z) (γ.q 12 Z) (γ.q 13 Z) a8 a9) fun ac => ?_
 refine dT 0 [19] ?_
 refine DX.tail2 [] Z Z J ?_
 refine yKN 26 ?_ ?_ <;> intro h3 ae
 have aa := v2.trans (show _ = (some false) by rw [acx a3]; simp only [a79, a2, h3, cT, cF])
 exact R4r Z Z (by simp only [aac, h1, aa, cT, cF])
 refine SA ?_
 exact ITr Z (i + 1) ⟨τ0, (by rw [v2, acx a3]; simp only [a79, a2, h3, cT, cF])⟩ τ1 [0, 1]
 have a7 := v2.trans (show _ = none by rw [dn (show a.length ≤ i by omega)]; simp only [a79, cT, cF])
 exact R4r Z Z (by simp only [aac, h1, a7, cT, cF])
theorem f89 (hn : n + 0 ≤ 9) {a : List Int} (N0 : Rd w K0 M0 a) {b : List Int} (N1 : Rd w K1 M1 b) (a0 : ok n a) (a4 : ok n b) :
 DP 89 #[vS K0 a M0, vS K1 b M1] w (pB (aad a b)) := by
 have hb := bS0 hn
 refine EN Tryz.func89 Z (aS2 N0 N1) ?_
 refine yKM 10 ?_ ?_ <;> intro h1 af
 exact R4r Z Z (by simp only [aad, h1, cT, cF])
 have r1 := (okl a0).1
 refine LM Z 0 (fun i => ((i ≤ a.length) ∧ (a7a b a 0 = a7a b (a.drop i) i), a.length - i, [(5, .v (vI i))], [], [], [])) ⟨zl, Z⟩ [0, 1] [] [0, 1] [0, 1] ?_
 rintro i ⟨v1, v2⟩
 refine yKD 14 ?_ ?_ <;> intro h2 ae
 have a5 : i < a.length := τ0
 obtain ⟨e1, a3⟩ := gE a5
 have ab := okE a0 a3
 refine R0 ?_
 refine WX.draw [] mixed fun bs G0 a1 => ?_
 refine dT 7 [1, 3] ?_
 refine zDI 2 0 i a1 Z a5 ?_
 rintro a9 rfl
 refine zDL 3 0 2 e1 a1 a3 ?_
 rintro ⟨⟩
 refine dT 3 [9, 11] ?_
 have a6 : i < b.length := τ3
 obtain ⟨e2, a2⟩ := gE a6
 have ad := okE a4 a2
 refine zDI 6 1 i a1 Z a6 ?_
 rintro ac rfl
 refine zDL 7 1 2 e2 a1 a2 ?_
 rintro ⟨⟩
 refine dT 0 [17] ?_
 refine DX.tail2 [] Z Z J ?_
 refine yKM 25 ?_ ?_ <;> intro h3 aa
 have a8 := v2.trans (show _ = (some false) by rw [acx a3]; simp only [a7a, a2, h3, cT, cF])
 exact R4r Z Z (by simp only [aad, h1, a8, cT, cF])
 refine SA ?_
 exact ITr Z (i + 1) ⟨τ0, (by rw [v2, acx a3]; simp only [a7a, a2, h3, cT, cF])⟩ τ1 [0, 1]
 have a7 := v2.trans (show _ = none by rw [dn (show a.length ≤ i by omega)]; simp only [a7a, cT, cF])
 exact R4r Z Z (by simp only [aad, h1, a7, cT, cF])
theorem f300 (hn : n + 0 ≤ 9) (a : Interest) (N0 : Rd w K0 M0 a.name.parts) (b : Interest) (N1 : Rd w K1 M1 b.name.parts) (a1 : ok n a) (a0 : ok n b) :
 DP 300 #[ai1 a K0 M0, ai1 b K1 M1] w (pB (a7b a b)) := by
 have hb := bS0 hn
 refine EN Tryz.func300 Z (aS2 N0 N1) ?_
 refine KV Z Z Z Z Z Z O Z (fun w γ => f207 n τ0 a.name (γ.q 0 Z) b.name (γ.q 1 Z) ((aep a1).1) ((aep a0).1)) fun a2 => ?_
 refine yKN 10 ?_ ?_ <;> intro h1 a6
 exact R4r Z Z (by simp only [a7b, h1, cT, cF])
 refine yKM 15 ?_ ?_ <;> intro h2 a3
 exact R4r Z Z (by simp only [a7b, h1, h2, cT, cF])
 refine yKM 20 ?_ ?_ <;> intro h3 a4
 exact R4r Z Z (by simp only [a7b, h1, h2, h3, cT, cF])
 refine yKM 25 ?_ ?_ <;> intro h4 a5
 exact R4r Z Z (by simp only [a7b, h1, h2, h3, h4, cT, cF])
 exact R4r Z Z (by simp only [a7b, h1, h2, h3, h4, cT, cF])
theorem f202 (hn : n + 0 ≤ 9) (a : PacketInFlight) (N0 : Rd w K0 M0 a.interest.name.parts) (N1 : Rd w K1 M1 a.data.name.parts) (N2 : Rd w K2 M2 a.data.content) (N3 : Rd w K3 M3 a.data.keyName.parts) (b : PacketInFlight) (N4 : Rd w K4 M4 b.interest.name.parts) (N5 : Rd w K5 M5 b.data.name.parts) (N6 : Rd w K6 M6 b.data.content) (N7 : Rd w K7 M7 b.data.keyName.parts) (a1 : ok n a) (a0 : ok n b) :
 DP 202 #[afm a K0 M0 K1 M1 K2 M2 K3 M3, afm b K4 M4 K5 M5 K6 M6 K7 M7] w (pB (a69 a b)) := by
 have hb := bS0 hn
 refine EN Tryz.func202 Z (aC 0 N0 (aC 1 N1 (aC 2 N2 (aC 3 N3 (aC 4 N4 (aC 5 N5 (aC 6 N6 (aC 7 N7 adc)))))))) ?_
 refine yKM 9 ?_ ?_ <;> intro h1 a8
 exact R4r Z Z (by simp only [a69, h1, cT, cF])
 refine yKM 14 ?_ ?_ <;> intro h2 a5
 exact R4r Z Z (by simp only [a69, h1, h2, cT, cF])
 refine KS Z Z Z Z (fun _ hΓ => akr ttOk Z Z Z Z Z Z) ?_
 refine yKN 19 ?_ ?_ <;> intro h3 a6
 exact R4r Z Z (by simp only [a69, h1, h2, h3, cT, cF])
 refine KV Z Z Z Z Z Z O Z (fun w γ => f300 n τ0 a.interest (γ.q 0 Z) b.interest (γ.q 4 Z) ((ad5 a1).2.2.2.1) ((ad5 a0).2.2.2.1)) fun a3 => ?_
 refine yKN 25 ?_ ?_ <;> intro h4 a7
 exact R4r Z Z (by simp only [a69, h1, h2, h3, h4, cT, cF])
 refine KV Z Z Z Z Z Z O Z (fun w γ => f208 n τ0 a.data (γ.q 1 Z) (γ.q 2 Z) (γ.q 3 Z) b.data (γ.q 5 Z) (γ.q 6 Z) (γ.q 7 Z) ((ad5 a1).2.2.2.2) ((ad5 a0).2.2.2.2)) fun a4 => ?_
 refine yKN 31 ?_ ?_ <;> intro h5 a2
 exact R4r Z Z (by simp only [a69, h1, h2, h3, h4, h5, cT, cF])
 exact R4r Z Z (by simp only [a69, h1, h2, h3, h4, h5, cT, cF])
theorem f90 (hn : n + 0 ≤ 9) {a : List PacketInFlight} (N0 : Rd w K0 M0 a) {b : List PacketInFlight} (N1 : Rd w K1 M1 b) (a0 : ok n a) (a4 : ok n b) :
 DP 90 #[vS K0 a M0, vS K1 b M1] w (pB (aae a b)) := by
 have hb := bS0 hn
 refine EN Tryz.func90 Z (aS2 N0 N1) ?_
 refine yKM 10 ?_ ?_ <;> intro h1 ag
 exact R4r Z Z (by simp only [aae, h1, cT, cF])
 have r1 := (okl a0).1
 refine LM Z 0 (fun i => ((i ≤ a.length) ∧ (a7c b a 0 = a7c b (a.drop i) i), a.length - i, [(5, .v (vI i))], [], [], [])) ⟨zl, Z⟩ [0, 1] [] [0, 1] [0, 1] ?_
 rintro i ⟨v1, v2⟩
 refine yKD 14 ?_ ?_ <;> intro h2 af
 have a5 : i < a.length := τ0
 obtain ⟨e1, a3⟩ := gE a5
 have a8 := okE a0 a3
 refine R0 ?_
 refine WX.draw [] mixed fun bs G0 a1 => ?_
 refine dT 8 [1, 3] ?_
 refine zDI 2 0 i a1 Z a5 ?_
 rintro ac rfl
 refine zDL 3 0 2 e1 a1 a3 ?_
 rintro ⟨⟨⟩, ⟨⟩, ⟨⟩, ⟨⟨p1, c1⟩, ⟨⟩, ⟨⟩, ⟨⟩⟩, ⟨⟨p2, c2⟩, ⟨p3, c3⟩, ⟨p4, c4⟩, ⟨⟩, ⟨⟩⟩⟩
 refine dT 4 [9, 11] ?_
 have a6 : i < b.length := τ3
 obtain ⟨e2, a2⟩ := gE a6
 have a9 := okE a4 a2
 refine zDI 6 1 i a1 Z a6 ?_
 rintro ae rfl
 refine zDL 7 1 6 e2 a1 a2 ?_
 rintro ⟨⟨⟩, ⟨⟩, ⟨⟩, ⟨⟨p5, c5⟩, ⟨⟩, ⟨⟩, ⟨⟩⟩, ⟨⟨p6, c6⟩, ⟨p7, c7⟩, ⟨p8, c8⟩, ⟨⟩, ⟨⟩⟩⟩
 refine DXV 8 Z J Z Z Z Z Z Z O Z (fun w γ => f202 n τ0 e1 (γ.q 2 Z) (γ.q 3 Z) (γ.q 4 Z) (γ.q 5 Z) e2 (γ.q 6 Z) (γ.q 7 Z) (γ.q 8 Z) (γ.q 9 Z) a8 a9) fun ab => ?_
 refine dT 0 [19] ?_
 refine DX.tail2 [] Z Z J ?_
 refine yKN 26 ?_ ?_ <;> intro h3 ad
 have aa := v2.trans (show _ = (some false) by rw [acx a3]; simp only [a7c, a2, h3, cT, cF])
 exact R4r Z Z (by simp only [aae, h1, aa, cT, cF])
 refine SA ?_
 exact ITr Z (i + 1) ⟨τ0, (by rw [v2, acx a3]; simp only [a7c, a2, h3, cT, cF])⟩ τ1 [0, 1]
 have a7 := v2.trans (show _ = none by rw [dn (show a.length ≤ i by omega)]; simp only [a7c, cT, cF])
 exact R4r Z Z (by simp only [aae, h1, a7, cT, cF])
theorem f203 (hn : n + 0 ≤ 9) (a : Consumer) (N0 : Rd w K0 M0 a.name.parts) (N1 : Rd w K1 M1 a.data.name.parts) (N2 : Rd w K2 M2 a.data.content) (N3 : Rd w K3 M3 a.data.keyName.parts) (b : Consumer) (N4 : Rd w K4 M4 b.name.parts) (N5 : Rd w K5 M5 b.data.name.parts) (N6 : Rd w K6 M6 b.data.content) (N7 : Rd w K7 M7 b.data.keyName.parts) (a1 : ok n a) (a0 : ok n b) :
 DP 203 #[ahx a K0 M0 K1 M1 K2 M2 K3 M3, ahx b K4 M4 K5 M5 K6 M6 K7 M7] w (pB (a4n a b)) := by
 have hb := bS0 hn
 refine EN Tryz.func203 Z (aC 0 N0 (aC 1 N1 (aC 2 N2 (aC 3 N3 (aC 4 N4 (aC 5 N5 (aC 6 N6 (aC 7 N7 adc)))))))) ?_
 refine yKM 9 ?_ ?_ <;> intro h1 a4
 exact R4r Z Z (by simp only [a4n, h1, cT, cF])
 refine yKM 14 ?_ ?_ <;> intro h2 aa
 exact R4r Z Z (by simp only [a4n, h1, h2, cT, cF])
 refine KV Z Z Z Z Z Z O Z (fun w γ => f207 n τ0 a.name (γ.q 0 Z) b.name (γ.q 4 Z) ((adp a1).2.2.1) ((adp a0).2.2.1)) fun a3 => ?_
 refine yKN 20 ?_ ?_ <;> intro h3 a6
 exact R4r Z Z (by simp only [a4n, h1, h2, h3, cT, cF])
 refine yKM 25 ?_ ?_ <;> intro h4 a7
 exact R4r Z Z (by simp only [a4n, h1, h2, h3, h4, cT, cF])
 refine yKM 30 ?_ ?_ <;> intro h5 a9
 exact R4r Z Z (by simp only [a4n, h1, h2, h3, h4, h5, cT, cF])
 refine KS Z Z Z Z (fun _ hΓ => akr ttOk Z Z Z Z Z Z) ?_
 refine yKN 35 ?_ ?_ <;> intro h6 a2
 exact R4r Z Z (by simp only [a4n, h1, h2, h3, h4, h5, h6, cT, cF])
 refine KV Z Z Z Z Z Z O Z (fun w γ => f208 n τ0 a.data (γ.q 1 Z) (γ.q 2 Z) (γ.q 3 Z) b.data (γ.q 5 Z) (γ.q 6 Z) (γ.q 7 Z) ((adp a1).2.2.2.2.2.2) ((adp a0).2.2.2.2.2.2)) fun a5 => ?_
 refine yKN 41 ?_ ?_ <;> intro h7 a8
 exact R4r Z Z (by simp only [a4n, h1, h2, h3, h4, h5, h6, h7, cT, cF])
 exact R4r Z Z (by simp only [a4n, h1, h2, h3, h4, h5, h6, h7, cT, cF])
theorem f91 (hn : n + 0 ≤ 9) {a : List Consumer} (N0 : Rd w K0 M0 a) {b : List Consumer} (N1 : Rd w K1 M1 b) (a0 : ok n a) (a4 : ok n b) :
 DP 91 #[vS K0 a M0, vS K1 b M1] w (pB (aaf a b)) := by
 have hb := bS0 hn
 refine EN Tryz.func91 Z (aS2 N0 N1) ?_
 refine yKM 10 ?_ ?_ <;> intro h1 ag
 exact R4r Z Z (by simp only [aaf, h1, cT, cF])
 have r1 := (okl a0).1
 refine LM Z 0 (fun i => ((i ≤ a.length) ∧ (a7d b a 0 = a7d b (a.drop i) i), a.length - i, [(5, .v (vI i))], [], [], [])) ⟨zl, Z⟩ [0, 1] [] [0, 1] [0, 1] ?_
 rintro i ⟨v1, v2⟩
 refine yKD 14 ?_ ?_ <;> intro h2 af
 have a5 : i < a.length := τ0
 obtain ⟨e1, a3⟩ := gE a5
 have a8 := okE a0 a3
 refine R0 ?_
 refine WX.draw [] mixed fun bs G0 a1 => ?_
 refine dT 8 [1, 3] ?_
 refine zDI 2 0 i a1 Z a5 ?_
 rintro ac rfl
 refine zDL 3 0 2 e1 a1 a3 ?_
 rintro ⟨⟨⟩, ⟨⟩, ⟨p1, c1⟩, ⟨⟩, ⟨⟩, ⟨⟩, ⟨⟨p2, c2⟩, ⟨p3, c3⟩, ⟨p4, c4⟩, ⟨⟩, ⟨⟩⟩⟩
 refine dT 4 [9, 11] ?_
 have a6 : i < b.length := τ3
 obtain ⟨e2, a2⟩ := gE a6
 have a9 := okE a4 a2
 refine zDI 6 1 i a1 Z a6 ?_
 rintro ae rfl
 refine zDL 7 1 6 e2 a1 a2 ?_
 rintro ⟨⟨⟩, ⟨⟩, ⟨p5, c5⟩, ⟨⟩, ⟨⟩, ⟨⟩, ⟨⟨p6, c6⟩, ⟨p7, c7⟩, ⟨p8, c8⟩, ⟨⟩, ⟨⟩⟩⟩
 refine DXV 8 Z J Z Z Z Z Z Z O Z (fun w γ => f203 n τ0 e1 (γ.q 2 Z) (γ.q 3 Z) (γ.q 4 Z) (γ.q 5 Z) e2 (γ.q 6 Z) (γ.q 7 Z) (γ.q 8 Z) (γ.q 9 Z) a8 a9) fun ab => ?_
 refine dT 0 [19] ?_
 refine DX.tail2 [] Z Z J ?_
 refine yKN 26 ?_ ?_ <;> intro h3 ad
 have aa := v2.trans (show _ = (some false) by rw [acx a3]; simp only [a7d, a2, h3, cT, cF])
 exact R4r Z Z (by simp only [aaf, h1, aa, cT, cF])
 refine SA ?_
 exact ITr Z (i + 1) ⟨τ0, (by rw [v2, acx a3]; simp only [a7d, a2, h3, cT, cF])⟩ τ1 [0, 1]
 have a7 := v2.trans (show _ = none by rw [dn (show a.length ≤ i by omega)]; simp only [a7d, cT, cF])
 exact R4r Z Z (by simp only [aaf, h1, a7, cT, cF])
theorem f27 (hn : n + 0 ≤ 9) (a : Network) (N0 : Rd w K0 M0 a.topology.links) (N1 : Rd w K1 M1 a.trust.keys) (N2 : Rd w K2 M2 a.trust.rules) (N3 : Rd w K3 M3 a.trust.anchors) (N4 : Rd w K4 M4 a.trust.certificates) (N5 : Rd w K5 M5 a.producers) (N6 : Rd w K6 M6 a.nodes) (N7 : Rd w K7 M7 a.failedLinks) (N8 : Rd w K8 M8 a.inFlight) (N9 : Rd w K9 M9 a.consumers) (b : Network) (N10 : Rd w K10 M10 b.topology.links) (N11 : Rd w K11 M11 b.trust.keys) (N12 : Rd w K12 M12 b.trust.rules) (N13 : Rd w K13 M13 b.trust.anchors) (N14 : Rd w K14 M14 b.trust.certificates) (N15 : Rd w K15 M15 b.producers) (N16 : Rd w K16 M16 b.nodes) (N17 : Rd w K17 M17 b.failedLinks) (N18 : Rd w K18 M18 b.inFlight) (N19 : Rd w K19 M19 b.consumers) (a1 : ok n a) (a0 : ok n b) :
 DP 27 #[afp a K0 M0 K1 M1 K2 M2 K3 M3 K4 M4 K5 M5 K6 M6 K7 M7 K8 M8 K9 M9, afp b K10 M10 K11 M11 K12 M12 K13 M13 K14 M14 K15 M15 K16 M16 K17 M17 K18 M18 K19 M19] w (pB (a2g a b)) := by
 have hb := bS0 hn
 refine EN Tryz.func27 Z (aC 0 N0 (aC 1 N1 (aC 2 N2 (aC 3 N3 (aC 4 N4 (aC 5 N5 (aC 6 N6 (aC 7 N7 (aC 8 N8 (aC 9 N9 (aC 10 N10 (aC 11 N11 (aC 12 N12 (aC 13 N13 (aC 14 N14 (aC 15 N15 (aC 16 N16 (aC 17 N17 (aC 18 N18 (aC 19 N19 adc)))))))))))))))))))) ?_
 refine KV Z Z Z Z Z Z O Z (fun w γ => f28 n τ0 a.topology (γ.q 0 Z) b.topology (γ.q 10 Z) ((acy a1).1) ((acy a0).1)) fun a6 => ?_
 refine yKN 10 ?_ ?_ <;> intro h1 aj
 exact R4r Z Z (by simp only [a2g, h1, cT, cF])
 refine KV Z Z Z Z Z Z O Z (fun w γ => f29 n τ0 a.trust (γ.q 1 Z) (γ.q 2 Z) (γ.q 3 Z) (γ.q 4 Z) b.trust (γ.q 11 Z) (γ.q 12 Z) (γ.q 13 Z) (γ.q 14 Z) ((acy a1).2.1) ((acy a0).2.1)) fun a8 => ?_
 refine yKN 16 ?_ ?_ <;> intro h2 ag
 exact R4r Z Z (by simp only [a2g, h1, h2, cT, cF])
 refine KV Z Z Z Z Z Z O Z (fun w γ => f30 n τ0 (γ.q 5 Z) (γ.q 15 Z) ((acy a1).2.2.1) ((acy a0).2.2.1)) fun ai => ?_
 refine yKN 22 ?_ ?_ <;> intro h3 a9
 exact R4r Z Z (by simp only [a2g, h1, h2, h3, cT, cF])
 refine KV Z Z Z Z Z Z O Z (fun w γ => f88 n τ0 (γ.q 6 Z) (γ.q 16 Z) ((acy a1).2.2.2.1) ((acy a0).2.2.2.1)) fun af => ?_
 refine yKN 28 ?_ ?_ <;> intro h4 aa
 exact R4r Z Z (by simp only [a2g, h1, h2, h3, h4, cT, cF])
 refine yKM 33 ?_ ?_ <;> intro h5 ad
 exact R4r Z Z (by simp only [a2g, h1, h2, h3, h4, h5, cT, cF])
 refine KV Z Z Z Z Z Z O Z (fun w γ => f89 n τ0 (γ.q 7 Z) (γ.q 17 Z) ((acy a1).2.2.2.2.2.1) ((acy a0).2.2.2.2.2.1)) fun a5 => ?_
 refine yKN 39 ?_ ?_ <;> intro h6 a4
 exact R4r Z Z (by simp only [a2g, h1, h2, h3, h4, h5, h6, cT, cF])
 refine KV Z Z Z Z Z Z O Z (fun w γ => f90 n τ0 (γ.q 8 Z) (γ.q 18 Z) ((acy a1).2.2.2.2.2.2.1) ((acy a0).2.2.2.2.2.2.1)) fun ah => ?_
 refine yKN 45 ?_ ?_ <;> intro h7 ac
 exact R4r Z Z (by simp only [a2g, h1, h2, h3, h4, h5, h6, h7, cT, cF])
 refine KV Z Z Z Z Z Z O Z (fun w γ => f91 n τ0 (γ.q 9 Z) (γ.q 19 Z) ((acy a1).2.2.2.2.2.2.2.1) ((acy a0).2.2.2.2.2.2.2.1)) fun ae => ?_
 refine yKN 51 ?_ ?_ <;> intro h8 ab
 exact R4r Z Z (by simp only [a2g, h1, h2, h3, h4, h5, h6, h7, h8, cT, cF])
 refine yKM 56 ?_ ?_ <;> intro h9 a7
 exact R4r Z Z (by simp only [a2g, h1, h2, h3, h4, h5, h6, h7, h8, h9, cT, cF])
 refine yKM 61 ?_ ?_ <;> intro a2 a3
 exact R4r Z Z (by simp only [a2g, h1, h2, h3, h4, h5, h6, h7, h8, h9, a2, cT, cF])
 exact R4r Z Z (by simp only [a2g, h1, h2, h3, h4, h5, h6, h7, h8, h9, a2, cT, cF])
end Go.Proofs.YtpmejlbgjkiobaaGreat
namespace Go.Stp
def a52 (a : Link) : Link := a
def a8d : List Link → Nat → (List Link) → (List Link) | [], i, out => ((out) : List Link) | e1 :: rest_, i, out => match (out)[i]? with | none => default | some e2 => a8d rest_ (i + 1) (((out.set i (a52 e1))) : List Link)
def aag (a : (List Link)) : (List Link) := match a8d a 0 ((List.replicate ((a).length) (Link.mk 0 0)) : List Link) with | out => out
def a06 (a : Topology) : Topology := (Topology.mk a.size (aag a.links))
def a8e : List Str → Nat → (List Str) → (List Str) | [], i, out => ((out) : List Str) | e1 :: rest_, i, out => match (out)[i]? with | none => default | some e2 => a8e rest_ (i + 1) (((out.set i e1)) : List Str)
def a7e (a : (List Str)) : (List Str) := match a8e a 0 ((List.replicate ((a).length) (⟨#[]⟩ : Str)) : List Str) with | out => out
def a0y (a : Name) : Name := (Name.mk (a7e a.parts))
def a7f (a : Key) : Key := (Key.mk (a0y a.name) a.secret)
def a8f : List Key → Nat → (List Key) → (List Key) | [], i, out => ((out) : List Key) | e1 :: rest_, i, out => match (out)[i]? with | none => default | some e2 => a8f rest_ (i + 1) (((out.set i (a7f e1))) : List Key)
def aah (a : (List Key)) : (List Key) := match a8f a 0 ((List.replicate ((a).length) (Key.mk (Name.mk ([])) 0)) : List Key) with | out => out
def a7g (a : Pattern) : Pattern := (Pattern.mk (a7e a.parts))
def a7h (a : Rule) : Rule := (Rule.mk (a7g a.dataPattern) (a7g a.keyPattern))
def a8g : List Rule → Nat → (List Rule) → (List Rule) | [], i, out => ((out) : List Rule) | e1 :: rest_, i, out => match (out)[i]? with | none => default | some e2 => a8g rest_ (i + 1) (((out.set i (a7h e1))) : List Rule)
def aai (a : (List Rule)) : (List Rule) := match a8g a 0 ((List.replicate ((a).length) (Rule.mk (Pattern.mk ([])) (Pattern.mk ([])))) : List Rule) with | out => out
def a8h : List Name → Nat → (List Name) → (List Name) | [], i, out => ((out) : List Name) | e1 :: rest_, i, out => match (out)[i]? with | none => default | some e2 => a8h rest_ (i + 1) (((out.set i (a0y e1))) : List Name)
def aaj (a : (List Name)) : (List Name) := match a8h a 0 ((List.replicate ((a).length) (Name.mk ([]))) : List Name) with | out => out
def a8i : List UInt8 → Nat → (List UInt8) → (List UInt8) | [], i, out => ((out) : List UInt8) | e1 :: rest_, i, out => match (out)[i]? with | none => default | some e2 => a8i rest_ (i + 1) (((out.set i e1)) : List UInt8)
def aak (a : (List UInt8)) : (List UInt8) := match a8i a 0 ((List.replicate ((a).length) (0 : UInt8)) : List UInt8) with | out => out
def a35 (a : DataP) : DataP := (DataP.mk (a0y a.name) (aak a.content) (a0y a.keyName) a.freshUntil a.signature)
def a8j : List DataP → Nat → (List DataP) → (List DataP) | [], i, out => ((out) : List DataP) | e1 :: rest_, i, out => match (out)[i]? with | none => default | some e2 => a8j rest_ (i + 1) (((out.set i (a35 e1))) : List DataP)
def a7i (a : (List DataP)) : (List DataP) := match a8j a 0 ((List.replicate ((a).length) (DataP.mk (Name.mk ([])) ([]) (Name.mk ([])) 0 0)) : List DataP) with | out => out
def a05 (a : TrustPolicy) : TrustPolicy := (TrustPolicy.mk (aah a.keys) (aai a.rules) (aaj a.anchors) (a7i a.certificates))
def a7j (a : TableEntry) : TableEntry := (TableEntry.mk (a0y a.name) a.value)
def a8k : List TableEntry → Nat → (List TableEntry) → (List TableEntry) | [], i, out => ((out) : List TableEntry) | e1 :: rest_, i, out => match (out)[i]? with | none => default | some e2 => a8k rest_ (i + 1) (((out.set i (a7j e1))) : List TableEntry)
def a07 (a : (List TableEntry)) : (List TableEntry) := match a8k a 0 ((List.replicate ((a).length) (TableEntry.mk (Name.mk ([])) 0)) : List TableEntry) with | out => out
def aal (a : CacheEntry) : CacheEntry := (CacheEntry.mk (a35 a.data) a.lastUsed)
def abh : List CacheEntry → Nat → (List CacheEntry) → (List CacheEntry) | [], i, out => ((out) : List CacheEntry) | e1 :: rest_, i, out => match (out)[i]? with | none => default | some e2 => abh rest_ (i + 1) (((out.set i (aal e1))) : List CacheEntry)
def ac9 (a : (List CacheEntry)) : (List CacheEntry) := match abh a 0 ((List.replicate ((a).length) (CacheEntry.mk (DataP.mk (Name.mk ([])) ([]) (Name.mk ([])) 0 0) 0)) : List CacheEntry) with | out => out
def aca (a : ContentStore) : ContentStore := (ContentStore.mk a.capacity (ac9 a.entries))
def a6a (a : Requester) : Requester := a
def abi : List Requester → Nat → (List Requester) → (List Requester) | [], i, out => ((out) : List Requester) | e1 :: rest_, i, out => match (out)[i]? with | none => default | some e2 => abi rest_ (i + 1) (((out.set i (a6a e1))) : List Requester)
def acb (a : (List Requester)) : (List Requester) := match abi a 0 ((List.replicate ((a).length) (Requester.mk 0 0 0)) : List Requester) with | out => out
def aam (a : PendingInterest) : PendingInterest := (PendingInterest.mk (a0y a.name) (acb a.requesters) a.lastSent)
def abj : List PendingInterest → Nat → (List PendingInterest) → (List PendingInterest) | [], i, out => ((out) : List PendingInterest) | e1 :: rest_, i, out => match (out)[i]? with | none => default | some e2 => abj rest_ (i + 1) (((out.set i (aam e1))) : List PendingInterest)
def acd (a : (List PendingInterest)) : (List PendingInterest) := match abj a 0 ((List.replicate ((a).length) (PendingInterest.mk (Name.mk ([])) ([]) 0)) : List PendingInterest) with | out => out
def aan (a : SeenNonce) : SeenNonce := (SeenNonce.mk (a0y a.name) a.nonce)
def abk : List SeenNonce → Nat → (List SeenNonce) → (List SeenNonce) | [], i, out => ((out) : List SeenNonce) | e1 :: rest_, i, out => match (out)[i]? with | none => default | some e2 => abk rest_ (i + 1) (((out.set i (aan e1))) : List SeenNonce)
def ace (a : (List SeenNonce)) : (List SeenNonce) := match abk a 0 ((List.replicate ((a).length) (SeenNonce.mk (Name.mk ([])) 0)) : List SeenNonce) with | out => out
def aao (a : Route) : Route := (Route.mk (a0y a.pfx) a.face a.cost)
def abl : List Route → Nat → (List Route) → (List Route) | [], i, out => ((out) : List Route) | e1 :: rest_, i, out => match (out)[i]? with | none => default | some e2 => abl rest_ (i + 1) (((out.set i (aao e1))) : List Route)
def acf (a : (List Route)) : (List Route) := match abl a 0 ((List.replicate ((a).length) (Route.mk (Name.mk ([])) 0 0)) : List Route) with | out => out
def aap (a : Measurement) : Measurement := (Measurement.mk (a0y a.pfx) a.face a.failures)
def abm : List Measurement → Nat → (List Measurement) → (List Measurement) | [], i, out => ((out) : List Measurement) | e1 :: rest_, i, out => match (out)[i]? with | none => default | some e2 => abm rest_ (i + 1) (((out.set i (aap e1))) : List Measurement)
def acg (a : (List Measurement)) : (List Measurement) := match abm a 0 ((List.replicate ((a).length) (Measurement.mk (Name.mk ([])) 0 0)) : List Measurement) with | out => out
def aaq (a : NodeP) : NodeP := (NodeP.mk (a7i a.locl) (aca a.cache) (acd a.pending) (ace a.seen) (acf a.routes) (acg a.measurements) a.dropped)
def abn : List NodeP → Nat → (List NodeP) → (List NodeP) | [], i, out => ((out) : List NodeP) | e1 :: rest_, i, out => match (out)[i]? with | none => default | some e2 => abn rest_ (i + 1) (((out.set i (aaq e1))) : List NodeP)
def ach (a : (List NodeP)) : (List NodeP) := match abn a 0 ((List.replicate ((a).length) (NodeP.mk ([]) (ContentStore.mk 0 ([])) ([]) ([]) ([]) ([]) 0)) : List NodeP) with | out => out
def abo : List Int → Nat → (List Int) → (List Int) | [], i, out => ((out) : List Int) | e1 :: rest_, i, out => match (out)[i]? with | none => default | some e2 => abo rest_ (i + 1) (((out.set i e1)) : List Int)
def aci (a : (List Int)) : (List Int) := match abo a 0 ((List.replicate ((a).length) 0) : List Int) with | out => out
def acj (a : Interest) : Interest := (Interest.mk (a0y a.name) a.nonce a.hopLimit a.lifetime)
def aar (a : PacketInFlight) : PacketInFlight := (PacketInFlight.mk a.to a.face a.isInterest (acj a.interest) (a35 a.data))
def abp : List PacketInFlight → Nat → (List PacketInFlight) → (List PacketInFlight) | [], i, out => ((out) : List PacketInFlight) | e1 :: rest_, i, out => match (out)[i]? with | none => default | some e2 => abp rest_ (i + 1) (((out.set i (aar e1))) : List PacketInFlight)
def ack (a : (List PacketInFlight)) : (List PacketInFlight) := match abp a 0 ((List.replicate ((a).length) (PacketInFlight.mk 0 0 false (Interest.mk (Name.mk ([])) 0 0 0) (DataP.mk (Name.mk ([])) ([]) (Name.mk ([])) 0 0))) : List PacketInFlight) with | out => out
def aas (a : Consumer) : Consumer := (Consumer.mk a.node a.index (a0y a.name) a.attempts a.wait a.satisfied (a35 a.data))
def abq : List Consumer → Nat → (List Consumer) → (List Consumer) | [], i, out => ((out) : List Consumer) | e1 :: rest_, i, out => match (out)[i]? with | none => default | some e2 => abq rest_ (i + 1) (((out.set i (aas e1))) : List Consumer)
def acl (a : (List Consumer)) : (List Consumer) := match abq a 0 ((List.replicate ((a).length) (Consumer.mk 0 0 (Name.mk ([])) 0 0 false (DataP.mk (Name.mk ([])) ([]) (Name.mk ([])) 0 0))) : List Consumer) with | out => out
def a04 (a : Network) : Network := (Network.mk (a06 a.topology) (a05 a.trust) (a07 a.producers) (ach a.nodes) a.downNodes (aci a.failedLinks) (ack a.inFlight) (acl a.consumers) a.now a.dropped)
end Go.Stp
namespace Go.Proofs.YtpmejlbgjkiobaaGreat
open Go.Stp
open Go.Stp.GoT (ok)
variable {w : World} (n : Nat) {K0 K1 K2 K3 K4 K5 K6 K7 K8 K9 : Option Addr} {M0 M1 M2 M3 M4 M5 M6 M7 M8 M9 : Nat}
theorem f179 (hn : n + 0 ≤ 9) (a : Link) (a0 : ok n a) :
 DP 179 #[.agg #[vI a.a, vI a.b]] w (fun (rv : Value) (_ : World) => rv = .agg #[.int .i64 ((a52 a).a), .int .i64 ((a52 a).b)] ∧ ok n ((a52 a) : Link)) := by
 refine EN Tryz.func179 Z adc ?_
 rw [show a52 a = a by simp only [a52, cT, cF]]
 exact R6r Z Z a0
theorem f76 (hn : n + 0 ≤ 9) {a : List Link} (N0 : Rd w K0 M0 a) (a2 : ok n a) :
 DP 76 #[vS K0 a M0] w (pS w n (aag a)) := by
 have hb := bS0 hn
 refine EN Tryz.func76 Z (aS1 N0) ?_
 have r1 := (okl a2).1
 refine R0 ?_
 refine WX.mkS (a.length) ttOk Z Z Z Z Z Z Z τ0 τ0 Z fun p1 => ?_
 refine FZ 1 (afq (α := Link) (z0 := (Link.mk 0 0)) (x0 := ((), ())) Z trivial (a.length)) ?_
 refine LM Z ((zrep (a.length) [.int .i64 (0), .int .i64 (0)]), ((List.replicate (a.length) (Link.mk 0 0)) : List Link), 0) (fun | (a1, a0, i) => ((i ≤ a.length) ∧ (a0.length = a.length) ∧ JE n a0 ∧ (a8d a 0 ((List.replicate (a.length) (Link.mk 0 0)) : List Link) = a8d (a.drop i) i a0), a.length - i, [(4, .v (vI i))], [], [(7, ⟨2, p1, a.length, (a.length), a1⟩)], [(1, MF.ol a1 (a0 : List Link))])) ⟨zl, τ5, (afv (An (i6 0) (i6 0))), Z⟩ [3, 0] [] [0] [0, 1] ?_
 rintro ⟨a1, a0, i⟩ ⟨v1, v2, v3, v4⟩
 refine yKD 11 ?_ ?_ <;> intro h1 ag
 have a6 : i < a.length := τ0
 obtain ⟨e1, a4⟩ := gE a6
 have ab := okE a2 a4
 refine yI 0 i a6 ?_
 rintro ac rfl
 refine zL 0 2 e1 a4 ?_
 rintro ⟨⟨⟩, ⟨⟩⟩
 refine CV Z Z Z Z Z O Z (fun w γ => f179 n τ0 e1 ab) fun a9 => ?_
 have a5 : i < a.length := τ3
 refine zR 7 i a5 ?_
 rintro ad rfl
 have a7 : i < a0.length := τ3
 obtain ⟨e2, a3⟩ := gE a7
 have ae : ok n e2 := v3 _ (List.mem_of_getElem? a3)
 refine zO (α := Link) (e := e2) 7 1 2 i a3 ?_
 rintro A1 B1 ⟨⟨⟩, ⟨⟩⟩ aa af
 refine zS 7 aa a5 ?_
 refine SA ?_
 refine R0 ?_
 refine WX.turn [2, 3] 4 Z (fun h hs => aej (α := Link) (e := (a52 e1)) (x := ((), ())) a7 hs) Z ?_
 refine zU [4] 1 ?_
 exact IT (_, ((a0.set i (a52 e1)) : List Link), i + 1) ⟨τ0, τ2, (aef v3 (show ok n ((a52 e1) : Link) from a9)), (by rw [v4, acx a4]; simp only [a8d, a3, cT, cF])⟩ τ1 [0, 1]
 have a8 := v4.trans (show _ = (a0 : List Link) by rw [dn (show a.length ≤ i by omega)]; simp only [a8d, cT, cF])
 refine yE 7 1 5 (hn := (show a.length = a0.length from by omega)) ?_
 refine SL 2 a0.length ?_
 refine SL 22 a0.length ?_
 refine SL 3 a0.length ?_
 rw [show aag a = a0 by simp only [aag, a8, cT, cF]]
 exact zX [6] (p1, (a.length)) (ada τ0 v3 : ok n (a0 : List Link))
theorem f23 (hn : n + 0 ≤ 9) (a : Topology) (N0 : Rd w K0 M0 a.links) (a0 : ok n a) :
 DP 23 #[aeq a K0 M0] w (pA w n (a06 a)) := by
 have hb := bS0 hn
 refine EN Tryz.func23 Z (aS1 N0) ?_
 refine KF Z 1 Z Z Z Z Z O Z (fun w γ => f76 n τ0 (γ.q 0 Z) ((ad0 a0).2)) ?_
 rintro ⟨p1, c1⟩ a1
 rw [show a06 a = (Topology.mk a.size (aag a.links)) by simp only [a06, cT, cF]]
 exact yX [2] ((), (p1, c1)) (An (ad0 a0).1 a1)
theorem f284 (hn : n + 0 ≤ 9) {a : List Str} (N0 : Rd w K0 M0 a) (a2 : ok n a) :
 DP 284 #[vS K0 a M0] w (pS w n (a7e a)) := by
 have hb := bS0 hn
 refine EN Tryz.func284 Z (aS1 N0) ?_
 have r1 := (okl a2).1
 refine R0 ?_
 refine WX.mkS (a.length) ttOk Z Z Z Z Z Z Z τ0 τ0 Z fun p1 => ?_
 refine FZ 1 (afq (α := Str) (z0 := (⟨#[]⟩ : Str)) (x0 := ()) Z trivial (a.length)) ?_
 refine LM Z ((zrep (a.length) [.string (⟨#[]⟩ : Str)]), ((List.replicate (a.length) (⟨#[]⟩ : Str)) : List Str), 0) (fun | (a1, a0, i) => ((i ≤ a.length) ∧ (a0.length = a.length) ∧ JE n a0 ∧ (a8e a 0 ((List.replicate (a.length) (⟨#[]⟩ : Str)) : List Str) = a8e (a.drop i) i a0), a.length - i, [(4, .v (vI i))], [], [(7, ⟨1, p1, a.length, (a.length), a1⟩)], [(1, MF.ol a1 (a0 : List Str))])) ⟨zl, τ5, (afv (Nat.le_trans τ8 (ao5 n))), Z⟩ [3, 0] [] [0] [0, 1] ?_
 rintro ⟨a1, a0, i⟩ ⟨v1, v2, v3, v4⟩
 refine yKD 11 ?_ ?_ <;> intro h1 af
 have a6 : i < a.length := τ0
 obtain ⟨e1, a4⟩ := gE a6
 have aa := okE a2 a4
 refine yI 0 i a6 ?_
 rintro ab rfl
 refine zL 0 2 e1 a4 ?_
 rintro ⟨⟩
 have a5 : i < a.length := τ3
 refine zR 7 i a5 ?_
 rintro ac rfl
 have a7 : i < a0.length := τ3
 obtain ⟨e2, a3⟩ := gE a7
 have ad : ok n e2 := v3 _ (List.mem_of_getElem? a3)
 refine zO (α := Str) (e := e2) 7 1 2 i a3 ?_
 rintro A1 B1 ⟨⟩ a9 ae
 refine zS 7 a9 a5 ?_
 refine SA ?_
 refine R0 ?_
 refine WX.turn [2, 3] 4 Z (fun h hs => aej (α := Str) (e := e1) (x := ()) a7 hs) Z ?_
 refine zU [4] 1 ?_
 exact IT (_, ((a0.set i e1) : List Str), i + 1) ⟨τ0, τ2, (aef v3 (show ok n (e1 : Str) from aa)), (by rw [v4, acx a4]; simp only [a8e, a3, cT, cF])⟩ τ1 [0, 1]
 have a8 := v4.trans (show _ = (a0 : List Str) by rw [dn (show a.length ≤ i by omega)]; simp only [a8e, cT, cF])
 refine yE 7 1 5 (hn := (show a.length = a0.length from by omega)) ?_
 refine SL 2 a0.length ?_
 refine SL 21 a0.length ?_
 refine SL 3 a0.length ?_
 rw [show a7e a = a0 by simp only [a7e, a8, cT, cF]]
 exact zX [6] (p1, (a.length)) (ada τ0 v3 : ok n (a0 : List Str))
theorem f182 (hn : n + 0 ≤ 9) (a : Name) (N0 : Rd w K0 M0 a.parts) (a0 : ok n a) :
 DP 182 #[.agg #[vS K0 a.parts M0]] w (pA w n (a0y a)) := by
 have hb := bS0 hn
 refine EN Tryz.func182 Z (aS1 N0) ?_
 refine KF Z 1 Z Z Z Z Z O Z (fun w γ => f284 n τ0 (γ.q 0 Z) (ae4 a0)) ?_
 rintro ⟨p1, c1⟩ a1
 rw [show a0y a = (Name.mk (a7e a.parts)) by simp only [a0y, cT, cF]]
 exact yX [2] (p1, c1) a1
theorem f180 (hn : n + 0 ≤ 9) (a : Key) (N0 : Rd w K0 M0 a.name.parts) (a0 : ok n a) :
 DP 180 #[.agg #[vS K0 a.name.parts M0, vI a.secret]] w (pA w n (a7f a)) := by
 have hb := bS0 hn
 refine EN Tryz.func180 Z (aS1 N0) ?_
 refine KF Z 1 Z Z Z Z Z O Z (fun w γ => f182 n τ0 a.name (γ.q 0 Z) ((ag3 a0).1)) ?_
 rintro ⟨p1, c1⟩ a1
 rw [show a7f a = (Key.mk (a0y a.name) a.secret) by simp only [a7f, cT, cF]]
 exact yX [2] ((p1, c1), ()) (An a1 (ag3 a0).2)
theorem f77 (hn : n + 0 ≤ 9) {a : List Key} (N0 : Rd w K0 M0 a) (a2 : ok n a) :
 DP 77 #[vS K0 a M0] w (pS w n (aah a)) := by
 have hb := bS0 hn
 refine EN Tryz.func77 Z (aS1 N0) ?_
 have r1 := (okl a2).1
 refine R0 ?_
 refine WX.mkS (a.length) ttOk Z Z Z Z Z Z Z τ0 τ0 Z fun p1 => ?_
 refine WX.free 1 (MF.ol (zrep (a.length) [.slice none (0) 0, .int .i64 (0)]) ((List.replicate (a.length) (Key.mk (Name.mk ([])) 0)) : List Key)) (afq (α := Key) (z0 := (Key.mk (Name.mk ([])) 0)) (x0 := ((none, 0), ())) Z (adq (aeo _ _) trivial) _) ?_
 refine LM Z ((zrep (a.length) [.slice none (0) 0, .int .i64 (0)]), ((List.replicate (a.length) (Key.mk (Name.mk ([])) 0)) : List Key), 0) (fun | (a1, a0, i) => ((i ≤ a.length) ∧ (a0.length = a.length) ∧ JE n a0 ∧ (a8f a 0 ((List.replicate (a.length) (Key.mk (Name.mk ([])) 0)) : List Key) = a8f (a.drop i) i a0), a.length - i, [(4, .v (vI i))], [], [(7, ⟨2, p1, a.length, (a.length), a1⟩)], [(1, MF.ol a1 (a0 : List Key))])) ⟨zl, τ5, (afv (An (adf (α := Str)) (i6 0))), Z⟩ [3, 0] [] [0] [0, 1] ?_
 rintro ⟨a1, a0, i⟩ ⟨v1, v2, v3, v4⟩
 refine yKD 11 ?_ ?_ <;> intro h1 ag
 have a6 : i < a.length := τ0
 obtain ⟨e1, a4⟩ := gE a6
 have ab := okE a2 a4
 refine yI 0 i a6 ?_
 rintro ac rfl
 refine zL 0 2 e1 a4 ?_
 rintro ⟨⟨p2, c1⟩, ⟨⟩⟩
 refine CF 3 Z Z Z Z Z O Z (fun w γ => f180 n τ0 e1 (γ.q 2 Z) ab) ?_
 rintro ⟨⟨p3, c2⟩, ⟨⟩⟩ a9
 have a5 : i < a.length := τ3
 refine zR 7 i a5 ?_
 rintro ad rfl
 have a7 : i < a0.length := τ3
 obtain ⟨e2, a3⟩ := gE a7
 have ae : ok n e2 := v3 _ (List.mem_of_getElem? a3)
 refine zO (α := Key) (e := e2) 7 1 5 i a3 ?_
 rintro A1 B1 ⟨⟨p4, c3⟩, ⟨⟩⟩ aa af
 refine zS 7 aa a5 ?_
 refine SA ?_
 refine R0 ?_
 refine WX.turn [4, 7, 8] 9 Z (fun h hs => aej (α := Key) (e := (a7f e1)) (x := ((p3, c2), ())) a7 hs) Z ?_
 refine zU [9] 1 ?_
 exact IT (_, ((a0.set i (a7f e1)) : List Key), i + 1) ⟨τ0, τ2, (aef v3 (show ok n ((a7f e1) : Key) from a9)), (by rw [v4, acx a4]; simp only [a8f, a3, cT, cF])⟩ τ1 [0, 1]
 have a8 := v4.trans (show _ = (a0 : List Key) by rw [dn (show a.length ≤ i by omega)]; simp only [a8f, cT, cF])
 refine yE 7 1 10 (hn := (show a.length = a0.length from by omega)) ?_
 refine SL 2 a0.length ?_
 refine SL 22 a0.length ?_
 refine SL 3 a0.length ?_
 rw [show aah a = a0 by simp only [aah, a8, cT, cF]]
 exact zX [11] (p1, (a.length)) (ada τ0 v3 : ok n (a0 : List Key))
theorem f283 (hn : n + 0 ≤ 9) (a : Pattern) (N0 : Rd w K0 M0 a.parts) (a0 : ok n a) :
 DP 283 #[.agg #[vS K0 a.parts M0]] w (pA w n (a7g a)) := by
 have hb := bS0 hn
 refine EN Tryz.func283 Z (aS1 N0) ?_
 refine KF Z 1 Z Z Z Z Z O Z (fun w γ => f284 n τ0 (γ.q 0 Z) (ad9 a0)) ?_
 rintro ⟨p1, c1⟩ a1
 rw [show a7g a = (Pattern.mk (a7e a.parts)) by simp only [a7g, cT, cF]]
 exact yX [2] (p1, c1) a1
theorem f181 (hn : n + 0 ≤ 9) (a : Rule) (N0 : Rd w K0 M0 a.dataPattern.parts) (N1 : Rd w K1 M1 a.keyPattern.parts) (a0 : ok n a) :
 DP 181 #[arv a K0 M0 K1 M1] w (pA w n (a7h a)) := by
 have hb := bS0 hn
 refine EN Tryz.func181 Z (aS2 N0 N1) ?_
 refine KF Z 2 Z Z Z Z Z O Z (fun w γ => f283 n τ0 a.dataPattern (γ.q 0 Z) ((adx a0).1)) ?_
 rintro ⟨p1, c1⟩ a1
 refine KF Z 4 Z Z Z Z Z O Z (fun w γ => f283 n τ0 a.keyPattern (γ.q 1 Z) ((adx a0).2)) ?_
 rintro ⟨p2, c2⟩ a2
 rw [show a7h a = (Rule.mk (a7g a.dataPattern) (a7g a.keyPattern)) by simp only [a7h, cT, cF]]
 exact yX [3, 5] ((p1, c1), (p2, c2)) (An a1 a2)
theorem f78 (hn : n + 0 ≤ 9) {a : List Rule} (N0 : Rd w K0 M0 a) (a2 : ok n a) :
 DP 78 #[vS K0 a M0] w (pS w n (aai a)) := by
 have hb := bS0 hn
 refine EN Tryz.func78 Z (aS1 N0) ?_
 have r1 := (okl a2).1
 refine R0 ?_
 refine WX.mkS (a.length) ttOk Z Z Z Z Z Z Z τ0 τ0 Z fun p1 => ?_
 refine WX.free 1 (MF.ol (zrep (a.length) [.slice none (0) 0, .slice none (0) 0]) ((List.replicate (a.length) (Rule.mk (Pattern.mk ([])) (Pattern.mk ([])))) : List Rule)) (afq (α := Rule) (z0 := (Rule.mk (Pattern.mk ([])) (Pattern.mk ([])))) (x0 := ((none, 0), (none, 0))) Z (adq (aeo _ _) (adq (aeo _ _) trivial)) _) ?_
 refine LM Z ((zrep (a.length) [.slice none (0) 0, .slice none (0) 0]), ((List.replicate (a.length) (Rule.mk (Pattern.mk ([])) (Pattern.mk ([])))) : List Rule), 0) (fun | (a1, a0, i) => ((i ≤ a.length) ∧ (a0.length = a.length) ∧ JE n a0 ∧ (a8g a 0 ((List.replicate (a.length) (Rule.mk (Pattern.mk ([])) (Pattern.mk ([])))) : List Rule) = a8g (a.drop i) i a0), a.length - i, [(4, .v (vI i))], [], [(7, ⟨2, p1, a.length, (a.length), a1⟩)], [(1, MF.ol a1 (a0 : List Rule))])) ⟨zl, τ5, (afv (An (adf (α := Str)) (adf (α := Str)))), Z⟩ [3, 0] [] [0] [0, 1] ?_
 rintro ⟨a1, a0, i⟩ ⟨v1, v2, v3, v4⟩
 refine yKD 11 ?_ ?_ <;> intro h1 ag
 have a6 : i < a.length := τ0
 obtain ⟨e1, a4⟩ := gE a6
 have ab := okE a2 a4
 refine yI 0 i a6 ?_
 rintro ac rfl
 refine zL 0 2 e1 a4 ?_
 rintro ⟨⟨p2, c1⟩, ⟨p3, c2⟩⟩
 refine CF 4 Z Z Z Z Z O Z (fun w γ => f181 n τ0 e1 (γ.q 2 Z) (γ.q 3 Z) ab) ?_
 rintro ⟨⟨p4, c3⟩, ⟨p5, c4⟩⟩ a9
 have a5 : i < a.length := τ3
 refine zR 7 i a5 ?_
 rintro ad rfl
 have a7 : i < a0.length := τ3
 obtain ⟨e2, a3⟩ := gE a7
 have ae : ok n e2 := v3 _ (List.mem_of_getElem? a3)
 refine zO (α := Rule) (e := e2) 7 1 8 i a3 ?_
 rintro A1 B1 ⟨⟨p6, c5⟩, ⟨p7, c6⟩⟩ aa af
 refine zS 7 aa a5 ?_
 refine SA ?_
 refine R0 ?_
 refine WX.turn [6, 7, 12, 13] 14 Z (fun h hs => aej (α := Rule) (e := (a7h e1)) (x := ((p4, c3), (p5, c4))) a7 hs) Z ?_
 refine zU [14] 1 ?_
 exact IT (_, ((a0.set i (a7h e1)) : List Rule), i + 1) ⟨τ0, τ2, (aef v3 (show ok n ((a7h e1) : Rule) from a9)), (by rw [v4, acx a4]; simp only [a8g, a3, cT, cF])⟩ τ1 [0, 1]
 have a8 := v4.trans (show _ = (a0 : List Rule) by rw [dn (show a.length ≤ i by omega)]; simp only [a8g, cT, cF])
 refine yE 7 1 15 (hn := (show a.length = a0.length from by omega)) ?_
 refine SL 2 a0.length ?_
 refine SL 22 a0.length ?_
 refine SL 3 a0.length ?_
 rw [show aai a = a0 by simp only [aai, a8, cT, cF]]
 exact zX [16] (p1, (a.length)) (ada τ0 v3 : ok n (a0 : List Rule))
theorem f79 (hn : n + 0 ≤ 9) {a : List Name} (N0 : Rd w K0 M0 a) (a2 : ok n a) :
 DP 79 #[vS K0 a M0] w (pS w n (aaj a)) := by
 have hb := bS0 hn
 refine EN Tryz.func79 Z (aS1 N0) ?_
 have r1 := (okl a2).1
 refine R0 ?_
 refine WX.mkS (a.length) ttOk Z Z Z Z Z Z Z τ0 τ0 Z fun p1 => ?_
 refine WX.free 1 (MF.ol (zrep (a.length) [.slice none (0) 0]) ((List.replicate (a.length) (Name.mk ([]))) : List Name)) (afq (α := Name) (z0 := (Name.mk ([]))) (x0 := (none, 0)) Z (adq (aeo _ _) trivial) _) ?_
 refine LM Z ((zrep (a.length) [.slice none (0) 0]), ((List.replicate (a.length) (Name.mk ([]))) : List Name), 0) (fun | (a1, a0, i) => ((i ≤ a.length) ∧ (a0.length = a.length) ∧ JE n a0 ∧ (a8h a 0 ((List.replicate (a.length) (Name.mk ([]))) : List Name) = a8h (a.drop i) i a0), a.length - i, [(4, .v (vI i))], [], [(7, ⟨1, p1, a.length, (a.length), a1⟩)], [(1, MF.ol a1 (a0 : List Name))])) ⟨zl, τ5, (afv (adf (α := Str))), Z⟩ [3, 0] [] [0] [0, 1] ?_
 rintro ⟨a1, a0, i⟩ ⟨v1, v2, v3, v4⟩
 refine yKD 11 ?_ ?_ <;> intro h1 ag
 have a6 : i < a.length := τ0
 obtain ⟨e1, a4⟩ := gE a6
 have ab := okE a2 a4
 refine yI 0 i a6 ?_
 rintro ac rfl
 refine zL 0 2 e1 a4 ?_
 rintro ⟨p2, c1⟩
 refine CF 3 Z Z Z Z Z O Z (fun w γ => f182 n τ0 e1 (γ.q 2 Z) ab) ?_
 rintro ⟨p3, c2⟩ a9
 have a5 : i < a.length := τ3
 refine zR 7 i a5 ?_
 rintro ad rfl
 have a7 : i < a0.length := τ3
 obtain ⟨e2, a3⟩ := gE a7
 have ae : ok n e2 := v3 _ (List.mem_of_getElem? a3)
 refine zO (α := Name) (e := e2) 7 1 5 i a3 ?_
 rintro A1 B1 ⟨p4, c3⟩ aa af
 refine zS 7 aa a5 ?_
 refine SA ?_
 refine R0 ?_
 refine WX.turn [4, 7, 8] 9 Z (fun h hs => aej (α := Name) (e := (a0y e1)) (x := (p3, c2)) a7 hs) Z ?_
 refine zU [9] 1 ?_
 exact IT (_, ((a0.set i (a0y e1)) : List Name), i + 1) ⟨τ0, τ2, (aef v3 (show ok n ((a0y e1) : Name) from a9)), (by rw [v4, acx a4]; simp only [a8h, a3, cT, cF])⟩ τ1 [0, 1]
 have a8 := v4.trans (show _ = (a0 : List Name) by rw [dn (show a.length ≤ i by omega)]; simp only [a8h, cT, cF])
 refine yE 7 1 10 (hn := (show a.length = a0.length from by omega)) ?_
 refine SL 2 a0.length ?_
 refine SL 22 a0.length ?_
 refine SL 3 a0.length ?_
 rw [show aaj a = a0 by simp only [aaj, a8, cT, cF]]
 exact zX [11] (p1, (a.length)) (ada τ0 v3 : ok n (a0 : List Name))
theorem f285 (hn : n + 0 ≤ 9) {a : List UInt8} (N0 : Rd w K0 M0 a) (a2 : ok n a) :
 DP 285 #[vS K0 a M0] w (pS w n (aak a)) := by
 have hb := bS0 hn
 refine EN Tryz.func285 Z (aS1 N0) ?_
 have r1 := (okl a2).1
 refine R0 ?_
 refine WX.mkS (a.length) ttOk Z Z Z Z Z Z Z τ0 τ0 Z fun p1 => ?_
 refine FZ 1 (afq (α := UInt8) (z0 := (0 : UInt8)) (x0 := ()) Z trivial (a.length)) ?_
 refine LM Z ((zrep (a.length) [.int .u8 (((0 : UInt8)).toNat : Nat)]), ((List.replicate (a.length) (0 : UInt8)) : List UInt8), 0) (fun | (a1, a0, i) => ((i ≤ a.length) ∧ (a0.length = a.length) ∧ JE n a0 ∧ (a8i a 0 ((List.replicate (a.length) (0 : UInt8)) : List UInt8) = a8i (a.drop i) i a0), a.length - i, [(4, .v (vI i))], [], [(7, ⟨1, p1, a.length, (a.length), a1⟩)], [(1, MF.ol a1 (a0 : List UInt8))])) ⟨zl, τ5, (afv trivial), Z⟩ [3, 0] [] [0] [0, 1] ?_
 rintro ⟨a1, a0, i⟩ ⟨v1, v2, v3, v4⟩
 refine yKD 11 ?_ ?_ <;> intro h1 ad
 have a4 : i < a.length := τ0
 obtain ⟨e1, a7⟩ := gE a4
 refine yI 0 i a4 ?_
 rintro aa rfl
 refine zL 0 2 e1 a7 ?_
 rintro ⟨⟩
 have a3 : i < a.length := τ3
 refine zR 7 i a3 ?_
 rintro ab rfl
 have a6 : i < a0.length := τ3
 obtain ⟨e2, a5⟩ := gE a6
 refine zO (α := UInt8) (e := e2) 7 1 2 i a5 ?_
 rintro A1 B1 ⟨⟩ a9 ac
 refine zS 7 a9 a3 ?_
 refine SA ?_
 refine R0 ?_
 refine WX.turn [2, 3] 4 Z (fun h hs => aej (α := UInt8) (e := e1) (x := ()) a6 hs) Z ?_
 refine zU [4] 1 ?_
 exact IT (_, ((a0.set i e1) : List UInt8), i + 1) ⟨τ0, τ2, (aef v3 (show ok n (e1 : UInt8) from trivial)), (by rw [v4, acx a7]; simp only [a8i, a5, cT, cF])⟩ τ1 [0, 1]
 have a8 := v4.trans (show _ = (a0 : List UInt8) by rw [dn (show a.length ≤ i by omega)]; simp only [a8i, cT, cF])
 refine yE 7 1 5 (hn := (show a.length = a0.length from by omega)) ?_
 refine SL 2 a0.length ?_
 refine SL 21 a0.length ?_
 refine SL 3 a0.length ?_
 rw [show aak a = a0 by simp only [aak, a8, cT, cF]]
 exact zX [6] (p1, (a.length)) (ada τ0 (fun _ _ => trivial) : ok n (a0 : List UInt8))
theorem f183 (hn : n + 0 ≤ 9) (a : DataP) (N0 : Rd w K0 M0 a.name.parts) (N1 : Rd w K1 M1 a.content) (N2 : Rd w K2 M2 a.keyName.parts) (a0 : ok n a) :
 DP 183 #[al6 a K0 M0 K1 M1 K2 M2] w (pA w n (a35 a)) := by
 have hb := bS0 hn
 refine EN Tryz.func183 Z (aS3 N0 N1 N2) ?_
 refine KF Z 3 Z Z Z Z Z O Z (fun w γ => f182 n τ0 a.name (γ.q 0 Z) ((ado a0).1)) ?_
 rintro ⟨p1, c1⟩ a1
 refine KF Z 5 Z Z Z Z Z O Z (fun w γ => f285 n τ0 (γ.q 1 Z) ((ado a0).2.1)) ?_
 rintro ⟨p2, c2⟩ a3
 refine KF Z 7 Z Z Z Z Z O Z (fun w γ => f182 n τ0 a.keyName (γ.q 2 Z) ((ado a0).2.2.1)) ?_
 rintro ⟨p3, c3⟩ a2
 rw [show a35 a = (DataP.mk (a0y a.name) (aak a.content) (a0y a.keyName) a.freshUntil a.signature) by simp only [a35, cT, cF]]
 exact yX [4, 6, 8] ((p1, c1), (p2, c2), (p3, c3), (), ()) (An a1 (An a3 (An a2 (An (ado a0).2.2.2.1 (ado a0).2.2.2.2))))
theorem f80 (hn : n + 0 ≤ 9) {a : List DataP} (N0 : Rd w K0 M0 a) (a2 : ok n a) :
 DP 80 #[vS K0 a M0] w (pS w n (a7i a)) := by
 have hb := bS0 hn
 refine EN Tryz.func80 Z (aS1 N0) ?_
 have r1 := (okl a2).1
 refine R0 ?_
 refine WX.mkS (a.length) ttOk Z Z Z Z Z Z Z τ0 τ0 Z fun p1 => ?_
 refine WX.free 1 (MF.ol (zrep (a.length) [.slice none (0) 0, .slice none (0) 0, .slice none (0) 0, .int .i64 (0), .int .i64 (0)]) ((List.replicate (a.length) (DataP.mk (Name.mk ([])) ([]) (Name.mk ([])) 0 0)) : List DataP)) (afq (α := DataP) (z0 := (DataP.mk (Name.mk ([])) ([]) (Name.mk ([])) 0 0)) (x0 := ((none, 0), (none, 0), (none, 0), (), ())) Z (adq (aeo _ _) (adq (aeo _ _) (adq (aeo _ _) trivial))) _) ?_
 refine LM Z ((zrep (a.length) [.slice none (0) 0, .slice none (0) 0, .slice none (0) 0, .int .i64 (0), .int .i64 (0)]), ((List.replicate (a.length) (DataP.mk (Name.mk ([])) ([]) (Name.mk ([])) 0 0)) : List DataP), 0) (fun | (a1, a0, i) => ((i ≤ a.length) ∧ (a0.length = a.length) ∧ JE n a0 ∧ (a8j a 0 ((List.replicate (a.length) (DataP.mk (Name.mk ([])) ([]) (Name.mk ([])) 0 0)) : List DataP) = a8j (a.drop i) i a0), a.length - i, [(4, .v (vI i))], [], [(7, ⟨5, p1, a.length, (a.length), a1⟩)], [(1, MF.ol a1 (a0 : List DataP))])) ⟨zl, τ5, (afv (An (adf (α := Str)) (An (adf (α := UInt8)) (An (adf (α := Str)) (An (i6 0) (i6 0)))))), Z⟩ [3, 0] [] [0] [0, 1] ?_
 rintro ⟨a1, a0, i⟩ ⟨v1, v2, v3, v4⟩
 refine yKD 11 ?_ ?_ <;> intro h1 ah
 have a6 : i < a.length := τ0
 obtain ⟨e1, a4⟩ := gE a6
 have ab := okE a2 a4
 refine yI 0 i a6 ?_
 rintro ac rfl
 refine zL 0 2 e1 a4 ?_
 rintro ⟨⟨p2, c1⟩, ⟨p3, c2⟩, ⟨p4, c3⟩, ⟨⟩, ⟨⟩⟩
 refine CF 5 Z Z Z Z Z O Z (fun w γ => f183 n τ0 e1 (γ.q 2 Z) (γ.q 3 Z) (γ.q 4 Z) ab) ?_
 rintro ⟨⟨p5, c4⟩, ⟨p6, c5⟩, ⟨p7, c6⟩, ⟨⟩, ⟨⟩⟩ a9
 have a5 : i < a.length := τ3
 refine zR 7 i a5 ?_
 rintro ae rfl
 have a7 : i < a0.length := τ3
 obtain ⟨e2, a3⟩ := gE a7
 have af : ok n e2 := v3 _ (List.mem_of_getElem? a3)
 refine zO (α := DataP) (e := e2) 7 1 11 i a3 ?_
 rintro A1 B1 ⟨⟨p8, c7⟩, ⟨p9, c8⟩, ⟨ad, c9⟩, ⟨⟩, ⟨⟩⟩ aa ag
 refine zS 7 aa a5 ?_
 refine SA ?_
 refine R0 ?_
 refine WX.turn [8, 9, 10, 17, 18] 19 Z (fun h hs => aej (α := DataP) (e := (a35 e1)) (x := ((p5, c4), (p6, c5), (p7, c6), (), ())) a7 hs) Z ?_
 refine zU [19] 1 ?_
 exact IT (_, ((a0.set i (a35 e1)) : List DataP), i + 1) ⟨τ0, τ2, (aef v3 (show ok n ((a35 e1) : DataP) from a9)), (by rw [v4, acx a4]; simp only [a8j, a3, cT, cF])⟩ τ1 [0, 1]
 have a8 := v4.trans (show _ = (a0 : List DataP) by rw [dn (show a.length ≤ i by omega)]; simp only [a8j, cT, cF])
 refine yE 7 1 20 (hn := (show a.length = a0.length from by omega)) ?_
 refine SL 2 a0.length ?_
 refine SL 22 a0.length ?_
 refine SL 3 a0.length ?_
 rw [show a7i a = a0 by simp only [a7i, a8, cT, cF]]
 exact zX [21] (p1, (a.length)) (ada τ0 v3 : ok n (a0 : List DataP))
theorem f24 (hn : n + 0 ≤ 9) (a : TrustPolicy) (N0 : Rd w K0 M0 a.keys) (N1 : Rd w K1 M1 a.rules) (N2 : Rd w K2 M2 a.anchors) (N3 : Rd w K3 M3 a.certificates) (a0 : ok n a) :
 DP 24 #[af4 a K0 M0 K1 M1 K2 M2 K3 M3] w (pA w n (a05 a)) := by
 have hb := bS0 hn
 refine EN Tryz.func24 Z (aS4 N0 N1 N2 N3) ?_
 refine KF Z 4 Z Z Z Z Z O Z (fun w γ => f77 n τ0 (γ.q 0 Z) ((acz a0).1)) ?_
 rintro ⟨p1, c1⟩ a1
 refine KF Z 6 Z Z Z Z Z O Z (fun w γ => f78 n τ0 (γ.q 1 Z) ((acz a0).2.1)) ?_
 rintro ⟨p2, c2⟩ a4
 refine KF Z 8 Z Z Z Z Z O Z (fun w γ => f79 n τ0 (γ.q 2 Z) ((acz a0).2.2.1)) ?_
 rintro ⟨p3, c3⟩ a2
 refine KF Z 10 Z Z Z Z Z O Z (fun w γ => f80 n τ0 (γ.q 3 Z) ((acz a0).2.2.2)) ?_
 rintro ⟨p4, c4⟩ a3
 rw [show a05 a = (TrustPolicy.mk (aah a.keys) (aai a.rules) (aaj a.anchors) (a7i a.certificates)) by simp only [a05, cT, cF]]
 exact yX [5, 7, 9, 11] ((p1, c1), (p2, c2), (p3, c3), (p4, c4)) (An a1 (An a4 (An a2 a3)))
theorem f81 (hn : n + 0 ≤ 9) (a : TableEntry) (N0 : Rd w K0 M0 a.name.parts) (a0 : ok n a) :
 DP 81 #[.agg #[vS K0 a.name.parts M0, vI a.value]] w (pA w n (a7j a)) := by
 have hb := bS0 hn
 refine EN Tryz.func81 Z (aS1 N0) ?_
 refine KF Z 1 Z Z Z Z Z O Z (fun w γ => f182 n τ0 a.name (γ.q 0 Z) ((adv a0).1)) ?_
 rintro ⟨p1, c1⟩ a1
 rw [show a7j a = (TableEntry.mk (a0y a.name) a.value) by simp only [a7j, cT, cF]]
 exact yX [2] ((p1, c1), ()) (An a1 (adv a0).2)
theorem f25 (hn : n + 0 ≤ 9) {a : List TableEntry} (N0 : Rd w K0 M0 a) (a2 : ok n a) :
 DP 25 #[vS K0 a M0] w (pS w n (a07 a)) := by
 have hb := bS0 hn
 refine EN Tryz.func25 Z (aS1 N0) ?_
 have r1 := (okl a2).1
 refine R0 ?_
 refine WX.mkS (a.length) ttOk Z Z Z Z Z Z Z τ0 τ0 Z fun p1 => ?_
 refine WX.free 1 (MF.ol (zrep (a.length) [.slice none (0) 0, .int .i64 (0)]) ((List.replicate (a.length) (TableEntry.mk (Name.mk ([])) 0)) : List TableEntry)) (afq (α := TableEntry) (z0 := (TableEntry.mk (Name.mk ([])) 0)) (x0 := ((none, 0), ())) Z (adq (aeo _ _) trivial) _) ?_
 refine LM Z ((zrep (a.length) [.slice none (0) 0, .int .i64 (0)]), ((List.replicate (a.length) (TableEntry.mk (Name.mk ([])) 0)) : List TableEntry), 0) (fun | (a1, a0, i) => ((i ≤ a.length) ∧ (a0.length = a.length) ∧ JE n a0 ∧ (a8k a 0 ((List.replicate (a.length) (TableEntry.mk (Name.mk ([])) 0)) : List TableEntry) = a8k (a.drop i) i a0), a.length - i, [(4, .v (vI i))], [], [(7, ⟨2, p1, a.length, (a.length), a1⟩)], [(1, MF.ol a1 (a0 : List TableEntry))])) ⟨zl, τ5, (afv (An (adf (α := Str)) (i6 0))), Z⟩ [3, 0] [] [0] [0, 1] ?_
 rintro ⟨a1, a0, i⟩ ⟨v1, v2, v3, v4⟩
 refine yKD 11 ?_ ?_ <;> intro h1 ag
 have a6 : i < a.length := τ0
 obtain ⟨e1, a4⟩ := gE a6
 have ab := okE a2 a4
 refine yI 0 i a6 ?_
 rintro ac rfl
 refine zL 0 2 e1 a4 ?_
 rintro ⟨⟨p2, c1⟩, ⟨⟩⟩
 refine CF 3 Z Z Z Z Z O Z (fun w γ => f81 n τ0 e1 (γ.q 2 Z) ab) ?_
 rintro ⟨⟨p3, c2⟩, ⟨⟩⟩ a9
 have a5 : i < a.length := τ3
 refine zR 7 i a5 ?_
 rintro ad rfl
 have a7 : i < a0.length := τ3
 obtain ⟨e2, a3⟩ := gE a7
 have ae : ok n e2 := v3 _ (List.mem_of_getElem? a3)
 refine zO (α := TableEntry) (e := e2) 7 1 5 i a3 ?_
 rintro A1 B1 ⟨⟨p4, c3⟩, ⟨⟩⟩ aa af
 refine zS 7 aa a5 ?_
 refine SA ?_
 refine R0 ?_
 refine WX.turn [4, 7, 8] 9 Z (fun h hs => aej (α := TableEntry) (e := (a7j e1)) (x := ((p3, c2), ())) a7 hs) Z ?_
 refine zU [9] 1 ?_
 exact IT (_, ((a0.set i (a7j e1)) : List TableEntry), i + 1) ⟨τ0, τ2, (aef v3 (show ok n ((a7j e1) : TableEntry) from a9)), (by rw [v4, acx a4]; simp only [a8k, a3, cT, cF])⟩ τ1 [0, 1]
 have a8 := v4.trans (show _ = (a0 : List TableEntry) by rw [dn (show a.length ≤ i by omega)]; simp only [a8k, cT, cF])
 refine yE 7 1 10 (hn := (show a.length = a0.length from by omega)) ?_
 refine SL 2 a0.length ?_
 refine SL 22 a0.length ?_
 refine SL 3 a0.length ?_
 rw [show a07 a = a0 by simp only [a07, a8, cT, cF]]
 exact zX [11] (p1, (a.length)) (ada τ0 v3 : ok n (a0 : List TableEntry))
theorem f406 (hn : n + 0 ≤ 9) (a : CacheEntry) (N0 : Rd w K0 M0 a.data.name.parts) (N1 : Rd w K1 M1 a.data.content) (N2 : Rd w K2 M2 a.data.keyName.parts) (a0 : ok n a) :
 DP 406 #[aha a K0 M0 K1 M1 K2 M2] w (pA w n (aal a)) := by
 have hb := bS0 hn
 refine EN Tryz.func406 Z (aS3 N0 N1 N2) ?_
 refine KF Z 3 Z Z Z Z Z O Z (fun w γ => f183 n τ0 a.data (γ.q 0 Z) (γ.q 1 Z) (γ.q 2 Z) ((aec a0).1)) ?_
 rintro ⟨⟨p1, c1⟩, ⟨p2, c2⟩, ⟨p3, c3⟩, ⟨⟩, ⟨⟩⟩ a1
 rw [show aal a = (CacheEntry.mk (a35 a.data) a.lastUsed) by simp only [aal, cT, cF]]
 exact yX [6, 7, 8] (((p1, c1), (p2, c2), (p3, c3), (), ()), ()) (An a1 (aec a0).2)
theorem f376 (hn : n + 0 ≤ 9) {a : List CacheEntry} (N0 : Rd w K0 M0 a) (a2 : ok n a) :
 DP 376 #[vS K0 a M0] w (pS w n (ac9 a)) := by
 have hb := bS0 hn
 refine EN Tryz.func376 Z (aS1 N0) ?_
 have r1 := (okl a2).1
 refine R0 ?_
 refine WX.mkS (a.length) ttOk Z Z Z Z Z Z Z τ0 τ0 Z fun p1 => ?_
 refine WX.free 1 (MF.ol (zrep (a.length) [.slice none (0) 0, .slice none (0) 0, .slice none (0) 0, .int .i64 (0), .int .i64 (0), .int .i64 (0)]) ((List.replicate (a.length) (CacheEntry.mk (DataP.mk (Name.mk ([])) ([]) (Name.mk ([])) 0 0) 0)) : List CacheEntry)) (afq (α := CacheEntry) (z0 := (CacheEntry.mk (DataP.mk (Name.mk ([])) ([]) (Name.mk ([])) 0 0) 0)) (x0 := (((none, 0), (none, 0), (none, 0), (), ()), ())) Z (adq (aeo _ _) (adq (aeo _ _) (adq (aeo _ _) trivial))) _) ?_
 refine LM Z ((zrep (a.length) [.slice none (0) 0, .slice none (0) 0, .slice none (0) 0, .int .i64 (0), .int .i64 (0), .int .i64 (0)]), ((List.replicate (a.length) (CacheEntry.mk (DataP.mk (Name.mk ([])) ([]) (Name.mk ([])) 0 0) 0)) : List CacheEntry), 0) (fun | (a1, a0, i) => ((i ≤ a.length) ∧ (a0.length = a.length) ∧ JE n a0 ∧ (abh a 0 ((List.replicate (a.length) (CacheEntry.mk (DataP.mk (Name.mk ([])) ([]) (Name.mk ([])) 0 0) 0)) : List CacheEntry) = abh (a.drop i) i a0), a.length - i, [(4, .v (vI i))], [], [(7, ⟨6, p1, a.length, (a.length), a1⟩)], [(1, MF.ol a1 (a0 : List CacheEntry))])) ⟨zl, τ5, (afv (An (An (adf (α := Str)) (An (adf (α := UInt8)) (An (adf (α := Str)) (An (i6 0) (i6 0))))) (i6 0))), Z⟩ [3, 0] [] [0] [0, 1] ?_
 rintro ⟨a1, a0, i⟩ ⟨v1, v2, v3, v4⟩
 refine yKD 11 ?_ ?_ <;> intro h1 ah
 have a6 : i < a.length := τ0
 obtain ⟨e1, a4⟩ := gE a6
 have ab := okE a2 a4
 refine yI 0 i a6 ?_
 rintro ac rfl
 refine zL 0 2 e1 a4 ?_
 rintro ⟨⟨⟨p2, c1⟩, ⟨p3, c2⟩, ⟨p4, c3⟩, ⟨⟩, ⟨⟩⟩, ⟨⟩⟩
 refine CF 5 Z Z Z Z Z O Z (fun w γ => f406 n τ0 e1 (γ.q 2 Z) (γ.q 3 Z) (γ.q 4 Z) ab) ?_
 rintro ⟨⟨⟨p5, c4⟩, ⟨p6, c5⟩, ⟨p7, c6⟩, ⟨⟩, ⟨⟩⟩, ⟨⟩⟩ a9
 have a5 : i < a.length := τ3
 refine zR 7 i a5 ?_
 rintro ae rfl
 have a7 : i < a0.length := τ3
 obtain ⟨e2, a3⟩ := gE a7
 have af : ok n e2 := v3 _ (List.mem_of_getElem? a3)
 refine zO (α := CacheEntry) (e := e2) 7 1 11 i a3 ?_
 rintro A1 B1 ⟨⟨⟨p8, c7⟩, ⟨p9, c8⟩, ⟨ad, c9⟩, ⟨⟩, ⟨⟩⟩, ⟨⟩⟩ aa ag
 refine zS 7 aa a5 ?_
 refine SA ?_
 refine R0 ?_
 refine WX.turn [8, 9, 10, 17, 18] 19 Z (fun h hs => aej (α := CacheEntry) (e := (aal e1)) (x := (((p5, c4), (p6, c5), (p7, c6), (), ()), ())) a7 hs) Z ?_
 refine zU [19] 1 ?_
 exact IT (_, ((a0.set i (aal e1)) : List CacheEntry), i + 1) ⟨τ0, τ2, (aef v3 (show ok n ((aal e1) : CacheEntry) from a9)), (by rw [v4, acx a4]; simp only [abh, a3, cT, cF])⟩ τ1 [0, 1]
 have a8 := v4.trans (show _ = (a0 : List CacheEntry) by rw [dn (show a.length ≤ i by omega)]; simp only [abh, cT, cF])
 refine yE 7 1 20 (hn := (show a.length = a0.length from by omega)) ?_
 refine SL 2 a0.length ?_
 refine SL 22 a0.length ?_
 refine SL 3 a0.length ?_
 rw [show ac9 a = a0 by simp only [ac9, a8, cT, cF]]
 exact zX [21] (p1, (a.length)) (ada τ0 v3 : ok n (a0 : List CacheEntry))
theorem f312 (hn : n + 0 ≤ 9) (a : ContentStore) (N0 : Rd w K0 M0 a.entries) (a0 : ok n a) :
 DP 312 #[.agg #[vI a.capacity, vS K0 a.entries M0]] w (pA w n (aca a)) := by
 have hb := bS0 hn
 refine EN Tryz.func312 Z (aS1 N0) ?_
 refine KF Z 1 Z Z Z Z Z O Z (fun w γ => f376 n τ0 (γ.q 0 Z) ((aei a0).2)) ?_
 rintro ⟨p1, c1⟩ a1
 rw [show aca a = (ContentStore.mk a.capacity (ac9 a.entries)) by simp only [aca, cT, cF]]
 exact yX [2] ((), (p1, c1)) (An (aei a0).1 a1)
theorem f444 (hn : n + 0 ≤ 9) (a : Requester) (a0 : ok n a) :
 DP 444 #[.agg #[vI a.face, vI a.nonce, vI a.expiry]] w (fun (rv : Value) (_ : World) => rv = .agg #[.int .i64 ((a6a a).face), .int .i64 ((a6a a).nonce), .int .i64 ((a6a a).expiry)] ∧ ok n ((a6a a) : Requester)) := by
 refine EN Tryz.func444 Z adc ?_
 rw [show a6a a = a by simp only [a6a, cT, cF]]
 exact R6r Z Z a0
theorem f407 (hn : n + 0 ≤ 9) {a : List Requester} (N0 : Rd w K0 M0 a) (a2 : ok n a) :
 DP 407 #[vS K0 a M0] w (pS w n (acb a)) := by
 have hb := bS0 hn
 refine EN Tryz.func407 Z (aS1 N0) ?_
 have r1 := (okl a2).1
 refine R0 ?_
 refine WX.mkS (a.length) ttOk Z Z Z Z Z Z Z τ0 τ0 Z fun p1 => ?_
 refine FZ 1 (afq (α := Requester) (z0 := (Requester.mk 0 0 0)) (x0 := ((), (), ())) Z trivial (a.length)) ?_
 refine LM Z ((zrep (a.length) [.int .i64 (0), .int .i64 (0), .int .i64 (0)]), ((List.replicate (a.length) (Requester.mk 0 0 0)) : List Requester), 0) (fun | (a1, a0, i) => ((i ≤ a.length) ∧ (a0.length = a.length) ∧ JE n a0 ∧ (abi a 0 ((List.replicate (a.length) (Requester.mk 0 0 0)) : List Requester) = abi (a.drop i) i a0), a.length - i, [(4, .v (vI i))], [], [(7, ⟨3, p1, a.length, (a.length), a1⟩)], [(1, MF.ol a1 (a0 : List Requester))])) ⟨zl, τ5, (afv (An (i6 0) (An (i6 0) (i6 0)))), Z⟩ [3, 0] [] [0] [0, 1] ?_
 rintro ⟨a1, a0, i⟩ ⟨v1, v2, v3, v4⟩
 refine yKD 11 ?_ ?_ <;> intro h1 ag
 have a6 : i < a.length := τ0
 obtain ⟨e1, a4⟩ := gE a6
 have ab := okE a2 a4
 refine yI 0 i a6 ?_
 rintro ac rfl
 refine zL 0 2 e1 a4 ?_
 rintro ⟨⟨⟩, ⟨⟩, ⟨⟩⟩
 refine CV Z Z Z Z Z O Z (fun w γ => f444 n τ0 e1 ab) fun a9 => ?_
 have a5 : i < a.length := τ3
 refine zR 7 i a5 ?_
 rintro ad rfl
 have a7 : i < a0.length := τ3
 obtain ⟨e2, a3⟩ := gE a7
 have ae : ok n e2 := v3 _ (List.mem_of_getElem? a3)
 refine zO (α := Requester) (e := e2) 7 1 2 i a3 ?_
 rintro A1 B1 ⟨⟨⟩, ⟨⟩, ⟨⟩⟩ aa af
 refine zS 7 aa a5 ?_
 refine SA ?_
 refine R0 ?_
 refine WX.turn [2, 3] 4 Z (fun h hs => aej (α := Requester) (e := (a6a e1)) (x := ((), (), ())) a7 hs) Z ?_
 refine zU [4] 1 ?_
 exact IT (_, ((a0.set i (a6a e1)) : List Requester), i + 1) ⟨τ0, τ2, (aef v3 (show ok n ((a6a e1) : Requester) from a9)), (by rw [v4, acx a4]; simp only [abi, a3, cT, cF])⟩ τ1 [0, 1]
 have a8 := v4.trans (show _ = (a0 : List Requester) by rw [dn (show a.length ≤ i by omega)]; simp only [abi, cT, cF])
 refine yE 7 1 5 (hn := (show a.length = a0.length from by omega)) ?_
 refine SL 2 a0.length ?_
 refine SL 22 a0.length ?_
 refine SL 3 a0.length ?_
 rw [show acb a = a0 by simp only [acb, a8, cT, cF]]
 exact zX [6] (p1, (a.length)) (ada τ0 v3 : ok n (a0 : List Requester))
theorem f377 (hn : n + 0 ≤ 9) (a : PendingInterest) (N0 : Rd w K0 M0 a.name.parts) (N1 : Rd w K1 M1 a.requesters) (a0 : ok n a) :
 DP 377 #[agc a K0 M0 K1 M1] w (pA w n (aam a)) := by
 have hb := bS0 hn
 refine EN Tryz.func377 Z (aS2 N0 N1) ?_
 refine KF Z 2 Z Z Z Z Z O Z (fun w γ => f182 n τ0 a.name (γ.q 0 Z) ((ad8 a0).1)) ?_
 rintro ⟨p1, c1⟩ a1
 refine KF Z 4 Z Z Z Z Z O Z (fun w γ => f407 n τ0 (γ.q 1 Z) ((ad8 a0).2.1)) ?_
 rintro ⟨p2, c2⟩ a2
 rw [show aam a = (PendingInterest.mk (a0y a.name) (acb a.requesters) a.lastSent) by simp only [aam, cT, cF]]
 exact yX [3, 5] ((p1, c1), (p2, c2), ()) (An a1 (An a2 (ad8 a0).2.2))
theorem f313 (hn : n + 0 ≤ 9) {a : List PendingInterest} (N0 : Rd w K0 M0 a) (a2 : ok n a) :
 DP 313 #[vS K0 a M0] w (pS w n (acd a)) := by
 have hb := bS0 hn
 refine EN Tryz.func313 Z (aS1 N0) ?_
 have r1 := (okl a2).1
 refine R0 ?_
 refine WX.mkS (a.length) ttOk Z Z Z Z Z Z Z τ0 τ0 Z fun p1 => ?_
 refine WX.free 1 (MF.ol (zrep (a.length) [.slice none (0) 0, .slice none (0) 0, .int .i64 (0)]) ((List.replicate (a.length) (PendingInterest.mk (Name.mk ([])) ([]) 0)) : List PendingInterest)) (afq (α := PendingInterest) (z0 := (PendingInterest.mk (Name.mk ([])) ([]) 0)) (x0 := ((none, 0), (none, 0), ())) Z (adq (aeo _ _) (adq (aeo _ _) trivial)) _) ?_
 refine LM Z ((zrep (a.length) [.slice none (0) 0, .slice none (0) 0, .int .i64 (0)]), ((List.replicate (a.length) (PendingInterest.mk (Name.mk ([])) ([]) 0)) : List PendingInterest), 0) (fun | (a1, a0, i) => ((i ≤ a.length) ∧ (a0.length = a.length) ∧ JE n a0 ∧ (abj a 0 ((List.replicate (a.length) (PendingInterest.mk (Name.mk ([])) ([]) 0)) : List PendingInterest) = abj (a.drop i) i a0), a.length - i, [(4, .v (vI i))], [], [(7, ⟨3, p1, a.length, (a.length), a1⟩)], [(1, MF.ol a1 (a0 : List PendingInterest))])) ⟨zl, τ5, (afv (An (adf (α := Str)) (An (adf (α := Requester)) (i6 0)))), Z⟩ [3, 0] [] [0] [0, 1] ?_
 rintro ⟨a1, a0, i⟩ ⟨v1, v2, v3, v4⟩
 refine yKD 11 ?_ ?_ <;> intro h1 ag
 have a6 : i < a.length := τ0
 obtain ⟨e1, a4⟩ := gE a6
 have ab := okE a2 a4
 refine yI 0 i a6 ?_
 rintro ac rfl
 refine zL 0 2 e1 a4 ?_
 rintro ⟨⟨p2, c1⟩, ⟨p3, c2⟩, ⟨⟩⟩
 refine CF 4 Z Z Z Z Z O Z (fun w γ => f377 n τ0 e1 (γ.q 2 Z) (γ.q 3 Z) ab) ?_
 rintro ⟨⟨p4, c3⟩, ⟨p5, c4⟩, ⟨⟩⟩ a9
 have a5 : i < a.length := τ3
 refine zR 7 i a5 ?_
 rintro ad rfl
 have a7 : i < a0.length := τ3
 obtain ⟨e2, a3⟩ := gE a7
 have ae : ok n e2 := v3 _ (List.mem_of_getElem? a3)
 refine zO (α := PendingInterest) (e := e2) 7 1 8 i a3 ?_
 rintro A1 B1 ⟨⟨p6, c5⟩, ⟨p7, c6⟩, ⟨⟩⟩ aa af
 refine zS 7 aa a5 ?_
 refine SA ?_
 refine R0 ?_
 refine WX.turn [6, 7, 12, 13] 14 Z (fun h hs => aej (α := PendingInterest) (e := (aam e1)) (x := ((p4, c3), (p5, c4), ())) a7 hs) Z ?_
 refine zU [14] 1 ?_
 exact IT (_, ((a0.set i (aam e1)) : List PendingInterest), i + 1) ⟨τ0, τ2, (aef v3 (show ok n ((aam e1) : PendingInterest) from a9)), (by rw [v4, acx a4]; simp only [abj, a3, cT, cF])⟩ τ1 [0, 1]
 have a8 := v4.trans (show _ = (a0 : List PendingInterest) by rw [dn (show a.length ≤ i by omega)]; simp only [abj, cT, cF])
 refine yE 7 1 15 (hn := (show a.length = a0.length from by omega)) ?_
 refine SL 2 a0.length ?_
 refine SL 22 a0.length ?_
 refine SL 3 a0.length ?_
 rw [show acd a = a0 by simp only [acd, a8, cT, cF]]
 exact zX [16] (p1, (a.length)) (ada τ0 v3 : ok n (a0 : List PendingInterest))
theorem f378 (hn : n + 0 ≤ 9) (a : SeenNonce) (N0 : Rd w K0 M0 a.name.parts) (a0 : ok n a) :
 DP 378 #[.agg #[vS K0 a.name.parts M0, vI a.nonce]] w (pA w n (aan a)) := by
 have hb := bS0 hn
 refine EN Tryz.func378 Z (aS1 N0) ?_
 refine KF Z 1 Z Z Z Z Z O Z (fun w γ => f182 n τ0 a.name (γ.q 0 Z) ((aew a0).1)) ?_
 rintro ⟨p1, c1⟩ a1
 rw [show aan a = (SeenNonce.mk (a0y a.name) a.nonce) by simp only [aan, cT, cF]]
 exact yX [2] ((p1, c1), ()) (An a1 (aew a0).2)
theorem f314 (hn : n + 0 ≤ 9) {a : List SeenNonce} (N0 : Rd w K0 M0 a) (a2 : ok n a) :
 DP 314 #[vS K0 a M0] w (pS w n (ace a)) := by
 have hb := bS0 hn
 refine EN Tryz.func314 Z (aS1 N0) ?_
 have r1 := (okl a2).1
 refine R0 ?_
 refine WX.mkS (a.length) ttOk Z Z Z Z Z Z Z τ0 τ0 Z fun p1 => ?_
 refine WX.free 1 (MF.ol (zrep (a.length) [.slice none (0) 0, .int .i64 (0)]) ((List.replicate (a.length) (SeenNonce.mk (Name.mk ([])) 0)) : List SeenNonce)) (afq (α := SeenNonce) (z0 := (SeenNonce.mk (Name.mk ([])) 0)) (x0 := ((none, 0), ())) Z (adq (aeo _ _) trivial) _) ?_
 refine LM Z ((zrep (a.length) [.slice none (0) 0, .int .i64 (0)]), ((List.replicate (a.length) (SeenNonce.mk (Name.mk ([])) 0)) : List SeenNonce), 0) (fun | (a1, a0, i) => ((i ≤ a.length) ∧ (a0.length = a.length) ∧ JE n a0 ∧ (abk a 0 ((List.replicate (a.length) (SeenNonce.mk (Name.mk ([])) 0)) : List SeenNonce) = abk (a.drop i) i a0), a.length - i, [(4, .v (vI i))], [], [(7, ⟨2, p1, a.length, (a.length), a1⟩)], [(1, MF.ol a1 (a0 : List SeenNonce))])) ⟨zl, τ5, (afv (An (adf (α := Str)) (i6 0))), Z⟩ [3, 0] [] [0] [0, 1] ?_
 rintro ⟨a1, a0, i⟩ ⟨v1, v2, v3, v4⟩
 refine yKD 11 ?_ ?_ <;> intro h1 ag
 have a6 : i < a.length := τ0
 obtain ⟨e1, a4⟩ := gE a6
 have ab := okE a2 a4
 refine yI 0 i a6 ?_
 rintro ac rfl
 refine zL 0 2 e1 a4 ?_
 rintro ⟨⟨p2, c1⟩, ⟨⟩⟩
 refine CF 3 Z Z Z Z Z O Z (fun w γ => f378 n τ0 e1 (γ.q 2 Z) ab) ?_
 rintro ⟨⟨p3, c2⟩, ⟨⟩⟩ a9
 have a5 : i < a.length := τ3
 refine zR 7 i a5 ?_
 rintro ad rfl
 have a7 : i < a0.length := τ3
 obtain ⟨e2, a3⟩ := gE a7
 have ae : ok n e2 := v3 _ (List.mem_of_getElem? a3)
 refine zO (α := SeenNonce) (e := e2) 7 1 5 i a3 ?_
 rintro A1 B1 ⟨⟨p4, c3⟩, ⟨⟩⟩ aa af
 refine zS 7 aa a5 ?_
 refine SA ?_
 refine R0 ?_
 refine WX.turn [4, 7, 8] 9 Z (fun h hs => aej (α := SeenNonce) (e := (aan e1)) (x := ((p3, c2), ())) a7 hs) Z ?_
 refine zU [9] 1 ?_
 exact IT (_, ((a0.set i (aan e1)) : List SeenNonce), i + 1) ⟨τ0, τ2, (aef v3 (show ok n ((aan e1) : SeenNonce) from a9)), (by rw [v4, acx a4]; simp only [abk, a3, cT, cF])⟩ τ1 [0, 1]
 have a8 := v4.trans (show _ = (a0 : List SeenNonce) by rw [dn (show a.length ≤ i by omega)]; simp only [abk, cT, cF])
 refine yE 7 1 10 (hn := (show a.length = a0.length from by omega)) ?_
 refine SL 2 a0.length ?_
 refine SL 22 a0.length ?_
 refine SL 3 a0.length ?_
 rw [show ace a = a0 by simp only [ace, a8, cT, cF]]
 exact zX [11] (p1, (a.length)) (ada τ0 v3 : ok n (a0 : List SeenNonce))
theorem f379 (hn : n + 0 ≤ 9) (a : Route) (N0 : Rd w K0 M0 a.pfx.parts) (a0 : ok n a) :
 DP 379 #[an6 a K0 M0] w (pA w n (aao a)) := by
 have hb := bS0 hn
 refine EN Tryz.func379 Z (aS1 N0) ?_
 refine KF Z 1 Z Z Z Z Z O Z (fun w γ => f182 n τ0 a.pfx (γ.q 0 Z) ((adn a0).1)) ?_
 rintro ⟨p1, c1⟩ a1
 rw [show aao a = (Route.mk (a0y a.pfx) a.face a.cost) by simp only [aao, cT, cF]]
 exact yX [2] ((p1, c1), (), ()) (An a1 (An (adn a0).2.1 (adn a0).2.2))
theorem f315 (hn : n + 0 ≤ 9) {a : List Route} (N0 : Rd w K0 M0 a) (a2 : ok n a) :
 DP 315 #[vS K0 a M0] w (pS w n (acf a)) := by
 have hb := bS0 hn
 refine EN Tryz.func315 Z (aS1 N0) ?_
 have r1 := (okl a2).1
 refine R0 ?_
 refine WX.mkS (a.length) ttOk Z Z Z Z Z Z Z τ0 τ0 Z fun p1 => ?_
 refine WX.free 1 (MF.ol (zrep (a.length) [.slice none (0) 0, .int .i64 (0), .int .i64 (0)]) ((List.replicate (a.length) (Route.mk (Name.mk ([])) 0 0)) : List Route)) (afq (α := Route) (z0 := (Route.mk (Name.mk ([])) 0 0)) (x0 := ((none, 0), (), ())) Z (adq (aeo _ _) trivial) _) ?_
 refine LM Z ((zrep (a.length) [.slice none (0) 0, .int .i64 (0), .int .i64 (0)]), ((List.replicate (a.length) (Route.mk (Name.mk ([])) 0 0)) : List Route), 0) (fun | (a1, a0, i) => ((i ≤ a.length) ∧ (a0.length = a.length) ∧ JE n a0 ∧ (abl a 0 ((List.replicate (a.length) (Route.mk (Name.mk ([])) 0 0)) : List Route) = abl (a.drop i) i a0), a.length - i, [(4, .v (vI i))], [], [(7, ⟨3, p1, a.length, (a.length), a1⟩)], [(1, MF.ol a1 (a0 : List Route))])) ⟨zl, τ5, (afv (An (adf (α := Str)) (An (i6 0) (i6 0)))), Z⟩ [3, 0] [] [0] [0, 1] ?_
 rintro ⟨a1, a0, i⟩ ⟨v1, v2, v3, v4⟩
 refine yKD 11 ?_ ?_ <;> intro h1 ag
 have a6 : i < a.length := τ0
 obtain ⟨e1, a4⟩ := gE a6
 have ab := okE a2 a4
 refine yI 0 i a6 ?_
 rintro ac rfl
 refine zL 0 2 e1 a4 ?_
 rintro ⟨⟨p2, c1⟩, ⟨⟩, ⟨⟩⟩
 refine CF 3 Z Z Z Z Z O Z (fun w γ => f379 n τ0 e1 (γ.q 2 Z) ab) ?_
 rintro ⟨⟨p3, c2⟩, ⟨⟩, ⟨⟩⟩ a9
 have a5 : i < a.length := τ3
 refine zR 7 i a5 ?_
 rintro ad rfl
 have a7 : i < a0.length := τ3
 obtain ⟨e2, a3⟩ := gE a7
 have ae : ok n e2 := v3 _ (List.mem_of_getElem? a3)
 refine zO (α := Route) (e := e2) 7 1 5 i a3 ?_
 rintro A1 B1 ⟨⟨p4, c3⟩, ⟨⟩, ⟨⟩⟩ aa af
 refine zS 7 aa a5 ?_
 refine SA ?_
 refine R0 ?_
 refine WX.turn [4, 7, 8] 9 Z (fun h hs => aej (α := Route) (e := (aao e1)) (x := ((p3, c2), (), ())) a7 hs) Z ?_
 refine zU [9] 1 ?_
 exact IT (_, ((a0.set i (aao e1)) : List Route), i + 1) ⟨τ0, τ2, (aef v3 (show ok n ((aao e1) : Route) from a9)), (by rw [v4, acx a4]; simp only [abl, a3, cT, cF])⟩ τ1 [0, 1]
 have a8 := v4.trans (show _ = (a0 : List Route) by rw [dn (show a.length ≤ i by omega)]; simp only [abl, cT, cF])
 refine yE 7 1 10 (hn := (show a.length = a0.length from by omega)) ?_
 refine SL 2 a0.length ?_
 refine SL 22 a0.length ?_
 refine SL 3 a0.length ?_
 rw [show acf a = a0 by simp only [acf, a8, cT, cF]]
 exact zX [11] (p1, (a.length)) (ada τ0 v3 : ok n (a0 : List Route))
theorem f380 (hn : n + 0 ≤ 9) (a : Measurement) (N0 : Rd w K0 M0 a.pfx.parts) (a0 : ok n a) :
 DP 380 #[.agg #[vS K0 a.pfx.parts M0, vI a.face, vI a.failures]] w (pA w n (aap a)) := by
 have hb := bS0 hn
 refine EN Tryz.func380 Z (aS1 N0) ?_
 refine KF Z 1 Z Z Z Z Z O Z (fun w γ => f182 n τ0 a.pfx (γ.q 0 Z) ((ae3 a0).1)) ?_
 rintro ⟨p1, c1⟩ a1
 rw [show aap a = (Measurement.mk (a0y a.pfx) a.face a.failures) by simp only [aap, cT, cF]]
 exact yX [2] ((p1, c1), (), ()) (An a1 (An (ae3 a0).2.1 (ae3 a0).2.2))
theorem f316 (hn : n + 0 ≤ 9) {a : List Measurement} (N0 : Rd w K0 M0 a) (a2 : ok n a) :
 DP 316 #[vS K0 a M0] w (pS w n (acg a)) := by
 have hb := bS0 hn
 refine EN Tryz.func316 Z (aS1 N0) ?_
 have r1 := (okl a2).1
 refine R0 ?_
 refine WX.mkS (a.length) ttOk Z Z Z Z Z Z Z τ0 τ0 Z fun p1 => ?_
 refine WX.free 1 (MF.ol (zrep (a.length) [.slice none (0) 0, .int .i64 (0), .int .i64 (0)]) ((List.replicate (a.length) (Measurement.mk (Name.mk ([])) 0 0)) : List Measurement)) (afq (α := Measurement) (z0 := (Measurement.mk (Name.mk ([])) 0 0)) (x0 := ((none, 0), (), ())) Z (adq (aeo _ _) trivial) _) ?_
 refine LM Z ((zrep (a.length) [.slice none (0) 0, .int .i64 (0), .int .i64 (0)]), ((List.replicate (a.length) (Measurement.mk (Name.mk ([])) 0 0)) : List Measurement), 0) (fun | (a1, a0, i) => ((i ≤ a.length) ∧ (a0.length = a.length) ∧ JE n a0 ∧ (abm a 0 ((List.replicate (a.length) (Measurement.mk (Name.mk ([])) 0 0)) : List Measurement) = abm (a.drop i) i a0), a.length - i, [(4, .v (vI i))], [], [(7, ⟨3, p1, a.length, (a.length), a1⟩)], [(1, MF.ol a1 (a0 : List Measurement))])) ⟨zl, τ5, (afv (An (adf (α := Str)) (An (i6 0) (i6 0)))), Z⟩ [3, 0] [] [0] [0, 1] ?_
 rintro ⟨a1, a0, i⟩ ⟨v1, v2, v3, v4⟩
 refine yKD 11 ?_ ?_ <;> intro h1 ag
 have a6 : i < a.length := τ0
 obtain ⟨e1, a4⟩ := gE a6
 have ab := okE a2 a4
 refine yI 0 i a6 ?_
 rintro ac rfl
 refine zL 0 2 e1 a4 ?_
 rintro ⟨⟨p2, c1⟩, ⟨⟩, ⟨⟩⟩
 refine CF 3 Z Z Z Z Z O Z (fun w γ => f380 n τ0 e1 (γ.q 2 Z) ab) ?_
 rintro ⟨⟨p3, c2⟩, ⟨⟩, ⟨⟩⟩ a9
 have a5 : i < a.length := τ3
 refine zR 7 i a5 ?_
 rintro ad rfl
 have a7 : i < a0.length := τ3
 obtain ⟨e2, a3⟩ := gE a7
 have ae : ok n e2 := v3 _ (List.mem_of_getElem? a3)
 refine zO (α := Measurement) (e := e2) 7 1 5 i a3 ?_
 rintro A1 B1 ⟨⟨p4, c3⟩, ⟨⟩, ⟨⟩⟩ aa af
 refine zS 7 aa a5 ?_
 refine SA ?_
 refine R0 ?_
 refine WX.turn [4, 7, 8] 9 Z (fun h hs => aej (α := Measurement) (e := (aap e1)) (x := ((p3, c2), (), ())) a7 hs) Z ?_
 refine zU [9] 1 ?_
 exact IT (_, ((a0.set i (aap e1)) : List Measurement), i + 1) ⟨τ0, τ2, (aef v3 (show ok n ((aap e1) : Measurement) from a9)), (by rw [v4, acx a4]; simp only [abm, a3, cT, cF])⟩ τ1 [0, 1]
 have a8 := v4.trans (show _ = (a0 : List Measurement) by rw [dn (show a.length ≤ i by omega)]; simp only [abm, cT, cF])
 refine yE 7 1 10 (hn := (show a.length = a0.length from by omega)) ?_
 refine SL 2 a0.length ?_
 refine SL 22 a0.length ?_
 refine SL 3 a0.length ?_
 rw [show acg a = a0 by simp only [acg, a8, cT, cF]]
 exact zX [11] (p1, (a.length)) (ada τ0 v3 : ok n (a0 : List Measurement))
theorem f231 (hn : n + 0 ≤ 9) (a : NodeP) (N0 : Rd w K0 M0 a.locl) (N1 : Rd w K1 M1 a.cache.entries) (N2 : Rd w K2 M2 a.pending) (N3 : Rd w K3 M3 a.seen) (N4 : Rd w K4 M4 a.routes) (N5 : Rd w K5 M5 a.measurements) (a0 : ok n a) :
 DP 231 #[apk a K0 M0 K1 M1 K2 M2 K3 M3 K4 M4 K5 M5] w (pA w n (aaq a)) := by
 have hb := bS0 hn
 refine EN Tryz.func231 Z (aS6 N0 N1 N2 N3 N4 N5) ?_
 refine KF Z 6 Z Z Z Z Z O Z (fun w γ => f80 n τ0 (γ.q 0 Z) ((ad6 a0).1)) ?_
 rintro ⟨p1, c1⟩ a2
 refine KF Z 8 Z Z Z Z Z O Z (fun w γ => f312 n τ0 a.cache (γ.q 1 Z) ((ad6 a0).2.1)) ?_
 rintro ⟨⟨⟩, ⟨p2, c2⟩⟩ a3
 refine KF Z 10 Z Z Z Z Z O Z (fun w γ => f313 n τ0 (γ.q 2 Z) ((ad6 a0).2.2.1)) ?_
 rintro ⟨p3, c3⟩ a6
 refine KF Z 12 Z Z Z Z Z O Z (fun w γ => f314 n τ0 (γ.q 3 Z) ((ad6 a0).2.2.2.1)) ?_
 rintro ⟨p4, c4⟩ a4
 dsimp only
 refine KF Z 14 Z Z Z Z Z O Z (fun w γ => f315 n τ0 (γ.q 4 Z) ((ad6 a0).2.2.2.2.1)) ?_
 rintro ⟨p5, c5⟩ a1
 dsimp only
 refine KF Z 16 Z Z Z Z Z O Z (fun w γ => f316 n τ0 (γ.q 5 Z) ((ad6 a0).2.2.2.2.2.1)) ?_
 rintro ⟨p6, c6⟩ a5
 dsimp only
 rw [show aaq a = (NodeP.mk (a7i a.locl) (aca a.cache) (acd a.pending) (ace a.seen) (acf a.routes) (acg a.measurements) a.dropped) by simp only [aaq, cT, cF]]
 exact yX [7, 9, 11, 13, 15, 17] ((p1, c1), ((), (p2, c2)), (p3, c3), (p4, c4), (p5, c5), (p6, c6), ()) (An a2 (An a3 (An a6 (An a4 (An a1 (An a5 (ad6 a0).2.2.2.2.2.2))))))
theorem f119 (hn : n + 0 ≤ 9) {a : List NodeP} (N0 : Rd w K0 M0 a) (a2 : ok n a) :
 DP 119 #[vS K0 a M0] w (pS w n (ach a)) := by
 have hb := bS0 hn
 refine EN Tryz.func119 Z (aS1 N0) ?_
 have r1 := (okl a2).1
 refine R0 ?_
 refine WX.mkS (a.length) ttOk Z Z Z Z Z Z Z τ0 τ0 Z fun p1 => ?_
 refine WX.free 1 (MF.ol (zrep (a.length) [.slice none (0) 0, .int .i64 (0), .slice none (0) 0, .slice none (0) 0, .slice none (0) 0, .slice none (0) 0, .slice none (0) 0, .int .i64 (0)]) ((List.replicate (a.length) (NodeP.mk ([]) (ContentStore.mk 0 ([])) ([]) ([]) ([]) ([]) 0)) : List NodeP)) (afq (α := NodeP) (z0 := (NodeP.mk ([]) (ContentStore.mk 0 ([])) ([]) ([]) ([]) ([]) 0)) (x0 := ((none, 0), ((), (none, 0)), (none, 0), (none, 0), (none, 0), (none, 0), ())) Z (adq (aeo _ _) (adq (aeo _ _) (adq (aeo _ _) (adq (aeo _ _) (adq (aeo _ _) (adq (aeo _ _) trivial)))))) _) ?_
 refine LM Z ((zrep (a.length) [.slice none (0) 0, .int .i64 (0), .slice none (0) 0, .slice none (0) 0, .slice none (0) 0, .slice none (0) 0, .slice none (0) 0, .int .i64 (0)]), ((List.replicate (a.length) (NodeP.mk ([]) (ContentStore.mk 0 ([])) ([]) ([]) ([]) ([]) 0)) : List NodeP), 0) (fun | (a1, a0, i) => ((i ≤ a.length) ∧ (a0.length = a.length) ∧ JE n a0 ∧ (abn a 0 ((List.replicate (a.length) (NodeP.mk ([]) (ContentStore.mk 0 ([])) ([]) ([]) ([]) ([]) 0)) : List NodeP) = abn (a.drop i) i a0), a.length - i, [(4, .v (vI i))], [], [(7, ⟨8, p1, a.length, (a.length), a1⟩)], [(1, MF.ol a1 (a0 : List NodeP))])) ⟨zl, τ5, (afv (An (adf (α := DataP)) (An (An (i6 0) (adf (α := CacheEntry))) (An (adf (α := PendingInterest)) (An (adf (α := SeenNonce)) (An (adf (α := Route)) (An (adf (α := Measurement)) (i6 0)))))))), Z⟩ [3, 0] [] [0] [0, 1] ?_
 rintro ⟨a1, a0, i⟩ ⟨v1, v2, v3, v4⟩
 refine yKD 11 ?_ ?_ <;> intro h1 b1
 have a6 : i < a.length := τ0
 obtain ⟨e1, a4⟩ := gE a6
 have ad := okE a2 a4
 refine yI 0 i a6 ?_
 rintro ak rfl
 refine zL 0 2 e1 a4 ?_
 rintro ⟨⟨p2, c1⟩, ⟨⟨⟩, ⟨p3, c2⟩⟩, ⟨p4, c3⟩, ⟨p5, c4⟩, ⟨p6, c5⟩, ⟨p7, c6⟩, ⟨⟩⟩
 refine CF 8 Z Z Z Z Z O Z (fun w γ => f231 n τ0 e1 (γ.q 2 Z) (γ.q 3 Z) (γ.q 4 Z) (γ.q 5 Z) (γ.q 6 Z) (γ.q 7 Z) ad) ?_
 rintro ⟨⟨p8, c7⟩, ⟨⟨⟩, ⟨p9, c8⟩⟩, ⟨ae, c9⟩, ⟨ai, ah⟩, ⟨af, ag⟩, ⟨ac, a9⟩, ⟨⟩⟩ aa
 have a5 : i < a.length := τ3
 refine zR 7 i a5 ?_
 rintro aw rfl
 have a7 : i < a0.length := τ3
 obtain ⟨e2, a3⟩ := gE a7
 have ax : ok n e2 := v3 _ (List.mem_of_getElem? a3)
 refine zO (α := NodeP) (e := e2) 7 1 20 i a3 ?_
 rintro A1 B1 ⟨⟨av, au⟩, ⟨⟨⟩, ⟨ay, ao⟩⟩, ⟨ar, aj⟩, ⟨aq, al⟩, ⟨ap, az⟩, ⟨an, am⟩, ⟨⟩⟩ ab b0
 refine zS 7 ab a5 ?_
 refine SA ?_
 refine R0 ?_
 refine WX.turn [14, 15, 16, 17, 18, 19, 32, 33] 34 Z (fun h hs => aej (α := NodeP) (e := (aaq e1)) (x := ((p8, c7), ((), (p9, c8)), (ae, c9), (ai, ah), (af, ag), (ac, a9), ())) a7 hs) Z ?_
 refine zU [34] 1 ?_
 exact IT (_, ((a0.set i (aaq e1)) : List NodeP), i + 1) ⟨τ0, τ2, (aef v3 (show ok n ((aaq e1) : NodeP) from aa)), (by rw [v4, acx a4]; simp only [abn, a3, cT, cF])⟩ τ1 [0, 1]
 have a8 := v4.trans (show _ = (a0 : List NodeP) by rw [dn (show a.length ≤ i by omega)]; simp only [abn, cT, cF])
 refine yE 7 1 35 (hn := (show a.length = a0.length from by omega)) ?_
 refine SL 2 a0.length ?_
 refine SL 22 a0.length ?_
 refine SL 3 a0.length ?_
 rw [show ach a = a0 by simp only [ach, a8, cT, cF]]
 exact zX [36] (p1, (a.length)) (ada τ0 v3 : ok n (a0 : List NodeP))
theorem f120 (hn : n + 0 ≤ 9) {a : List Int} (N0 : Rd w K0 M0 a) (a2 : ok n a) :
 DP 120 #[vS K0 a M0] w (pS w n (aci a)) := by
 have hb := bS0 hn
 refine EN Tryz.func120 Z (aS1 N0) ?_
 have r1 := (okl a2).1
 refine R0 ?_
 refine WX.mkS (a.length) ttOk Z Z Z Z Z Z Z τ0 τ0 Z fun p1 => ?_
 refine FZ 1 (afq (α := Int) (z0 := 0) (x0 := ()) Z trivial (a.length)) ?_
 refine LM Z ((zrep (a.length) [.int .i64 (0)]), ((List.replicate (a.length) 0) : List Int), 0) (fun | (a1, a0, i) => ((i ≤ a.length) ∧ (a0.length = a.length) ∧ JE n a0 ∧ (abo a 0 ((List.replicate (a.length) 0) : List Int) = abo (a.drop i) i a0), a.length - i, [(4, .v (vI i))], [], [(7, ⟨1, p1, a.length, (a.length), a1⟩)], [(1, MF.ol a1 (a0 : List Int))])) ⟨zl, τ5, (afv (i6 0)), Z⟩ [3, 0] [] [0] [0, 1] ?_
 rintro ⟨a1, a0, i⟩ ⟨v1, v2, v3, v4⟩
 refine yKD 11 ?_ ?_ <;> intro h1 af
 have a6 : i < a.length := τ0
 obtain ⟨e1, a4⟩ := gE a6
 have aa := okE a2 a4
 refine yI 0 i a6 ?_
 rintro ab rfl
 refine zL 0 2 e1 a4 ?_
 rintro ⟨⟩
 have a5 : i < a.length := τ3
 refine zR 7 i a5 ?_
 rintro ac rfl
 have a7 : i < a0.length := τ3
 obtain ⟨e2, a3⟩ := gE a7
 have ad : ok n e2 := v3 _ (List.mem_of_getElem? a3)
 refine zO (α := Int) (e := e2) 7 1 2 i a3 ?_
 rintro A1 B1 ⟨⟩ a9 ae
 refine zS 7 a9 a5 ?_
 refine SA ?_
 refine R0 ?_
 refine WX.turn [2, 3] 4 Z (fun h hs => aej (α := Int) (e := e1) (x := ()) a7 hs) Z ?_
 refine zU [4] 1 ?_
 exact IT (_, ((a0.set i e1) : List Int), i + 1) ⟨τ0, τ2, (aef v3 (show ok n (e1 : Int) from aa)), (by rw [v4, acx a4]; simp only [abo, a3, cT, cF])⟩ τ1 [0, 1]
 have a8 := v4.trans (show _ = (a0 : List Int) by rw [dn (show a.length ≤ i by omega)]; simp only [abo, cT, cF])
 refine yE 7 1 5 (hn := (show a.length = a0.length from by omega)) ?_
 refine SL 2 a0.length ?_
 refine SL 21 a0.length ?_
 refine SL 3 a0.length ?_
 rw [show aci a = a0 by simp only [aci, a8, cT, cF]]
 exact zX [6] (p1, (a.length)) (ada τ0 v3 : ok n (a0 : List Int))
theorem f317 (hn : n + 0 ≤ 9) (a : Interest) (N0 : Rd w K0 M0 a.name.parts) (a0 : ok n a) :
 DP 317 #[ai1 a K0 M0] w (pA w n (acj a)) := by
 have hb := bS0 hn
 refine EN Tryz.func317 Z (aS1 N0) ?_
 refine KF Z 1 Z Z Z Z Z O Z (fun w γ => f182 n τ0 a.name (γ.q 0 Z) ((aep a0).1)) ?_
 rintro ⟨p1, c1⟩ a1
 rw [show acj a = (Interest.mk (a0y a.name) a.nonce a.hopLimit a.lifetime) by simp only [acj, cT, cF]]
 exact yX [2] ((p1, c1), (), (), ()) (An a1 (An (aep a0).2.1 (An (aep a0).2.2.1 (aep a0).2.2.2)))
theorem f232 (hn : n + 0 ≤ 9) (a : PacketInFlight) (N0 : Rd w K0 M0 a.interest.name.parts) (N1 : Rd w K1 M1 a.data.name.parts) (N2 : Rd w K2 M2 a.data.content) (N3 : Rd w K3 M3 a.data.keyName.parts) (a0 : ok n a) :
 DP 232 #[afm a K0 M0 K1 M1 K2 M2 K3 M3] w (pA w n (aar a)) := by
 have hb := bS0 hn
 refine EN Tryz.func232 Z (aS4 N0 N1 N2 N3) ?_
 refine KF Z 4 Z Z Z Z Z O Z (fun w γ => f317 n τ0 a.interest (γ.q 0 Z) ((ad5 a0).2.2.2.1)) ?_
 rintro ⟨⟨p1, c1⟩, ⟨⟩, ⟨⟩, ⟨⟩⟩ a1
 refine KF Z 6 Z Z Z Z Z O Z (fun w γ => f183 n τ0 a.data (γ.q 1 Z) (γ.q 2 Z) (γ.q 3 Z) ((ad5 a0).2.2.2.2)) ?_
 rintro ⟨⟨p2, c2⟩, ⟨p3, c3⟩, ⟨p4, c4⟩, ⟨⟩, ⟨⟩⟩ a2
 rw [show aar a = (PacketInFlight.mk a.to a.face a.isInterest (acj a.interest) (a35 a.data)) by simp only [aar, cT, cF]]
 exact yX [5, 9, 10, 11] ((), (), (), ((p1, c1), (), (), ()), ((p2, c2), (p3, c3), (p4, c4), (), ())) (An (ad5 a0).1 (An (ad5 a0).2.1 (An trivial (An a1 a2))))
theorem f121 (hn : n + 0 ≤ 9) {a : List PacketInFlight} (N0 : Rd w K0 M0 a) (a2 : ok n a) :
 DP 121 #[vS K0 a M0] w (pS w n (ack a)) := by
 have hb := bS0 hn
 refine EN Tryz.func121 Z (aS1 N0) ?_
 have r1 := (okl a2).1
 refine R0 ?_
 refine WX.mkS (a.length) ttOk Z Z Z Z Z Z Z τ0 τ0 Z fun p1 => ?_
 refine WX.free 1 (MF.ol (zrep (a.length) [.int .i64 (0), .int .i64 (0), .bool false, .slice none (0) 0, .int .i64 (0), .int .i64 (0), .int .i64 (0), .slice none (0) 0, .slice none (0) 0, .slice none (0) 0, .int .i64 (0), .int .i64 (0)]) ((List.replicate (a.length) (PacketInFlight.mk 0 0 false (Interest.mk (Name.mk ([])) 0 0 0) (DataP.mk (Name.mk ([])) ([]) (Name.mk ([])) 0 0))) : List PacketInFlight)) (afq (α := PacketInFlight) (z0 := (PacketInFlight.mk 0 0 false (Interest.mk (Name.mk ([])) 0 0 0) (DataP.mk (Name.mk ([])) ([]) (Name.mk ([])) 0 0))) (x0 := ((), (), (), ((none, 0), (), (), ()), ((none, 0), (none, 0), (none, 0), (), ()))) Z (adq (aeo _ _) (adq (aeo _ _) (adq (aeo _ _) (adq (aeo _ _) trivial)))) _) ?_
 refine LM Z ((zrep (a.length) [.int .i64 (0), .int .i64 (0), .bool false, .slice none (0) 0, .int .i64 (0), .int .i64 (0), .int .i64 (0), .slice none (0) 0, .slice none (0) 0, .slice none (0) 0, .int .i64 (0), .int .i64 (0)]), ((List.replicate (a.length) (PacketInFlight.mk 0 0 false (Interest.mk (Name.mk ([])) 0 0 0) (DataP.mk (Name.mk ([])) ([]) (Name.mk ([])) 0 0))) : List PacketInFlight), 0) (fun | (a1, a0, i) => ((i ≤ a.length) ∧ (a0.length = a.length) ∧ JE n a0 ∧ (abp a 0 ((List.replicate (a.length) (PacketInFlight.mk 0 0 false (Interest.mk (Name.mk ([])) 0 0 0) (DataP.mk (Name.mk ([])) ([]) (Name.mk ([])) 0 0))) : List PacketInFlight) = abp (a.drop i) i a0), a.length - i, [(4, .v (vI i))], [], [(7, ⟨12, p1, a.length, (a.length), a1⟩)], [(1, MF.ol a1 (a0 : List PacketInFlight))])) ⟨zl, τ5, (afv (An (i6 0) (An (i6 0) (An trivial (An (An (adf (α := Str)) (An (i6 0) (An (i6 0) (i6 0)))) (An (adf (α := Str)) (An (adf (α := UInt8)) (An (adf (α := Str)) (An (i6 0) (i6 0)))))))))), Z⟩ [3, 0] [] [0] [0, 1] ?_
 rintro ⟨a1, a0, i⟩ ⟨v1, v2, v3, v4⟩
 refine yKD 11 ?_ ?_ <;> intro h1 an
 have a6 : i < a.length := τ0
 obtain ⟨e1, a4⟩ := gE a6
 have ab := okE a2 a4
 refine yI 0 i a6 ?_
 rintro ad rfl
 refine zL 0 2 e1 a4 ?_
 rintro ⟨⟨⟩, ⟨⟩, ⟨⟩, ⟨⟨p2, c1⟩, ⟨⟩, ⟨⟩, ⟨⟩⟩, ⟨⟨p3, c2⟩, ⟨p4, c3⟩, ⟨p5, c4⟩, ⟨⟩, ⟨⟩⟩⟩
 refine CF 6 Z Z Z Z Z O Z (fun w γ => f232 n τ0 e1 (γ.q 2 Z) (γ.q 3 Z) (γ.q 4 Z) (γ.q 5 Z) ab) ?_
 rintro ⟨⟨⟩, ⟨⟩, ⟨⟩, ⟨⟨p6, c5⟩, ⟨⟩, ⟨⟩, ⟨⟩⟩, ⟨⟨p7, c6⟩, ⟨p8, c7⟩, ⟨p9, c8⟩, ⟨⟩, ⟨⟩⟩⟩ a9
 have a5 : i < a.length := τ3
 refine zR 7 i a5 ?_
 rintro ak rfl
 have a7 : i < a0.length := τ3
 obtain ⟨e2, a3⟩ := gE a7
 have al : ok n e2 := v3 _ (List.mem_of_getElem? a3)
 refine zO (α := PacketInFlight) (e := e2) 7 1 14 i a3 ?_
 rintro A1 B1 ⟨⟨⟩, ⟨⟩, ⟨⟩, ⟨⟨af, c9⟩, ⟨⟩, ⟨⟩, ⟨⟩⟩, ⟨⟨aj, ai⟩, ⟨ag, ah⟩, ⟨ae, ac⟩, ⟨⟩, ⟨⟩⟩⟩ aa am
 refine zS 7 aa a5 ?_
 refine SA ?_
 refine R0 ?_
 refine WX.turn [10, 11, 12, 13, 22, 23] 24 Z (fun h hs => aej (α := PacketInFlight) (e := (aar e1)) (x := ((), (), (), ((p6, c5), (), (), ()), ((p7, c6), (p8, c7), (p9, c8), (), ()))) a7 hs) Z ?_
 refine zU [24] 1 ?_
 exact IT (_, ((a0.set i (aar e1)) : List PacketInFlight), i + 1) ⟨τ0, τ2, (aef v3 (show ok n ((aar e1) : PacketInFlight) from a9)), (by rw [v4, acx a4]; simp only [abp, a3, cT, cF])⟩ τ1 [0, 1]
 have a8 := v4.trans (show _ = (a0 : List PacketInFlight) by rw [dn (show a.length ≤ i by omega)]; simp only [abp, cT, cF])
 refine yE 7 1 25 (hn := (show a.length = a0.length from by omega)) ?_
 refine SL 2 a0.length ?_
 refine SL 22 a0.length ?_
 refine SL 3 a0.length ?_
 rw [show ack a = a0 by simp only [ack, a8, cT, cF]]
 exact zX [26] (p1, (a.length)) (ada τ0 v3 : ok n (a0 : List PacketInFlight))
theorem f233 (hn : n + 0 ≤ 9) (a : Consumer) (N0 : Rd w K0 M0 a.name.parts) (N1 : Rd w K1 M1 a.data.name.parts) (N2 : Rd w K2 M2 a.data.content) (N3 : Rd w K3 M3 a.data.keyName.parts) (a0 : ok n a) :
 DP 233 #[ahx a K0 M0 K1 M1 K2 M2 K3 M3] w (pA w n (aas a)) := by
 have hb := bS0 hn
 refine EN Tryz.func233 Z (aS4 N0 N1 N2 N3) ?_
 refine KF Z 4 Z Z Z Z Z O Z (fun w γ => f182 n τ0 a.name (γ.q 0 Z) ((adp a0).2.2.1)) ?_
 rintro ⟨p1, c1⟩ a1
 refine KF Z 6 Z Z Z Z Z O Z (fun w γ => f183 n τ0 a.data (γ.q 1 Z) (γ.q 2 Z) (γ.q 3 Z) ((adp a0).2.2.2.2.2.2)) ?_
 rintro ⟨⟨p2, c2⟩, ⟨p3, c3⟩, ⟨p4, c4⟩, ⟨⟩, ⟨⟩⟩ a2
 rw [show aas a = (Consumer.mk a.node a.index (a0y a.name) a.attempts a.wait a.satisfied (a35 a.data)) by simp only [aas, cT, cF]]
 exact yX [5, 9, 10, 11] ((), (), (p1, c1), (), (), (), ((p2, c2), (p3, c3), (p4, c4), (), ())) (An (adp a0).1 (An (adp a0).2.1 (An a1 (An (adp a0).2.2.2.1 (An (adp a0).2.2.2.2.1 (An trivial a2))))))
theorem f122 (hn : n + 0 ≤ 9) {a : List Consumer} (N0 : Rd w K0 M0 a) (a2 : ok n a) :
 DP 122 #[vS K0 a M0] w (pS w n (acl a)) := by
 have hb := bS0 hn
 refine EN Tryz.func122 Z (aS1 N0) ?_
 have r1 := (okl a2).1
 refine R0 ?_
 refine WX.mkS (a.length) ttOk Z Z Z Z Z Z Z τ0 τ0 Z fun p1 => ?_
 refine WX.free 1 (MF.ol (zrep (a.length) [.int .i64 (0), .int .i64 (0), .slice none (0) 0, .int .i64 (0), .int .i64 (0), .bool false, .slice none (0) 0, .slice none (0) 0, .slice none (0) 0, .int .i64 (0), .int .i64 (0)]) ((List.replicate (a.length) (Consumer.mk 0 0 (Name.mk ([])) 0 0 false (DataP.mk (Name.mk ([])) ([]) (Name.mk ([])) 0 0))) : List Consumer)) (afq (α := Consumer) (z0 := (Consumer.mk 0 0 (Name.mk ([])) 0 0 false (DataP.mk (Name.mk ([])) ([]) (Name.mk ([])) 0 0))) (x0 := ((), (), (none, 0), (), (), (), ((none, 0), (none, 0), (none, 0), (), ()))) Z (adq (aeo _ _) (adq (aeo _ _) (adq (aeo _ _) (adq (aeo _ _) trivial)))) _) ?_
 refine LM Z ((zrep (a.length) [.int .i64 (0), .int .i64 (0), .slice none (0) 0, .int .i64 (0), .int .i64 (0), .bool false, .slice none (0) 0, .slice none (0) 0, .slice none (0) 0, .int .i64 (0), .int .i64 (0)]), ((List.replicate (a.length) (Consumer.mk 0 0 (Name.mk ([])) 0 0 false (DataP.mk (Name.mk ([])) ([]) (Name.mk ([])) 0 0))) : List Consumer), 0) (fun | (a1, a0, i) => ((i ≤ a.length) ∧ (a0.length = a.length) ∧ JE n a0 ∧ (abq a 0 ((List.replicate (a.length) (Consumer.mk 0 0 (Name.mk ([])) 0 0 false (DataP.mk (Name.mk ([])) ([]) (Name.mk ([])) 0 0))) : List Consumer) = abq (a.drop i) i a0), a.length - i, [(4, .v (vI i))], [], [(7, ⟨11, p1, a.length, (a.length), a1⟩)], [(1, MF.ol a1 (a0 : List Consumer))])) ⟨zl, τ5, (afv (An (i6 0) (An (i6 0) (An (adf (α := Str)) (An (i6 0) (An (i6 0) (An trivial (An (adf (α := Str)) (An (adf (α := UInt8)) (An (adf (α := Str)) (An (i6 0) (i6 0)))))))))))), Z⟩ [3, 0] [] [0] [0, 1] ?_
 rintro ⟨a1, a0, i⟩ ⟨v1, v2, v3, v4⟩
 refine yKD 11 ?_ ?_ <;> intro h1 an
 have a6 : i < a.length := τ0
 obtain ⟨e1, a4⟩ := gE a6
 have ab := okE a2 a4
 refine yI 0 i a6 ?_
 rintro ad rfl
 refine zL 0 2 e1 a4 ?_
 rintro ⟨⟨⟩, ⟨⟩, ⟨p2, c1⟩, ⟨⟩, ⟨⟩, ⟨⟩, ⟨⟨p3, c2⟩, ⟨p4, c3⟩, ⟨p5, c4⟩, ⟨⟩, ⟨⟩⟩⟩
 refine CF 6 Z Z Z Z Z O Z (fun w γ => f233 n τ0 e1 (γ.q 2 Z) (γ.q 3 Z) (γ.q 4 Z) (γ.q 5 Z) ab) ?_
 rintro ⟨⟨⟩, ⟨⟩, ⟨p6, c5⟩, ⟨⟩, ⟨⟩, ⟨⟩, ⟨⟨p7, c6⟩, ⟨p8, c7⟩, ⟨p9, c8⟩, ⟨⟩, ⟨⟩⟩⟩ a9
 have a5 : i < a.length := τ3
 refine zR 7 i a5 ?_
 rintro ak rfl
 have a7 : i < a0.length := τ3
 obtain ⟨e2, a3⟩ := gE a7
 have al : ok n e2 := v3 _ (List.mem_of_getElem? a3)
 refine zO (α := Consumer) (e := e2) 7 1 14 i a3 ?_
 rintro A1 B1 ⟨⟨⟩, ⟨⟩, ⟨af, c9⟩, ⟨⟩, ⟨⟩, ⟨⟩, ⟨⟨aj, ai⟩, ⟨ag, ah⟩, ⟨ae, ac⟩, ⟨⟩, ⟨⟩⟩⟩ aa am
 refine zS 7 aa a5 ?_
 refine SA ?_
 refine R0 ?_
 refine WX.turn [10, 11, 12, 13, 22, 23] 24 Z (fun h hs => aej (α := Consumer) (e := (aas e1)) (x := ((), (), (p6, c5), (), (), (), ((p7, c6), (p8, c7), (p9, c8), (), ()))) a7 hs) Z ?_
 refine zU [24] 1 ?_
 exact IT (_, ((a0.set i (aas e1)) : List Consumer), i + 1) ⟨τ0, τ2, (aef v3 (show ok n ((aas e1) : Consumer) from a9)), (by rw [v4, acx a4]; simp only [abq, a3, cT, cF])⟩ τ1 [0, 1]
 have a8 := v4.trans (show _ = (a0 : List Consumer) by rw [dn (show a.length ≤ i by omega)]; simp only [abq, cT, cF])
 refine yE 7 1 25 (hn := (show a.length = a0.length from by omega)) ?_
 refine SL 2 a0.length ?_
 refine SL 22 a0.length ?_
 refine SL 3 a0.length ?_
 rw [show acl a = a0 by simp only [acl, a8, cT, cF]]
 exact zX [26] (p1, (a.length)) (ada τ0 v3 : ok n (a0 : List Consumer))
theorem f37 (hn : n + 0 ≤ 9) (a : Network) (N0 : Rd w K0 M0 a.topology.links) (N1 : Rd w K1 M1 a.trust.keys) (N2 : Rd w K2 M2 a.trust.rules) (N3 : Rd w K3 M3 a.trust.anchors) (N4 : Rd w K4 M4 a.trust.certificates) (N5 : Rd w K5 M5 a.producers) (N6 : Rd w K6 M6 a.nodes) (N7 : Rd w K7 M7 a.failedLinks) (N8 : Rd w K8 M8 a.inFlight) (N9 : Rd w K9 M9 a.consumers) (a0 : ok n a) :
 DP 37 #[afp a K0 M0 K1 M1 K2 M2 K3 M3 K4 M4 K5 M5 K6 M6 K7 M7 K8 M8 K9 M9] w (pA w n (a04 a)) := by
 have hb := bS0 hn
 refine EN Tryz.func37 Z (aC 0 N0 (aC 1 N1 (aC 2 N2 (aC 3 N3 (aC 4 N4 (aC 5 N5 (aC 6 N6 (aC 7 N7 (aC 8 N8 (aC 9 N9 adc)))))))))) ?_
 refine KF Z 10 Z Z Z Z Z O Z (fun w γ => f23 n τ0 a.topology (γ.q 0 Z) ((acy a0).1)) ?_
 rintro ⟨⟨⟩, ⟨p1, c1⟩⟩ a2
 refine KF Z 12 Z Z Z Z Z O Z (fun w γ => f24 n τ0 a.trust (γ.q 1 Z) (γ.q 2 Z) (γ.q 3 Z) (γ.q 4 Z) ((acy a0).2.1)) ?_
 rintro ⟨⟨p2, c2⟩, ⟨p3, c3⟩, ⟨p4, c4⟩, ⟨p5, c5⟩⟩ a3
 dsimp only
 refine KF Z 20 Z Z Z Z Z O Z (fun w γ => f25 n τ0 (γ.q 5 Z) ((acy a0).2.2.1)) ?_
 rintro ⟨p6, c6⟩ a9
 dsimp only
 refine KF Z 22 Z Z Z Z Z O Z (fun w γ => f119 n τ0 (γ.q 6 Z) ((acy a0).2.2.2.1)) ?_
 rintro ⟨p7, c7⟩ a7
 dsimp only
 refine KF Z 24 Z Z Z Z Z O Z (fun w γ => f120 n τ0 (γ.q 7 Z) ((acy a0).2.2.2.2.2.1)) ?_
 rintro ⟨p8, c8⟩ a1
 dsimp only
 refine KF Z 26 Z Z Z Z Z O Z (fun w γ => f121 n τ0 (γ.q 8 Z) ((acy a0).2.2.2.2.2.2.1)) ?_
 rintro ⟨p9, c9⟩ a8
 dsimp only
 refine KF Z 28 Z Z Z Z Z O Z (fun w γ => f122 n τ0 (γ.q 9 Z) ((acy a0).2.2.2.2.2.2.2.1)) ?_
 rintro ⟨a4, a5⟩ a6
 dsimp only
 rw [show a04 a = (Network.mk (a06 a.topology) (a05 a.trust) (a07 a.producers) (ach a.nodes) a.downNodes (aci a.failedLinks) (ack a.inFlight) (acl a.consumers) a.now a.dropped) by simp only [a04, cT, cF]]
 exact yX [11, 16, 17, 18, 19, 21, 23, 25, 27, 29] (((), (p1, c1)), ((p2, c2), (p3, c3), (p4, c4), (p5, c5)), (p6, c6), (p7, c7), (), (p8, c8), (p9, c9), (a4, a5), (), ()) (An a2 (An a3 (An a9 (An a7 (An (acy a0).2.2.2.2.1 (An a1 (An a8 (An a6 (An (acy a0).2.2.2.2.2.2.2.2.1 (acy a0).2.2.2.2.2.2.2.2.2)))))))))
end Go.Proofs.YtpmejlbgjkiobaaGreat
namespace Go.Stp
def abr (k2 : Int) (out : Str) : Int × Str := if k2 > 0 then abr (i64.wrap (Int.tdiv k2 10)) ((bstr ([(toU8 (i64.wrap (48 + (Int.tmod k2 10))))])) ++ out) else (k2, out)
termination_by k2.toNat
decreasing_by exact apj ‹_›
def a53 (k : Int) : Str := bif decide (k ≤ 0) then (⟨#[109, 48]⟩ : Str) else match abr k (⟨#[]⟩ : Str) with | (k2, out) => ((⟨#[109]⟩ : Str) ++ out)
def a8l : Nat → Nat → (List Link) → Int → (List Link) × Int | 0, i, a2, k2 => (((a2) : List Link), k2) | m_ + 1, i, a2, k2 => match (a2)[i]? with | none => default | some e1 => a8l m_ (i + 1) (((a2.set i (Link.mk k2 (i64.wrap (k2 + 1))))) : List Link) (i64.wrap ((i64.wrap (k2 + 1)) + 1))
def a2n (a : (List Link)) (k : Int) : Int × (List Link) := match a8l ((a).length) 0 (a : List Link) k with | (a2, k2) => (k2, a2)
def a08 (a : Topology) (k : Int) : Int × Topology := (((a2n a.links k).1), (Topology.mk a.size ((a2n a.links k).2)))
def a8m : Nat → Nat → (List Str) → Int → (List Str) × Int | 0, i, a2, k2 => (((a2) : List Str), k2) | m_ + 1, i, a2, k2 => match (a2)[i]? with | none => default | some e1 => a8m m_ (i + 1) (((a2.set i (a53 k2))) : List Str) (i64.wrap (k2 + 1))
def a00 (a : (List Str)) (k : Int) : Int × (List Str) := match a8m ((a).length) 0 (a : List Str) k with | (a2, k2) => (k2, a2)
def a8n : Nat → Nat → (List Key) → Int → (List Key) × Int | 0, i, a2, k2 => (((a2) : List Key), k2) | m_ + 1, i, a2, k2 => match (a2)[i]? with | none => default | some e1 => a8n m_ (i + 1) (((a2.set i (Key.mk (Name.mk ((a00 e1.name.parts k2).2)) ((a00 e1.name.parts k2).1)))) : List Key) (i64.wrap (((a00 e1.name.parts k2).1) + 1))
def a12 (a : (List Key)) (k : Int) : Int × (List Key) := match a8n ((a).length) 0 (a : List Key) k with | (a2, k2) => (k2, a2)
def a8o : Nat → Nat → (List Rule) → Int → (List Rule) × Int | 0, i, a2, k2 => (((a2) : List Rule), k2) | m_ + 1, i, a2, k2 => match (a2)[i]? with | none => default | some e1 => a8o m_ (i + 1) (((a2.set i (Rule.mk (Pattern.mk ((a00 e1.dataPattern.parts k2).2)) (Pattern.mk ((a00 e1.keyPattern.parts ((a00 e1.dataPattern.parts k2).1)).2))))) : List Rule) ((a00 e1.keyPattern.parts ((a00 e1.dataPattern.parts k2).1)).1)
def a1d (a : (List Rule)) (k : Int) : Int × (List Rule) := match a8o ((a).length) 0 (a : List Rule) k with | (a2, k2) => (k2, a2)
def a8p : Nat → Nat → (List Name) → Int → (List Name) × Int | 0, i, a2, k2 => (((a2) : List Name), k2) | m_ + 1, i, a2, k2 => match (a2)[i]? with | none => default | some e1 => a8p m_ (i + 1) (((a2.set i (Name.mk ((a00 e1.parts k2).2)))) : List Name) ((a00 e1.parts k2).1)
def a1y (a : (List Name)) (k : Int) : Int × (List Name) := match a8p ((a).length) 0 (a : List Name) k with | (a2, k2) => (k2, a2)
def a8q : Nat → Nat → (List UInt8) → Int → (List UInt8) × Int | 0, i, a2, k2 => (((a2) : List UInt8), k2) | m_ + 1, i, a2, k2 => match (a2)[i]? with | none => default | some e1 => a8q m_ (i + 1) (((a2.set i (toU8 k2))) : List UInt8) (i64.wrap (k2 + 1))
def a03 (a : (List UInt8)) (k : Int) : Int × (List UInt8) := match a8q ((a).length) 0 (a : List UInt8) k with | (a2, k2) => (k2, a2)
def a8r : Nat → Nat → (List DataP) → Int → (List DataP) × Int | 0, i, a2, k2 => (((a2) : List DataP), k2) | m_ + 1, i, a2, k2 => match (a2)[i]? with | none => default | some e1 => a8r m_ (i + 1) (((a2.set i (DataP.mk (Name.mk ((a00 e1.name.parts k2).2)) ((a03 e1.content ((a00 e1.name.parts k2).1)).2) (Name.mk ((a00 e1.keyName.parts ((a03 e1.content ((a00 e1.name.parts k2).1)).1)).2)) ((a00 e1.keyName.parts ((a03 e1.content ((a00 e1.name.parts k2).1)).1)).1) (i64.wrap (((a00 e1.keyName.parts ((a03 e1.content ((a00 e1.name.parts k2).1)).1)).1) + 1))))) : List DataP) (i64.wrap ((i64.wrap (((a00 e1.keyName.parts ((a03 e1.content ((a00 e1.name.parts k2).1)).1)).1) + 1)) + 1))
def a0d (a : (List DataP)) (k : Int) : Int × (List DataP) := match a8r ((a).length) 0 (a : List DataP) k with | (a2, k2) => (k2, a2)
def a0a (a : TrustPolicy) (k : Int) : Int × TrustPolicy := (((a0d a.certificates ((a1y a.anchors ((a1d a.rules ((a12 a.keys k).1)).1)).1)).1), (TrustPolicy.mk ((a12 a.keys k).2) ((a1d a.rules ((a12 a.keys k).1)).2) ((a1y a.anchors ((a1d a.rules ((a12 a.keys k).1)).1)).2) ((a0d a.certificates ((a1y a.anchors ((a1d a.rules ((a12 a.keys k).1)).1)).1)).2)))
def a8s : Nat → Nat → (List TableEntry) → Int → (List TableEntry) × Int | 0, i, a2, k2 => (((a2) : List TableEntry), k2) | m_ + 1, i, a2, k2 => match (a2)[i]? with | none => default | some e1 => a8s m_ (i + 1) (((a2.set i (TableEntry.mk (Name.mk ((a00 e1.name.parts k2).2)) ((a00 e1.name.parts k2).1)))) : List TableEntry) (i64.wrap (((a00 e1.name.parts k2).1) + 1))
def a0h (a : (List TableEntry)) (k : Int) : Int × (List TableEntry) := match a8s ((a).length) 0 (a : List TableEntry) k with | (a2, k2) => (k2, a2)
def a8t : Nat → Nat → (List CacheEntry) → Int → (List CacheEntry) × Int | 0, i, a2, k2 => (((a2) : List CacheEntry), k2) | m_ + 1, i, a2, k2 => match (a2)[i]? with | none => default | some e1 => a8t m_ (i + 1) (((a2.set i (CacheEntry.mk (DataP.mk (Name.mk ((a00 e1.data.name.parts k2).2)) ((a03 e1.data.content ((a00 e1.data.name.parts k2).1)).2) (Name.mk ((a00 e1.data.keyName.parts ((a03 e1.data.content ((a00 e1.data.name.parts k2).1)).1)).2)) ((a00 e1.data.keyName.parts ((a03 e1.data.content ((a00 e1.data.name.parts k2).1)).1)).1) (i64.wrap (((a00 e1.data.keyName.parts ((a03 e1.data.content ((a00 e1.data.name.parts k2).1)).1)).1) + 1))) (i64.wrap ((i64.wrap (((a00 e1.data.keyName.parts ((a03 e1.data.content ((a00 e1.data.name.parts k2).1)).1)).1) + 1)) + 1))))) : List CacheEntry) (i64.wrap ((i64.wrap ((i64.wrap (((a00 e1.data.keyName.parts ((a03 e1.data.content ((a00 e1.data.name.parts k2).1)).1)).1) + 1)) + 1)) + 1))
def a0i (a : (List CacheEntry)) (k : Int) : Int × (List CacheEntry) := match a8t ((a).length) 0 (a : List CacheEntry) k with | (a2, k2) => (k2, a2)
def a8u : Nat → Nat → (List Requester) → Int → (List Requester) × Int | 0, i, a2, k2 => (((a2) : List Requester), k2) | m_ + 1, i, a2, k2 => match (a2)[i]? with | none => default | some e1 => a8u m_ (i + 1) (((a2.set i (Requester.mk k2 (i64.wrap (k2 + 1)) (i64.wrap ((i64.wrap (k2 + 1)) + 1))))) : List Requester) (i64.wrap ((i64.wrap ((i64.wrap (k2 + 1)) + 1)) + 1))
def a1j (a : (List Requester)) (k : Int) : Int × (List Requester) := match a8u ((a).length) 0 (a : List Requester) k with | (a2, k2) => (k2, a2)
def a8v : Nat → Nat → (List PendingInterest) → Int → (List PendingInterest) × Int | 0, i, a2, k2 => (((a2) : List PendingInterest), k2) | m_ + 1, i, a2, k2 => match (a2)[i]? with | none => default | some e1 => a8v m_ (i + 1) (((a2.set i (PendingInterest.mk (Name.mk ((a00 e1.name.parts k2).2)) ((a1j e1.requesters ((a00 e1.name.parts k2).1)).2) ((a1j e1.requesters ((a00 e1.name.parts k2).1)).1)))) : List PendingInterest) (i64.wrap (((a1j e1.requesters ((a00 e1.name.parts k2).1)).1) + 1))
def a0m (a : (List PendingInterest)) (k : Int) : Int × (List PendingInterest) := match a8v ((a).length) 0 (a : List PendingInterest) k with | (a2, k2) => (k2, a2)
def a8w : Nat → Nat → (List SeenNonce) → Int → (List SeenNonce) × Int | 0, i, a2, k2 => (((a2) : List SeenNonce), k2) | m_ + 1, i, a2, k2 => match (a2)[i]? with | none => default | some e1 => a8w m_ (i + 1) (((a2.set i (SeenNonce.mk (Name.mk ((a00 e1.name.parts k2).2)) ((a00 e1.name.parts k2).1)))) : List SeenNonce) (i64.wrap (((a00 e1.name.parts k2).1) + 1))
def a0n (a : (List SeenNonce)) (k : Int) : Int × (List SeenNonce) := match a8w ((a).length) 0 (a : List SeenNonce) k with | (a2, k2) => (k2, a2)
def a8x : Nat → Nat → (List Route) → Int → (List Route) × Int | 0, i, a2, k2 => (((a2) : List Route), k2) | m_ + 1, i, a2, k2 => match (a2)[i]? with | none => default | some e1 => a8x m_ (i + 1) (((a2.set i (Route.mk (Name.mk ((a00 e1.pfx.parts k2).2)) ((a00 e1.pfx.parts k2).1) (i64.wrap (((a00 e1.pfx.parts k2).1) + 1))))) : List Route) (i64.wrap ((i64.wrap (((a00 e1.pfx.parts k2).1) + 1)) + 1))
def a0z (a : (List Route)) (k : Int) : Int × (List Route) := match a8x ((a).length) 0 (a : List Route) k with | (a2, k2) => (k2, a2)
def a8y : Nat → Nat → (List Measurement) → Int → (List Measurement) × Int | 0, i, a2, k2 => (((a2) : List Measurement), k2) | m_ + 1, i, a2, k2 => match (a2)[i]? with | none => default | some e1 => a8y m_ (i + 1) (((a2.set i (Measurement.mk (Name.mk ((a00 e1.pfx.parts k2).2)) ((a00 e1.pfx.parts k2).1) (i64.wrap (((a00 e1.pfx.parts k2).1) + 1))))) : List Measurement) (i64.wrap ((i64.wrap (((a00 e1.pfx.parts k2).1) + 1)) + 1))
def a1k (a : (List Measurement)) (k : Int) : Int × (List Measurement) := match a8y ((a).length) 0 (a : List Measurement) k with | (a2, k2) => (k2, a2)
def a8z : Nat → Nat → (List NodeP) → Int → (List NodeP) × Int | 0, i, a2, k2 => (((a2) : List NodeP), k2) | m_ + 1, i, a2, k2 => match (a2)[i]? with | none => default | some e1 => a8z m_ (i + 1) (((a2.set i (NodeP.mk ((a0d e1.locl k2).2) (ContentStore.mk ((a0d e1.locl k2).1) ((a0i e1.cache.entries (i64.wrap (((a0d e1.locl k2).1) + 1))).2)) ((a0m e1.pending ((a0i e1.cache.entries (i64.wrap (((a0d e1.locl k2).1) + 1))).1)).2) ((a0n e1.seen ((a0m e1.pending ((a0i e1.cache.entries (i64.wrap (((a0d e1.locl k2).1) + 1))).1)).1)).2) ((a0z e1.routes ((a0n e1.seen ((a0m e1.pending ((a0i e1.cache.entries (i64.wrap (((a0d e1.locl k2).1) + 1))).1)).1)).1)).2) ((a1k e1.measurements ((a0z e1.routes ((a0n e1.seen ((a0m e1.pending ((a0i e1.cache.entries (i64.wrap (((a0d e1.locl k2).1) + 1))).1)).1)).1)).1)).2) ((a1k e1.measurements ((a0z e1.routes ((a0n e1.seen ((a0m e1.pending ((a0i e1.cache.entries (i64.wrap (((a0d e1.locl k2).1) + 1))).1)).1)).1)).1)).1)))) : List NodeP) (i64.wrap (((a1k e1.measurements ((a0z e1.routes ((a0n e1.seen ((a0m e1.pending ((a0i e1.cache.entries (i64.wrap (((a0d e1.locl k2).1) + 1))).1)).1)).1)).1)).1) + 1))
def a0l (a : (List NodeP)) (k : Int) : Int × (List NodeP) := match a8z ((a).length) 0 (a : List NodeP) k with | (a2, k2) => (k2, a2)
def a90 : Nat → Nat → (List Int) → Int → (List Int) × Int | 0, i, a2, k2 => (((a2) : List Int), k2) | m_ + 1, i, a2, k2 => match (a2)[i]? with | none => default | some e1 => a90 m_ (i + 1) (((a2.set i k2)) : List Int) (i64.wrap (k2 + 1))
def a0o (a : (List Int)) (k : Int) : Int × (List Int) := match a90 ((a).length) 0 (a : List Int) k with | (a2, k2) => (k2, a2)
def a91 : Nat → Nat → (List PacketInFlight) → Int → (List PacketInFlight) × Int | 0, i, a2, k2 => (((a2) : List PacketInFlight), k2) | m_ + 1, i, a2, k2 => match (a2)[i]? with | none => default | some e1 => a91 m_ (i + 1) (((a2.set i (PacketInFlight.mk k2 (i64.wrap (k2 + 1)) (Int.tmod (i64.wrap ((i64.wrap (k2 + 1)) + 1)) 3 == 0) (Interest.mk (Name.mk ((a00 e1.interest.name.parts (i64.wrap ((i64.wrap ((i64.wrap (k2 + 1)) + 1)) + 1))).2)) ((a00 e1.interest.name.parts (i64.wrap ((i64.wrap ((i64.wrap (k2 + 1)) + 1)) + 1))).1) (i64.wrap (((a00 e1.interest.name.parts (i64.wrap ((i64.wrap ((i64.wrap (k2 + 1)) + 1)) + 1))).1) + 1)) (i64.wrap ((i64.wrap (((a00 e1.interest.name.parts (i64.wrap ((i64.wrap ((i64.wrap (k2 + 1)) + 1)) + 1))).1) + 1)) + 1))) (DataP.mk (Name.mk ((a00 e1.data.name.parts (i64.wrap ((i64.wrap ((i64.wrap (((a00 e1.interest.name.parts (i64.wrap ((i64.wrap ((i64.wrap (k2 + 1)) + 1)) + 1))).1) + 1)) + 1)) + 1))).2)) ((a03 e1.data.content ((a00 e1.data.name.parts (i64.wrap ((i64.wrap ((i64.wrap (((a00 e1.interest.name.parts (i64.wrap ((i64.wrap ((i64.wrap (k2 + 1)) + 1)) + 1))).1) + 1)) + 1)) + 1))).1)).2) (Name.mk ((a00 e1.data.keyName.parts ((a03 e1.data.content ((a00 e1.data.name.parts (i64.wrap ((i64.wrap ((i64.wrap (((a00 e1.interest.name.parts (i64.wrap ((i64.wrap ((i64.wrap (k2 + 1)) + 1)) + 1))).1) + 1)) + 1)) + 1))).1)).1)).2)) ((a00 e1.data.keyName.parts ((a03 e1.data.content ((a00 e1.data.name.parts (i64.wrap ((i64.wrap ((i64.wrap (((a00 e1.interest.name.parts (i64.wrap ((i64.wrap ((i64.wrap (k2 + 1)) + 1)) + 1))).1) + 1)) + 1)) + 1))).1)).1)).1) (i64.wrap (((a00 e1.data.keyName.parts ((a03 e1.data.content ((a00 e1.data.name.parts (i64.wrap ((i64.wrap ((i64.wrap (((a00 e1.interest.name.parts (i64.wrap ((i64.wrap ((i64.wrap (k2 + 1)) + 1)) + 1))).1) + 1)) + 1)) + 1))).1)).1)).1) + 1)))))) : List PacketInFlight) (i64.wrap ((i64.wrap (((a00 e1.data.keyName.parts ((a03 e1.data.content ((a00 e1.data.name.parts (i64.wrap ((i64.wrap ((i64.wrap (((a00 e1.interest.name.parts (i64.wrap ((i64.wrap ((i64.wrap (k2 + 1)) + 1)) + 1))).1) + 1)) + 1)) + 1))).1)).1)).1) + 1)) + 1))
def a13 (a : (List PacketInFlight)) (k : Int) : Int × (List PacketInFlight) := match a91 ((a).length) 0 (a : List PacketInFlight) k with | (a2, k2) => (k2, a2)
def a92 : Nat → Nat → (List Consumer) → Int → (List Consumer) × Int | 0, i, a2, k2 => (((a2) : List Consumer), k2) | m_ + 1, i, a2, k2 => match (a2)[i]? with | none => default | some e1 => a92 m_ (i + 1) (((a2.set i (Consumer.mk k2 (i64.wrap (k2 + 1)) (Name.mk ((a00 e1.name.parts (i64.wrap ((i64.wrap (k2 + 1)) + 1))).2)) ((a00 e1.name.parts (i64.wrap ((i64.wrap (k2 + 1)) + 1))).1) (i64.wrap (((a00 e1.name.parts (i64.wrap ((i64.wrap (k2 + 1)) + 1))).1) + 1)) (Int.tmod (i64.wrap ((i64.wrap (((a00 e1.name.parts (i64.wrap ((i64.wrap (k2 + 1)) + 1))).1) + 1)) + 1)) 3 == 0) (DataP.mk (Name.mk ((a00 e1.data.name.parts (i64.wrap ((i64.wrap ((i64.wrap (((a00 e1.name.parts (i64.wrap ((i64.wrap (k2 + 1)) + 1))).1) + 1)) + 1)) + 1))).2)) ((a03 e1.data.content ((a00 e1.data.name.parts (i64.wrap ((i64.wrap ((i64.wrap (((a00 e1.name.parts (i64.wrap ((i64.wrap (k2 + 1)) + 1))).1) + 1)) + 1)) + 1))).1)).2) (Name.mk ((a00 e1.data.keyName.parts ((a03 e1.data.content ((a00 e1.data.name.parts (i64.wrap ((i64.wrap ((i64.wrap (((a00 e1.name.parts (i64.wrap ((i64.wrap (k2 + 1)) + 1))).1) + 1)) + 1)) + 1))).1)).1)).2)) ((a00 e1.data.keyName.parts ((a03 e1.data.content ((a00 e1.data.name.parts (i64.wrap ((i64.wrap ((i64.wrap (((a00 e1.name.parts (i64.wrap ((i64.wrap (k2 + 1)) + 1))).1) + 1)) + 1)) + 1))).1)).1)).1) (i64.wrap (((a00 e1.data.keyName.parts ((a03 e1.data.content ((a00 e1.data.name.parts (i64.wrap ((i64.wrap ((i64.wrap (((a00 e1.name.parts (i64.wrap ((i64.wrap (k2 + 1)) + 1))).1) + 1)) + 1)) + 1))).1)).1)).1) + 1)))))) : List Consumer) (i64.wrap ((i64.wrap (((a00 e1.data.keyName.parts ((a03 e1.data.content ((a00 e1.data.name.parts (i64.wrap ((i64.wrap ((i64.wrap (((a00 e1.name.parts (i64.wrap ((i64.wrap (k2 + 1)) + 1))).1) + 1)) + 1)) + 1))).1)).1)).1) + 1)) + 1))
def a1q (a : (List Consumer)) (k : Int) : Int × (List Consumer) := match a92 ((a).length) 0 (a : List Consumer) k with | (a2, k2) => (k2, a2)
def a01 (a : Network) (k : Int) : Int × Network := (((a1q a.consumers ((a13 a.inFlight ((a0o a.failedLinks ((a0l a.nodes ((a0h a.producers ((a0a a.trust ((a08 a.topology k).1)).1)).1)).1)).1)).1)).1), (Network.mk (Topology.mk a.topology.size ((a08 a.topology k).2.links)) ((a0a a.trust ((a08 a.topology k).1)).2) ((a0h a.producers ((a0a a.trust ((a08 a.topology k).1)).1)).2) ((a0l a.nodes ((a0h a.producers ((a0a a.trust ((a08 a.topology k).1)).1)).1)).2) a.downNodes ((a0o a.failedLinks ((a0l a.nodes ((a0h a.producers ((a0a a.trust ((a08 a.topology k).1)).1)).1)).1)).2) ((a13 a.inFlight ((a0o a.failedLinks ((a0l a.nodes ((a0h a.producers ((a0a a.trust ((a08 a.topology k).1)).1)).1)).1)).1)).2) ((a1q a.consumers ((a13 a.inFlight ((a0o a.failedLinks ((a0l a.nodes ((a0h a.producers ((a0a a.trust ((a08 a.topology k).1)).1)).1)).1)).1)).1)).2) a.now a.dropped))
end Go.Stp
