/-
  No cell of these rows narrows 'for every input' (looked for: loops, veiled, ifaces, maps, wideKeys, modest, calm, conditions, laid).
  DERIVED. THE GIVEN ROWS OF THIS SEAT. 4 by the template 'for every input the law returns true; each argument reads behind the call as it read before'; 0 by the template 'total and deterministic' (their statements: YtcjilfbmdciebaaGreatTotals.lean).
  GIVEN WITH THE SEED: the statements are not yours to turn. If you find one false, say at which input.
  Laid BY PROGRAM, IN A SANDBOX (cutbox-rows.mjs): the forced cells as the released guide's own fill.sh prints them over the translation 4a8dc6e9e363d07f… (all of the seat's roots in one cut). By AI agents, Wed Nov 11 2026. No macro, syntax, notation, axiom, sorry.
-/
import Derived.Test.YtcjilfbmdciebaaGreatChecked
import GoSem.Claim
import GoSem.ClaimJoined
import GoSem.ClaimMapViews
import Derived.JoinedTies
import Derived.KernelRfl
namespace Go.Proofs.YtcjilfbmdciebaaGreat
/- THE CELL 'sum', in the pinned program and in every row, IS THE sha256 OF THE DUMP (.gsa) THAT YtcjilfbmdciebaaGreatProg.lean LOADS. Nothing in Lean hashes anything: it is a label: what it is worth is what the hold of that sum in a sandbox is worth. -/
noncomputable def Tryz.pinned : Pinned := { name := "ytcjilfbmdciebaagreat", sum := "4a8dc6e9e363d07f3afec38577ef0c822d99613aaa6d0226ff0674afed9d94ee", checked := Tryz.checked }
namespace Rows
def none {H : Type} : Left H := { results := [], args := [] }

/-- 'laws.FnExactIsUp': WHATEVER THE INPUT: true; the input reads as it did. -/
def fnExactIsUpSpec : ChangeSpec := { name := "fnExactIsUp", fn := fun _ => fun
  | [d1, d2] => { results := [.lit (.bool true)], args := [d1, d2] }
  | _ => none }
def fnExactIsUpRow : OpenClaim := { program := "ytcjilfbmdciebaagreat", sum := "4a8dc6e9e363d07f3afec38577ef0c822d99613aaa6d0226ff0674afed9d94ee", func := "loop.example/g00507/laws.FnExactIsUp", spec := "fnExactIsUp", apart := false }
def FnExactIsUpSaid : Prop := fnExactIsUpRow.holds Tryz.pinned (OpenSpec.ofChange fnExactIsUpSpec)

/-- ITS FALSE NEIGHBOUR: 'it returns false'. Refute it at one input. -/
def fnExactIsUpWrong : ChangeSpec := { name := "fnExactIsUp", fn := fun _ => fun
  | [d1, d2] => { results := [.lit (.bool false)], args := [d1, d2] }
  | _ => none }
def FnExactIsUpWrongFalsely : Prop := fnExactIsUpRow.holds Tryz.pinned (OpenSpec.ofChange fnExactIsUpWrong)

/-- 'laws.FnExactHarmless': WHATEVER THE INPUT: true; the input reads as it did. -/
def fnExactHarmlessSpec : ChangeSpec := { name := "fnExactHarmless", fn := fun _ => fun
  | [d1, d2] => { results := [.lit (.bool true)], args := [d1, d2] }
  | _ => none }
def fnExactHarmlessRow : OpenClaim := { program := "ytcjilfbmdciebaagreat", sum := "4a8dc6e9e363d07f3afec38577ef0c822d99613aaa6d0226ff0674afed9d94ee", func := "loop.example/g00507/laws.FnExactHarmless", spec := "fnExactHarmless", unfollowed := true, recurses := true, apart := false }
def FnExactHarmlessSaid : Prop := fnExactHarmlessRow.holds Tryz.pinned (OpenSpec.ofChange fnExactHarmlessSpec)

/-- ITS FALSE NEIGHBOUR: 'it returns false'. Refute it at one input. -/
def fnExactHarmlessWrong : ChangeSpec := { name := "fnExactHarmless", fn := fun _ => fun
  | [d1, d2] => { results := [.lit (.bool false)], args := [d1, d2] }
  | _ => none }
def FnExactHarmlessWrongFalsely : Prop := fnExactHarmlessRow.holds Tryz.pinned (OpenSpec.ofChange fnExactHarmlessWrong)

/-- 'laws.FnExactCounters': WHATEVER THE INPUT: true; the input reads as it did. -/
def fnExactCountersSpec : ChangeSpec := { name := "fnExactCounters", fn := fun _ => fun
  | [d] => { results := [.lit (.bool true)], args := [d] }
  | _ => none }
def fnExactCountersRow : OpenClaim := { program := "ytcjilfbmdciebaagreat", sum := "4a8dc6e9e363d07f3afec38577ef0c822d99613aaa6d0226ff0674afed9d94ee", func := "loop.example/g00507/laws.FnExactCounters", spec := "fnExactCounters", apart := false }
def FnExactCountersSaid : Prop := fnExactCountersRow.holds Tryz.pinned (OpenSpec.ofChange fnExactCountersSpec)

/-- ITS FALSE NEIGHBOUR: 'it returns false'. Refute it at one input. -/
def fnExactCountersWrong : ChangeSpec := { name := "fnExactCounters", fn := fun _ => fun
  | [d] => { results := [.lit (.bool false)], args := [d] }
  | _ => none }
def FnExactCountersWrongFalsely : Prop := fnExactCountersRow.holds Tryz.pinned (OpenSpec.ofChange fnExactCountersWrong)

/-- 'laws.FnExactEqualNetworks': WHATEVER THE INPUT: true; the input reads as it did. -/
def fnExactEqualNetworksSpec : ChangeSpec := { name := "fnExactEqualNetworks", fn := fun _ => fun
  | [d1, d2] => { results := [.lit (.bool true)], args := [d1, d2] }
  | _ => none }
def fnExactEqualNetworksRow : OpenClaim := { program := "ytcjilfbmdciebaagreat", sum := "4a8dc6e9e363d07f3afec38577ef0c822d99613aaa6d0226ff0674afed9d94ee", func := "loop.example/g00507/laws.FnExactEqualNetworks", spec := "fnExactEqualNetworks", unfollowed := true, recurses := true, apart := false }
def FnExactEqualNetworksSaid : Prop := fnExactEqualNetworksRow.holds Tryz.pinned (OpenSpec.ofChange fnExactEqualNetworksSpec)

/-- ITS FALSE NEIGHBOUR: 'it returns false'. Refute it at one input. -/
def fnExactEqualNetworksWrong : ChangeSpec := { name := "fnExactEqualNetworks", fn := fun _ => fun
  | [d1, d2] => { results := [.lit (.bool false)], args := [d1, d2] }
  | _ => none }
def FnExactEqualNetworksWrongFalsely : Prop := fnExactEqualNetworksRow.holds Tryz.pinned (OpenSpec.ofChange fnExactEqualNetworksWrong)

/- THE SECOND FORM. 'bulk': how many values and letters a reading holds, each counted each time it is reached (what is shared counts as often as it is met; a slice's spare places count too). A statement '..UptoSaid' is the law's where the arguments, and the package variables that the reading takes, are together of bulk at most 1048576: NARROWER than '..Said'. Prove '..Said' where nothing that the law and all that it calls make is longer than what came in: it says more and counts as full. Else prove '..UptoSaid'. A law counts once. -/
mutual
def uptoBulk {H : Type} : DataW H → Nat
  | .lit (.string bytes) => bytes.length + 1
  | .lit _ => 1
  | .nil => 1
  | .ptr d => uptoBulk d + 1
  | .slice elems spare => uptoBulkAll elems + uptoBulkAll spare + 1
  | .agg parts => uptoBulkAll parts + 1
  | .iface _ d => uptoBulk d + 1
  | .map entries => uptoBulkEntries entries + 1
  | .held _ => 1
def uptoBulkAll {H : Type} : List (DataW H) → Nat
  | [] => 0
  | d :: r => uptoBulk d + uptoBulkAll r
def uptoBulkEntries {H : Type} : List (Lit × DataW H) → Nat
  | [] => 0
  | x :: r => uptoBulkEntry x + uptoBulkEntries r
def uptoBulkEntry {H : Type} : Lit × DataW H → Nat
  | (.string bytes, d) => bytes.length + uptoBulk d + 1
  | (_, d) => uptoBulk d + 1
 end
def uptoSmall : (H : Type) → List (DataW H) → Bool := fun _ ds => decide (uptoBulkAll ds ≤ 1048576)
def OpenSpec.upto (s : _root_.Go.ChangeSpec) : _root_.Go.OpenSpec := { _root_.Go.OpenSpec.ofChange s with cond := some uptoSmall }

/-- 'laws.FnExactIsUp', WHERE WHAT IT READS IS OF BULK AT MOST 1048576: true; the input reads as it did. -/
def fnExactIsUpUptoRow : OpenClaim := { program := "ytcjilfbmdciebaagreat", sum := "4a8dc6e9e363d07f3afec38577ef0c822d99613aaa6d0226ff0674afed9d94ee", func := "loop.example/g00507/laws.FnExactIsUp", spec := "fnExactIsUp", apart := false, narrowed := true }
def FnExactIsUpUptoSaid : Prop := fnExactIsUpUptoRow.holds Tryz.pinned (OpenSpec.upto fnExactIsUpSpec)

/-- 'laws.FnExactHarmless', WHERE WHAT IT READS IS OF BULK AT MOST 1048576: true; the input reads as it did. -/
def fnExactHarmlessUptoRow : OpenClaim := { program := "ytcjilfbmdciebaagreat", sum := "4a8dc6e9e363d07f3afec38577ef0c822d99613aaa6d0226ff0674afed9d94ee", func := "loop.example/g00507/laws.FnExactHarmless", spec := "fnExactHarmless", unfollowed := true, recurses := true, apart := false, narrowed := true }
def FnExactHarmlessUptoSaid : Prop := fnExactHarmlessUptoRow.holds Tryz.pinned (OpenSpec.upto fnExactHarmlessSpec)

/-- 'laws.FnExactCounters', WHERE WHAT IT READS IS OF BULK AT MOST 1048576: true; the input reads as it did. -/
def fnExactCountersUptoRow : OpenClaim := { program := "ytcjilfbmdciebaagreat", sum := "4a8dc6e9e363d07f3afec38577ef0c822d99613aaa6d0226ff0674afed9d94ee", func := "loop.example/g00507/laws.FnExactCounters", spec := "fnExactCounters", apart := false, narrowed := true }
def FnExactCountersUptoSaid : Prop := fnExactCountersUptoRow.holds Tryz.pinned (OpenSpec.upto fnExactCountersSpec)

/-- 'laws.FnExactEqualNetworks', WHERE WHAT IT READS IS OF BULK AT MOST 1048576: true; the input reads as it did. -/
def fnExactEqualNetworksUptoRow : OpenClaim := { program := "ytcjilfbmdciebaagreat", sum := "4a8dc6e9e363d07f3afec38577ef0c822d99613aaa6d0226ff0674afed9d94ee", func := "loop.example/g00507/laws.FnExactEqualNetworks", spec := "fnExactEqualNetworks", unfollowed := true, recurses := true, apart := false, narrowed := true }
def FnExactEqualNetworksUptoSaid : Prop := fnExactEqualNetworksUptoRow.holds Tryz.pinned (OpenSpec.upto fnExactEqualNetworksSpec)

end Rows
end Go.Proofs.YtcjilfbmdciebaaGreat
