/-
  No cell of these rows narrows 'for every input' (looked for: loops, veiled, ifaces, maps, wideKeys, modest, calm, conditions, laid).
  DERIVED. THE GIVEN ROWS OF THIS SEAT. 5 by the template 'for every input the law returns true; each argument reads behind the call as it read before'; 0 by the template 'total and deterministic' (their statements: YtkgehljhlmbdmaaTotals.lean).
  GIVEN WITH THE SEED: the statements are not yours to turn. If you find one false, say at which input.
  Laid BY PROGRAM, IN A SANDBOX (cutbox-rows.mjs): the forced cells as the released guide's own fill.sh prints them over the translation 029f780e9270d10d… (all of the seat's roots in one cut). By AI agents, Wed Nov 11 2026. No macro, syntax, notation, axiom, sorry.
-/
import Derived.Test.YtkgehljhlmbdmaaChecked
import GoSem.Claim
import GoSem.ClaimJoined
import GoSem.ClaimMapViews
import Derived.JoinedTies
import Derived.KernelRfl
namespace Go.Proofs.Ytkgehljhlmbdmaa
/- THE CELL 'sum', in the pinned program and in every row, IS THE sha256 OF THE DUMP (.gsa) THAT YtkgehljhlmbdmaaProg.lean LOADS. Nothing in Lean hashes anything: it is a label: what it is worth is what the hold of that sum in a sandbox is worth. -/
noncomputable def Try.pinned : Pinned := { name := "ytkgehljhlmbdmaa", sum := "029f780e9270d10d83c012b7b48a9d7546c270429be0403e4fb3f5a7e463ba0d", checked := Try.checked }
namespace Rows
def none {H : Type} : Left H := { results := [], args := [] }

/-- 'laws.FnExactEqualConsumers': WHATEVER THE INPUT: true; the input reads as it did. -/
def fnExactEqualConsumersSpec : ChangeSpec := { name := "fnExactEqualConsumers", fn := fun _ => fun
  | [d1, d2] => { results := [.lit (.bool true)], args := [d1, d2] }
  | _ => none }
def fnExactEqualConsumersRow : OpenClaim := { program := "ytkgehljhlmbdmaa", sum := "029f780e9270d10d83c012b7b48a9d7546c270429be0403e4fb3f5a7e463ba0d", func := "loop.example/g00507/laws.FnExactEqualConsumers", spec := "fnExactEqualConsumers", apart := false }
def FnExactEqualConsumersSaid : Prop := fnExactEqualConsumersRow.holds Try.pinned (OpenSpec.ofChange fnExactEqualConsumersSpec)

/-- ITS FALSE NEIGHBOUR: 'it returns false'. Refute it at one input. -/
def fnExactEqualConsumersWrong : ChangeSpec := { name := "fnExactEqualConsumers", fn := fun _ => fun
  | [d1, d2] => { results := [.lit (.bool false)], args := [d1, d2] }
  | _ => none }
def FnExactEqualConsumersWrongFalsely : Prop := fnExactEqualConsumersRow.holds Try.pinned (OpenSpec.ofChange fnExactEqualConsumersWrong)

/-- 'laws.FnExactVectorLeq': WHATEVER THE INPUT: true; the input reads as it did. -/
def fnExactVectorLeqSpec : ChangeSpec := { name := "fnExactVectorLeq", fn := fun _ => fun
  | [d1, d2] => { results := [.lit (.bool true)], args := [d1, d2] }
  | _ => none }
def fnExactVectorLeqRow : OpenClaim := { program := "ytkgehljhlmbdmaa", sum := "029f780e9270d10d83c012b7b48a9d7546c270429be0403e4fb3f5a7e463ba0d", func := "loop.example/g00507/laws.FnExactVectorLeq", spec := "fnExactVectorLeq", unfollowed := true, recurses := true, apart := false }
def FnExactVectorLeqSaid : Prop := fnExactVectorLeqRow.holds Try.pinned (OpenSpec.ofChange fnExactVectorLeqSpec)

/-- ITS FALSE NEIGHBOUR: 'it returns false'. Refute it at one input. -/
def fnExactVectorLeqWrong : ChangeSpec := { name := "fnExactVectorLeq", fn := fun _ => fun
  | [d1, d2] => { results := [.lit (.bool false)], args := [d1, d2] }
  | _ => none }
def FnExactVectorLeqWrongFalsely : Prop := fnExactVectorLeqRow.holds Try.pinned (OpenSpec.ofChange fnExactVectorLeqWrong)

/-- 'laws.FnExactValidRecord': WHATEVER THE INPUT: true; the input reads as it did. -/
def fnExactValidRecordSpec : ChangeSpec := { name := "fnExactValidRecord", fn := fun _ => fun
  | [d] => { results := [.lit (.bool true)], args := [d] }
  | _ => none }
def fnExactValidRecordRow : OpenClaim := { program := "ytkgehljhlmbdmaa", sum := "029f780e9270d10d83c012b7b48a9d7546c270429be0403e4fb3f5a7e463ba0d", func := "loop.example/g00507/laws.FnExactValidRecord", spec := "fnExactValidRecord", unfollowed := true, recurses := true, apart := false }
def FnExactValidRecordSaid : Prop := fnExactValidRecordRow.holds Try.pinned (OpenSpec.ofChange fnExactValidRecordSpec)

/-- ITS FALSE NEIGHBOUR: 'it returns false'. Refute it at one input. -/
def fnExactValidRecordWrong : ChangeSpec := { name := "fnExactValidRecord", fn := fun _ => fun
  | [d] => { results := [.lit (.bool false)], args := [d] }
  | _ => none }
def FnExactValidRecordWrongFalsely : Prop := fnExactValidRecordRow.holds Try.pinned (OpenSpec.ofChange fnExactValidRecordWrong)

/-- 'laws.FnExactValidVector': WHATEVER THE INPUT: true; the input reads as it did. -/
def fnExactValidVectorSpec : ChangeSpec := { name := "fnExactValidVector", fn := fun _ => fun
  | [d] => { results := [.lit (.bool true)], args := [d] }
  | _ => none }
def fnExactValidVectorRow : OpenClaim := { program := "ytkgehljhlmbdmaa", sum := "029f780e9270d10d83c012b7b48a9d7546c270429be0403e4fb3f5a7e463ba0d", func := "loop.example/g00507/laws.FnExactValidVector", spec := "fnExactValidVector", unfollowed := true, recurses := true, apart := false }
def FnExactValidVectorSaid : Prop := fnExactValidVectorRow.holds Try.pinned (OpenSpec.ofChange fnExactValidVectorSpec)

/-- ITS FALSE NEIGHBOUR: 'it returns false'. Refute it at one input. -/
def fnExactValidVectorWrong : ChangeSpec := { name := "fnExactValidVector", fn := fun _ => fun
  | [d] => { results := [.lit (.bool false)], args := [d] }
  | _ => none }
def FnExactValidVectorWrongFalsely : Prop := fnExactValidVectorRow.holds Try.pinned (OpenSpec.ofChange fnExactValidVectorWrong)

/-- 'laws.FnExactValidConsumer': WHATEVER THE INPUT: true; the input reads as it did. -/
def fnExactValidConsumerSpec : ChangeSpec := { name := "fnExactValidConsumer", fn := fun _ => fun
  | [d] => { results := [.lit (.bool true)], args := [d] }
  | _ => none }
def fnExactValidConsumerRow : OpenClaim := { program := "ytkgehljhlmbdmaa", sum := "029f780e9270d10d83c012b7b48a9d7546c270429be0403e4fb3f5a7e463ba0d", func := "loop.example/g00507/laws.FnExactValidConsumer", spec := "fnExactValidConsumer", unfollowed := true, recurses := true, apart := false }
def FnExactValidConsumerSaid : Prop := fnExactValidConsumerRow.holds Try.pinned (OpenSpec.ofChange fnExactValidConsumerSpec)

/-- ITS FALSE NEIGHBOUR: 'it returns false'. Refute it at one input. -/
def fnExactValidConsumerWrong : ChangeSpec := { name := "fnExactValidConsumer", fn := fun _ => fun
  | [d] => { results := [.lit (.bool false)], args := [d] }
  | _ => none }
def FnExactValidConsumerWrongFalsely : Prop := fnExactValidConsumerRow.holds Try.pinned (OpenSpec.ofChange fnExactValidConsumerWrong)

/- THE SECOND FORM. 'bulk': how many values and letters a reading holds, each counted each time it is reached (what is shared counts as often as it is met; a slice's spare places count too). A statement '..UptoSaid' is the law's where the arguments, and the package variables that the reading takes, are together of bulk at most 1048576: NARROWER than '..Said'. Prove '..Said' where nothing that the law and all that it calls make is longer than what came in: it says more and counts as full. Else prove '..UptoSaid'. A law counts once. -/
mutual
def uptoBulk {H : Type} : DataW H → Nat
  | .lit (.string bytes) => bytes.length + 1
  | .lit _ => 1
  | .nil => 1
  | .ptr d => uptoBulk d + 1
  | .slice elems spare => uptoBulkAll elems + uptoBulkAll spare + 1
  | .agg parts => uptoBulkAll parts + 1
  | .iface _ d => uptoBulk d + 1
  | .map entries => uptoBulkEntries entries + 1
  | .held _ => 1
def uptoBulkAll {H : Type} : List (DataW H) → Nat
  | [] => 0
  | d :: r => uptoBulk d + uptoBulkAll r
def uptoBulkEntries {H : Type} : List (Lit × DataW H) → Nat
  | [] => 0
  | x :: r => uptoBulkEntry x + uptoBulkEntries r
def uptoBulkEntry {H : Type} : Lit × DataW H → Nat
  | (.string bytes, d) => bytes.length + uptoBulk d + 1
  | (_, d) => uptoBulk d + 1
 end
def uptoSmall : (H : Type) → List (DataW H) → Bool := fun _ ds => decide (uptoBulkAll ds ≤ 1048576)
def OpenSpec.upto (s : _root_.Go.ChangeSpec) : _root_.Go.OpenSpec := { _root_.Go.OpenSpec.ofChange s with cond := some uptoSmall }

/-- 'laws.FnExactEqualConsumers', WHERE WHAT IT READS IS OF BULK AT MOST 1048576: true; the input reads as it did. -/
def fnExactEqualConsumersUptoRow : OpenClaim := { program := "ytkgehljhlmbdmaa", sum := "029f780e9270d10d83c012b7b48a9d7546c270429be0403e4fb3f5a7e463ba0d", func := "loop.example/g00507/laws.FnExactEqualConsumers", spec := "fnExactEqualConsumers", apart := false, narrowed := true }
def FnExactEqualConsumersUptoSaid : Prop := fnExactEqualConsumersUptoRow.holds Try.pinned (OpenSpec.upto fnExactEqualConsumersSpec)

/-- 'laws.FnExactVectorLeq', WHERE WHAT IT READS IS OF BULK AT MOST 1048576: true; the input reads as it did. -/
def fnExactVectorLeqUptoRow : OpenClaim := { program := "ytkgehljhlmbdmaa", sum := "029f780e9270d10d83c012b7b48a9d7546c270429be0403e4fb3f5a7e463ba0d", func := "loop.example/g00507/laws.FnExactVectorLeq", spec := "fnExactVectorLeq", unfollowed := true, recurses := true, apart := false, narrowed := true }
def FnExactVectorLeqUptoSaid : Prop := fnExactVectorLeqUptoRow.holds Try.pinned (OpenSpec.upto fnExactVectorLeqSpec)

/-- 'laws.FnExactValidRecord', WHERE WHAT IT READS IS OF BULK AT MOST 1048576: true; the input reads as it did. -/
def fnExactValidRecordUptoRow : OpenClaim := { program := "ytkgehljhlmbdmaa", sum := "029f780e9270d10d83c012b7b48a9d7546c270429be0403e4fb3f5a7e463ba0d", func := "loop.example/g00507/laws.FnExactValidRecord", spec := "fnExactValidRecord", unfollowed := true, recurses := true, apart := false, narrowed := true }
def FnExactValidRecordUptoSaid : Prop := fnExactValidRecordUptoRow.holds Try.pinned (OpenSpec.upto fnExactValidRecordSpec)

/-- 'laws.FnExactValidVector', WHERE WHAT IT READS IS OF BULK AT MOST 1048576: true; the input reads as it did. -/
def fnExactValidVectorUptoRow : OpenClaim := { program := "ytkgehljhlmbdmaa", sum := "029f780e9270d10d83c012b7b48a9d7546c270429be0403e4fb3f5a7e463ba0d", func := "loop.example/g00507/laws.FnExactValidVector", spec := "fnExactValidVector", unfollowed := true, recurses := true, apart := false, narrowed := true }
def FnExactValidVectorUptoSaid : Prop := fnExactValidVectorUptoRow.holds Try.pinned (OpenSpec.upto fnExactValidVectorSpec)

/-- 'laws.FnExactValidConsumer', WHERE WHAT IT READS IS OF BULK AT MOST 1048576: true; the input reads as it did. -/
def fnExactValidConsumerUptoRow : OpenClaim := { program := "ytkgehljhlmbdmaa", sum := "029f780e9270d10d83c012b7b48a9d7546c270429be0403e4fb3f5a7e463ba0d", func := "loop.example/g00507/laws.FnExactValidConsumer", spec := "fnExactValidConsumer", unfollowed := true, recurses := true, apart := false, narrowed := true }
def FnExactValidConsumerUptoSaid : Prop := fnExactValidConsumerUptoRow.holds Try.pinned (OpenSpec.upto fnExactValidConsumerSpec)

end Rows
end Go.Proofs.Ytkgehljhlmbdmaa
