/-
  No cell of these rows narrows 'for every input' (looked for: loops, veiled, ifaces, maps, wideKeys, modest, calm, conditions, laid).
  DERIVED. THE GIVEN ROWS OF THIS SEAT. 12 by the template 'for every input the law returns true; each argument reads behind the call as it read before'; 0 by the template 'total and deterministic' (their statements: YtfkllbcfaanmjaaTotals.lean).
  GIVEN WITH THE SEED: the statements are not yours to turn. If you find one false, say at which input.
  Laid BY PROGRAM, IN A SANDBOX (cutbox-rows.mjs): the forced cells as the released guide's own fill.sh prints them over the translation d4208c026a1a4894… (all of the seat's roots in one cut). By AI agents, Wed Nov 11 2026. No macro, syntax, notation, axiom, sorry.
-/
import Derived.Test.YtfkllbcfaanmjaaChecked
import GoSem.Claim
import GoSem.ClaimJoined
import GoSem.ClaimMapViews
import Derived.JoinedTies
import Derived.KernelRfl
namespace Go.Proofs.Ytfkllbcfaanmjaa
/- THE CELL 'sum', in the pinned program and in every row, IS THE sha256 OF THE DUMP (.gsa) THAT YtfkllbcfaanmjaaProg.lean LOADS. Nothing in Lean hashes anything: it is a label: what it is worth is what the hold of that sum in a sandbox is worth. -/
noncomputable def Try.pinned : Pinned := { name := "ytfkllbcfaanmjaa", sum := "d4208c026a1a4894d8fcf75c5c3990c37b604da34daa808f9a03073d39038c8f", checked := Try.checked }
namespace Rows
def none {H : Type} : Left H := { results := [], args := [] }

/-- 'laws.FnExactNewConsumer': WHATEVER THE INPUT: true; the input reads as it did. -/
def fnExactNewConsumerSpec : ChangeSpec := { name := "fnExactNewConsumer", fn := fun _ => fun
  | [d1, d2, d3] => { results := [.lit (.bool true)], args := [d1, d2, d3] }
  | _ => none }
def fnExactNewConsumerRow : OpenClaim := { program := "ytfkllbcfaanmjaa", sum := "d4208c026a1a4894d8fcf75c5c3990c37b604da34daa808f9a03073d39038c8f", func := "loop.example/g00507/laws.FnExactNewConsumer", spec := "fnExactNewConsumer", apart := false }
def FnExactNewConsumerSaid : Prop := fnExactNewConsumerRow.holds Try.pinned (OpenSpec.ofChange fnExactNewConsumerSpec)

/-- ITS FALSE NEIGHBOUR: 'it returns false'. Refute it at one input. -/
def fnExactNewConsumerWrong : ChangeSpec := { name := "fnExactNewConsumer", fn := fun _ => fun
  | [d1, d2, d3] => { results := [.lit (.bool false)], args := [d1, d2, d3] }
  | _ => none }
def FnExactNewConsumerWrongFalsely : Prop := fnExactNewConsumerRow.holds Try.pinned (OpenSpec.ofChange fnExactNewConsumerWrong)

/-- 'laws.FnExactNewRepository': WHATEVER THE INPUT: true; the input reads as it did. -/
def fnExactNewRepositorySpec : ChangeSpec := { name := "fnExactNewRepository", fn := fun _ => fun
  | [d] => { results := [.lit (.bool true)], args := [d] }
  | _ => none }
def fnExactNewRepositoryRow : OpenClaim := { program := "ytfkllbcfaanmjaa", sum := "d4208c026a1a4894d8fcf75c5c3990c37b604da34daa808f9a03073d39038c8f", func := "loop.example/g00507/laws.FnExactNewRepository", spec := "fnExactNewRepository", apart := false }
def FnExactNewRepositorySaid : Prop := fnExactNewRepositoryRow.holds Try.pinned (OpenSpec.ofChange fnExactNewRepositorySpec)

/-- ITS FALSE NEIGHBOUR: 'it returns false'. Refute it at one input. -/
def fnExactNewRepositoryWrong : ChangeSpec := { name := "fnExactNewRepository", fn := fun _ => fun
  | [d] => { results := [.lit (.bool false)], args := [d] }
  | _ => none }
def FnExactNewRepositoryWrongFalsely : Prop := fnExactNewRepositoryRow.holds Try.pinned (OpenSpec.ofChange fnExactNewRepositoryWrong)

/-- 'laws.FnExactEqualConsumers': WHATEVER THE INPUT: true; the input reads as it did. -/
def fnExactEqualConsumersSpec : ChangeSpec := { name := "fnExactEqualConsumers", fn := fun _ => fun
  | [d1, d2] => { results := [.lit (.bool true)], args := [d1, d2] }
  | _ => none }
def fnExactEqualConsumersRow : OpenClaim := { program := "ytfkllbcfaanmjaa", sum := "d4208c026a1a4894d8fcf75c5c3990c37b604da34daa808f9a03073d39038c8f", func := "loop.example/g00507/laws.FnExactEqualConsumers", spec := "fnExactEqualConsumers", apart := false }
def FnExactEqualConsumersSaid : Prop := fnExactEqualConsumersRow.holds Try.pinned (OpenSpec.ofChange fnExactEqualConsumersSpec)

/-- ITS FALSE NEIGHBOUR: 'it returns false'. Refute it at one input. -/
def fnExactEqualConsumersWrong : ChangeSpec := { name := "fnExactEqualConsumers", fn := fun _ => fun
  | [d1, d2] => { results := [.lit (.bool false)], args := [d1, d2] }
  | _ => none }
def FnExactEqualConsumersWrongFalsely : Prop := fnExactEqualConsumersRow.holds Try.pinned (OpenSpec.ofChange fnExactEqualConsumersWrong)

/-- 'laws.FnExactValidRecord': WHATEVER THE INPUT: true; the input reads as it did. -/
def fnExactValidRecordSpec : ChangeSpec := { name := "fnExactValidRecord", fn := fun _ => fun
  | [d] => { results := [.lit (.bool true)], args := [d] }
  | _ => none }
def fnExactValidRecordRow : OpenClaim := { program := "ytfkllbcfaanmjaa", sum := "d4208c026a1a4894d8fcf75c5c3990c37b604da34daa808f9a03073d39038c8f", func := "loop.example/g00507/laws.FnExactValidRecord", spec := "fnExactValidRecord", unfollowed := true, recurses := true, apart := false }
def FnExactValidRecordSaid : Prop := fnExactValidRecordRow.holds Try.pinned (OpenSpec.ofChange fnExactValidRecordSpec)

/-- ITS FALSE NEIGHBOUR: 'it returns false'. Refute it at one input. -/
def fnExactValidRecordWrong : ChangeSpec := { name := "fnExactValidRecord", fn := fun _ => fun
  | [d] => { results := [.lit (.bool false)], args := [d] }
  | _ => none }
def FnExactValidRecordWrongFalsely : Prop := fnExactValidRecordRow.holds Try.pinned (OpenSpec.ofChange fnExactValidRecordWrong)

/-- 'laws.FnExactValidVector': WHATEVER THE INPUT: true; the input reads as it did. -/
def fnExactValidVectorSpec : ChangeSpec := { name := "fnExactValidVector", fn := fun _ => fun
  | [d] => { results := [.lit (.bool true)], args := [d] }
  | _ => none }
def fnExactValidVectorRow : OpenClaim := { program := "ytfkllbcfaanmjaa", sum := "d4208c026a1a4894d8fcf75c5c3990c37b604da34daa808f9a03073d39038c8f", func := "loop.example/g00507/laws.FnExactValidVector", spec := "fnExactValidVector", unfollowed := true, recurses := true, apart := false }
def FnExactValidVectorSaid : Prop := fnExactValidVectorRow.holds Try.pinned (OpenSpec.ofChange fnExactValidVectorSpec)

/-- ITS FALSE NEIGHBOUR: 'it returns false'. Refute it at one input. -/
def fnExactValidVectorWrong : ChangeSpec := { name := "fnExactValidVector", fn := fun _ => fun
  | [d] => { results := [.lit (.bool false)], args := [d] }
  | _ => none }
def FnExactValidVectorWrongFalsely : Prop := fnExactValidVectorRow.holds Try.pinned (OpenSpec.ofChange fnExactValidVectorWrong)

/-- 'laws.FnExactNewMember': WHATEVER THE INPUT: true; the input reads as it did. -/
def fnExactNewMemberSpec : ChangeSpec := { name := "fnExactNewMember", fn := fun _ => fun
  | [d] => { results := [.lit (.bool true)], args := [d] }
  | _ => none }
def fnExactNewMemberRow : OpenClaim := { program := "ytfkllbcfaanmjaa", sum := "d4208c026a1a4894d8fcf75c5c3990c37b604da34daa808f9a03073d39038c8f", func := "loop.example/g00507/laws.FnExactNewMember", spec := "fnExactNewMember", apart := false }
def FnExactNewMemberSaid : Prop := fnExactNewMemberRow.holds Try.pinned (OpenSpec.ofChange fnExactNewMemberSpec)

/-- ITS FALSE NEIGHBOUR: 'it returns false'. Refute it at one input. -/
def fnExactNewMemberWrong : ChangeSpec := { name := "fnExactNewMember", fn := fun _ => fun
  | [d] => { results := [.lit (.bool false)], args := [d] }
  | _ => none }
def FnExactNewMemberWrongFalsely : Prop := fnExactNewMemberRow.holds Try.pinned (OpenSpec.ofChange fnExactNewMemberWrong)

/-- 'laws.FnExactValidConsumer': WHATEVER THE INPUT: true; the input reads as it did. -/
def fnExactValidConsumerSpec : ChangeSpec := { name := "fnExactValidConsumer", fn := fun _ => fun
  | [d] => { results := [.lit (.bool true)], args := [d] }
  | _ => none }
def fnExactValidConsumerRow : OpenClaim := { program := "ytfkllbcfaanmjaa", sum := "d4208c026a1a4894d8fcf75c5c3990c37b604da34daa808f9a03073d39038c8f", func := "loop.example/g00507/laws.FnExactValidConsumer", spec := "fnExactValidConsumer", unfollowed := true, recurses := true, apart := false }
def FnExactValidConsumerSaid : Prop := fnExactValidConsumerRow.holds Try.pinned (OpenSpec.ofChange fnExactValidConsumerSpec)

/-- ITS FALSE NEIGHBOUR: 'it returns false'. Refute it at one input. -/
def fnExactValidConsumerWrong : ChangeSpec := { name := "fnExactValidConsumer", fn := fun _ => fun
  | [d] => { results := [.lit (.bool false)], args := [d] }
  | _ => none }
def FnExactValidConsumerWrongFalsely : Prop := fnExactValidConsumerRow.holds Try.pinned (OpenSpec.ofChange fnExactValidConsumerWrong)

/-- 'laws.FnExactNewerThan': WHATEVER THE INPUT: true; the input reads as it did. -/
def fnExactNewerThanSpec : ChangeSpec := { name := "fnExactNewerThan", fn := fun _ => fun
  | [d1, d2] => { results := [.lit (.bool true)], args := [d1, d2] }
  | _ => none }
def fnExactNewerThanRow : OpenClaim := { program := "ytfkllbcfaanmjaa", sum := "d4208c026a1a4894d8fcf75c5c3990c37b604da34daa808f9a03073d39038c8f", func := "loop.example/g00507/laws.FnExactNewerThan", spec := "fnExactNewerThan", unfollowed := true, recurses := true, apart := false }
def FnExactNewerThanSaid : Prop := fnExactNewerThanRow.holds Try.pinned (OpenSpec.ofChange fnExactNewerThanSpec)

/-- ITS FALSE NEIGHBOUR: 'it returns false'. Refute it at one input. -/
def fnExactNewerThanWrong : ChangeSpec := { name := "fnExactNewerThan", fn := fun _ => fun
  | [d1, d2] => { results := [.lit (.bool false)], args := [d1, d2] }
  | _ => none }
def FnExactNewerThanWrongFalsely : Prop := fnExactNewerThanRow.holds Try.pinned (OpenSpec.ofChange fnExactNewerThanWrong)

/-- 'laws.FnExactValidLog': WHATEVER THE INPUT: true; the input reads as it did. -/
def fnExactValidLogSpec : ChangeSpec := { name := "fnExactValidLog", fn := fun _ => fun
  | [d] => { results := [.lit (.bool true)], args := [d] }
  | _ => none }
def fnExactValidLogRow : OpenClaim := { program := "ytfkllbcfaanmjaa", sum := "d4208c026a1a4894d8fcf75c5c3990c37b604da34daa808f9a03073d39038c8f", func := "loop.example/g00507/laws.FnExactValidLog", spec := "fnExactValidLog", unfollowed := true, recurses := true, apart := false }
def FnExactValidLogSaid : Prop := fnExactValidLogRow.holds Try.pinned (OpenSpec.ofChange fnExactValidLogSpec)

/-- ITS FALSE NEIGHBOUR: 'it returns false'. Refute it at one input. -/
def fnExactValidLogWrong : ChangeSpec := { name := "fnExactValidLog", fn := fun _ => fun
  | [d] => { results := [.lit (.bool false)], args := [d] }
  | _ => none }
def FnExactValidLogWrongFalsely : Prop := fnExactValidLogRow.holds Try.pinned (OpenSpec.ofChange fnExactValidLogWrong)

/-- 'laws.FnExactFlushLog': WHATEVER THE INPUT: true; the input reads as it did. -/
def fnExactFlushLogSpec : ChangeSpec := { name := "fnExactFlushLog", fn := fun _ => fun
  | [d] => { results := [.lit (.bool true)], args := [d] }
  | _ => none }
def fnExactFlushLogRow : OpenClaim := { program := "ytfkllbcfaanmjaa", sum := "d4208c026a1a4894d8fcf75c5c3990c37b604da34daa808f9a03073d39038c8f", func := "loop.example/g00507/laws.FnExactFlushLog", spec := "fnExactFlushLog", apart := false }
def FnExactFlushLogSaid : Prop := fnExactFlushLogRow.holds Try.pinned (OpenSpec.ofChange fnExactFlushLogSpec)

/-- ITS FALSE NEIGHBOUR: 'it returns false'. Refute it at one input. -/
def fnExactFlushLogWrong : ChangeSpec := { name := "fnExactFlushLog", fn := fun _ => fun
  | [d] => { results := [.lit (.bool false)], args := [d] }
  | _ => none }
def FnExactFlushLogWrongFalsely : Prop := fnExactFlushLogRow.holds Try.pinned (OpenSpec.ofChange fnExactFlushLogWrong)

/-- 'laws.FnExactTickConsumer': WHATEVER THE INPUT: true; the input reads as it did. -/
def fnExactTickConsumerSpec : ChangeSpec := { name := "fnExactTickConsumer", fn := fun _ => fun
  | [d] => { results := [.lit (.bool true)], args := [d] }
  | _ => none }
def fnExactTickConsumerRow : OpenClaim := { program := "ytfkllbcfaanmjaa", sum := "d4208c026a1a4894d8fcf75c5c3990c37b604da34daa808f9a03073d39038c8f", func := "loop.example/g00507/laws.FnExactTickConsumer", spec := "fnExactTickConsumer", apart := false }
def FnExactTickConsumerSaid : Prop := fnExactTickConsumerRow.holds Try.pinned (OpenSpec.ofChange fnExactTickConsumerSpec)

/-- ITS FALSE NEIGHBOUR: 'it returns false'. Refute it at one input. -/
def fnExactTickConsumerWrong : ChangeSpec := { name := "fnExactTickConsumer", fn := fun _ => fun
  | [d] => { results := [.lit (.bool false)], args := [d] }
  | _ => none }
def FnExactTickConsumerWrongFalsely : Prop := fnExactTickConsumerRow.holds Try.pinned (OpenSpec.ofChange fnExactTickConsumerWrong)

/-- 'laws.FnExactCrashLog': WHATEVER THE INPUT: true; the input reads as it did. -/
def fnExactCrashLogSpec : ChangeSpec := { name := "fnExactCrashLog", fn := fun _ => fun
  | [d1, d2] => { results := [.lit (.bool true)], args := [d1, d2] }
  | _ => none }
def fnExactCrashLogRow : OpenClaim := { program := "ytfkllbcfaanmjaa", sum := "d4208c026a1a4894d8fcf75c5c3990c37b604da34daa808f9a03073d39038c8f", func := "loop.example/g00507/laws.FnExactCrashLog", spec := "fnExactCrashLog", apart := false }
def FnExactCrashLogSaid : Prop := fnExactCrashLogRow.holds Try.pinned (OpenSpec.ofChange fnExactCrashLogSpec)

/-- ITS FALSE NEIGHBOUR: 'it returns false'. Refute it at one input. -/
def fnExactCrashLogWrong : ChangeSpec := { name := "fnExactCrashLog", fn := fun _ => fun
  | [d1, d2] => { results := [.lit (.bool false)], args := [d1, d2] }
  | _ => none }
def FnExactCrashLogWrongFalsely : Prop := fnExactCrashLogRow.holds Try.pinned (OpenSpec.ofChange fnExactCrashLogWrong)

/- THE SECOND FORM. 'bulk': how many values and letters a reading holds, each counted each time it is reached (what is shared counts as often as it is met; a slice's spare places count too). A statement '..UptoSaid' is the law's where the arguments, and the package variables that the reading takes, are together of bulk at most 1048576: NARROWER than '..Said'. Prove '..Said' where nothing that the law and all that it calls make is longer than what came in: it says more and counts as full. Else prove '..UptoSaid'. A law counts once. -/
mutual
def uptoBulk {H : Type} : DataW H → Nat
  | .lit (.string bytes) => bytes.length + 1
  | .lit _ => 1
  | .nil => 1
  | .ptr d => uptoBulk d + 1
  | .slice elems spare => uptoBulkAll elems + uptoBulkAll spare + 1
  | .agg parts => uptoBulkAll parts + 1
  | .iface _ d => uptoBulk d + 1
  | .map entries => uptoBulkEntries entries + 1
  | .held _ => 1
def uptoBulkAll {H : Type} : List (DataW H) → Nat
  | [] => 0
  | d :: r => uptoBulk d + uptoBulkAll r
def uptoBulkEntries {H : Type} : List (Lit × DataW H) → Nat
  | [] => 0
  | x :: r => uptoBulkEntry x + uptoBulkEntries r
def uptoBulkEntry {H : Type} : Lit × DataW H → Nat
  | (.string bytes, d) => bytes.length + uptoBulk d + 1
  | (_, d) => uptoBulk d + 1
 end
def uptoSmall : (H : Type) → List (DataW H) → Bool := fun _ ds => decide (uptoBulkAll ds ≤ 1048576)
def OpenSpec.upto (s : _root_.Go.ChangeSpec) : _root_.Go.OpenSpec := { _root_.Go.OpenSpec.ofChange s with cond := some uptoSmall }

/-- 'laws.FnExactNewConsumer', WHERE WHAT IT READS IS OF BULK AT MOST 1048576: true; the input reads as it did. -/
def fnExactNewConsumerUptoRow : OpenClaim := { program := "ytfkllbcfaanmjaa", sum := "d4208c026a1a4894d8fcf75c5c3990c37b604da34daa808f9a03073d39038c8f", func := "loop.example/g00507/laws.FnExactNewConsumer", spec := "fnExactNewConsumer", apart := false, narrowed := true }
def FnExactNewConsumerUptoSaid : Prop := fnExactNewConsumerUptoRow.holds Try.pinned (OpenSpec.upto fnExactNewConsumerSpec)

/-- 'laws.FnExactNewRepository', WHERE WHAT IT READS IS OF BULK AT MOST 1048576: true; the input reads as it did. -/
def fnExactNewRepositoryUptoRow : OpenClaim := { program := "ytfkllbcfaanmjaa", sum := "d4208c026a1a4894d8fcf75c5c3990c37b604da34daa808f9a03073d39038c8f", func := "loop.example/g00507/laws.FnExactNewRepository", spec := "fnExactNewRepository", apart := false, narrowed := true }
def FnExactNewRepositoryUptoSaid : Prop := fnExactNewRepositoryUptoRow.holds Try.pinned (OpenSpec.upto fnExactNewRepositorySpec)

/-- 'laws.FnExactEqualConsumers', WHERE WHAT IT READS IS OF BULK AT MOST 1048576: true; the input reads as it did. -/
def fnExactEqualConsumersUptoRow : OpenClaim := { program := "ytfkllbcfaanmjaa", sum := "d4208c026a1a4894d8fcf75c5c3990c37b604da34daa808f9a03073d39038c8f", func := "loop.example/g00507/laws.FnExactEqualConsumers", spec := "fnExactEqualConsumers", apart := false, narrowed := true }
def FnExactEqualConsumersUptoSaid : Prop := fnExactEqualConsumersUptoRow.holds Try.pinned (OpenSpec.upto fnExactEqualConsumersSpec)

/-- 'laws.FnExactValidRecord', WHERE WHAT IT READS IS OF BULK AT MOST 1048576: true; the input reads as it did. -/
def fnExactValidRecordUptoRow : OpenClaim := { program := "ytfkllbcfaanmjaa", sum := "d4208c026a1a4894d8fcf75c5c3990c37b604da34daa808f9a03073d39038c8f", func := "loop.example/g00507/laws.FnExactValidRecord", spec := "fnExactValidRecord", unfollowed := true, recurses := true, apart := false, narrowed := true }
def FnExactValidRecordUptoSaid : Prop := fnExactValidRecordUptoRow.holds Try.pinned (OpenSpec.upto fnExactValidRecordSpec)

/-- 'laws.FnExactValidVector', WHERE WHAT IT READS IS OF BULK AT MOST 1048576: true; the input reads as it did. -/
def fnExactValidVectorUptoRow : OpenClaim := { program := "ytfkllbcfaanmjaa", sum := "d4208c026a1a4894d8fcf75c5c3990c37b604da34daa808f9a03073d39038c8f", func := "loop.example/g00507/laws.FnExactValidVector", spec := "fnExactValidVector", unfollowed := true, recurses := true, apart := false, narrowed := true }
def FnExactValidVectorUptoSaid : Prop := fnExactValidVectorUptoRow.holds Try.pinned (OpenSpec.upto fnExactValidVectorSpec)

/-- 'laws.FnExactNewMember', WHERE WHAT IT READS IS OF BULK AT MOST 1048576: true; the input reads as it did. -/
def fnExactNewMemberUptoRow : OpenClaim := { program := "ytfkllbcfaanmjaa", sum := "d4208c026a1a4894d8fcf75c5c3990c37b604da34daa808f9a03073d39038c8f", func := "loop.example/g00507/laws.FnExactNewMember", spec := "fnExactNewMember", apart := false, narrowed := true }
def FnExactNewMemberUptoSaid : Prop := fnExactNewMemberUptoRow.holds Try.pinned (OpenSpec.upto fnExactNewMemberSpec)

/-- 'laws.FnExactValidConsumer', WHERE WHAT IT READS IS OF BULK AT MOST 1048576: true; the input reads as it did. -/
def fnExactValidConsumerUptoRow : OpenClaim := { program := "ytfkllbcfaanmjaa", sum := "d4208c026a1a4894d8fcf75c5c3990c37b604da34daa808f9a03073d39038c8f", func := "loop.example/g00507/laws.FnExactValidConsumer", spec := "fnExactValidConsumer", unfollowed := true, recurses := true, apart := false, narrowed := true }
def FnExactValidConsumerUptoSaid : Prop := fnExactValidConsumerUptoRow.holds Try.pinned (OpenSpec.upto fnExactValidConsumerSpec)

/-- 'laws.FnExactNewerThan', WHERE WHAT IT READS IS OF BULK AT MOST 1048576: true; the input reads as it did. -/
def fnExactNewerThanUptoRow : OpenClaim := { program := "ytfkllbcfaanmjaa", sum := "d4208c026a1a4894d8fcf75c5c3990c37b604da34daa808f9a03073d39038c8f", func := "loop.example/g00507/laws.FnExactNewerThan", spec := "fnExactNewerThan", unfollowed := true, recurses := true, apart := false, narrowed := true }
def FnExactNewerThanUptoSaid : Prop := fnExactNewerThanUptoRow.holds Try.pinned (OpenSpec.upto fnExactNewerThanSpec)

/-- 'laws.FnExactValidLog', WHERE WHAT IT READS IS OF BULK AT MOST 1048576: true; the input reads as it did. -/
def fnExactValidLogUptoRow : OpenClaim := { program := "ytfkllbcfaanmjaa", sum := "d4208c026a1a4894d8fcf75c5c3990c37b604da34daa808f9a03073d39038c8f", func := "loop.example/g00507/laws.FnExactValidLog", spec := "fnExactValidLog", unfollowed := true, recurses := true, apart := false, narrowed := true }
def FnExactValidLogUptoSaid : Prop := fnExactValidLogUptoRow.holds Try.pinned (OpenSpec.upto fnExactValidLogSpec)

/-- 'laws.FnExactFlushLog', WHERE WHAT IT READS IS OF BULK AT MOST 1048576: true; the input reads as it did. -/
def fnExactFlushLogUptoRow : OpenClaim := { program := "ytfkllbcfaanmjaa", sum := "d4208c026a1a4894d8fcf75c5c3990c37b604da34daa808f9a03073d39038c8f", func := "loop.example/g00507/laws.FnExactFlushLog", spec := "fnExactFlushLog", apart := false, narrowed := true }
def FnExactFlushLogUptoSaid : Prop := fnExactFlushLogUptoRow.holds Try.pinned (OpenSpec.upto fnExactFlushLogSpec)

/-- 'laws.FnExactTickConsumer', WHERE WHAT IT READS IS OF BULK AT MOST 1048576: true; the input reads as it did. -/
def fnExactTickConsumerUptoRow : OpenClaim := { program := "ytfkllbcfaanmjaa", sum := "d4208c026a1a4894d8fcf75c5c3990c37b604da34daa808f9a03073d39038c8f", func := "loop.example/g00507/laws.FnExactTickConsumer", spec := "fnExactTickConsumer", apart := false, narrowed := true }
def FnExactTickConsumerUptoSaid : Prop := fnExactTickConsumerUptoRow.holds Try.pinned (OpenSpec.upto fnExactTickConsumerSpec)

/-- 'laws.FnExactCrashLog', WHERE WHAT IT READS IS OF BULK AT MOST 1048576: true; the input reads as it did. -/
def fnExactCrashLogUptoRow : OpenClaim := { program := "ytfkllbcfaanmjaa", sum := "d4208c026a1a4894d8fcf75c5c3990c37b604da34daa808f9a03073d39038c8f", func := "loop.example/g00507/laws.FnExactCrashLog", spec := "fnExactCrashLog", apart := false, narrowed := true }
def FnExactCrashLogUptoSaid : Prop := fnExactCrashLogUptoRow.holds Try.pinned (OpenSpec.upto fnExactCrashLogSpec)

end Rows
end Go.Proofs.Ytfkllbcfaanmjaa
