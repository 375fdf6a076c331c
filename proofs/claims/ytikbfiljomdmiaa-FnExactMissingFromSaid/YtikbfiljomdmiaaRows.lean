/-
  No cell of these rows narrows 'for every input' (looked for: loops, veiled, ifaces, maps, wideKeys, modest, calm, conditions, laid).
  DERIVED. THE GIVEN ROWS OF THIS SEAT. 6 by the template 'for every input the law returns true; each argument reads behind the call as it read before'; 0 by the template 'total and deterministic' (their statements: YtikbfiljomdmiaaTotals.lean).
  GIVEN WITH THE SEED: the statements are not yours to turn. If you find one false, say at which input.
  Laid BY PROGRAM, IN A SANDBOX (cutbox-rows.mjs): the forced cells as the released guide's own fill.sh prints them over the translation d57b060ea56204c3… (all of the seat's roots in one cut). By AI agents, Wed Nov 11 2026. No macro, syntax, notation, axiom, sorry.
-/
import Derived.Test.YtikbfiljomdmiaaChecked
import GoSem.Claim
import GoSem.ClaimJoined
import GoSem.ClaimMapViews
import Derived.JoinedTies
import Derived.KernelRfl
namespace Go.Proofs.Ytikbfiljomdmiaa
/- THE CELL 'sum', in the pinned program and in every row, IS THE sha256 OF THE DUMP (.gsa) THAT YtikbfiljomdmiaaProg.lean LOADS. Nothing in Lean hashes anything: it is a label: what it is worth is what the hold of that sum in a sandbox is worth. -/
noncomputable def Try.pinned : Pinned := { name := "ytikbfiljomdmiaa", sum := "d57b060ea56204c31dc6e4b105f9ddbcc6db2f1479b53d5bb38c010a11200a83", checked := Try.checked }
namespace Rows
def none {H : Type} : Left H := { results := [], args := [] }

/-- 'laws.FnExactInSync': WHATEVER THE INPUT: true; the input reads as it did. -/
def fnExactInSyncSpec : ChangeSpec := { name := "fnExactInSync", fn := fun _ => fun
  | [d1, d2] => { results := [.lit (.bool true)], args := [d1, d2] }
  | _ => none }
def fnExactInSyncRow : OpenClaim := { program := "ytikbfiljomdmiaa", sum := "d57b060ea56204c31dc6e4b105f9ddbcc6db2f1479b53d5bb38c010a11200a83", func := "loop.example/g00507/laws.FnExactInSync", spec := "fnExactInSync", unfollowed := true, recurses := true, apart := false }
def FnExactInSyncSaid : Prop := fnExactInSyncRow.holds Try.pinned (OpenSpec.ofChange fnExactInSyncSpec)

/-- ITS FALSE NEIGHBOUR: 'it returns false'. Refute it at one input. -/
def fnExactInSyncWrong : ChangeSpec := { name := "fnExactInSync", fn := fun _ => fun
  | [d1, d2] => { results := [.lit (.bool false)], args := [d1, d2] }
  | _ => none }
def FnExactInSyncWrongFalsely : Prop := fnExactInSyncRow.holds Try.pinned (OpenSpec.ofChange fnExactInSyncWrong)

/-- 'laws.FnExactFlushRepository': WHATEVER THE INPUT: true; the input reads as it did. -/
def fnExactFlushRepositorySpec : ChangeSpec := { name := "fnExactFlushRepository", fn := fun _ => fun
  | [d] => { results := [.lit (.bool true)], args := [d] }
  | _ => none }
def fnExactFlushRepositoryRow : OpenClaim := { program := "ytikbfiljomdmiaa", sum := "d57b060ea56204c31dc6e4b105f9ddbcc6db2f1479b53d5bb38c010a11200a83", func := "loop.example/g00507/laws.FnExactFlushRepository", spec := "fnExactFlushRepository", apart := false }
def FnExactFlushRepositorySaid : Prop := fnExactFlushRepositoryRow.holds Try.pinned (OpenSpec.ofChange fnExactFlushRepositorySpec)

/-- ITS FALSE NEIGHBOUR: 'it returns false'. Refute it at one input. -/
def fnExactFlushRepositoryWrong : ChangeSpec := { name := "fnExactFlushRepository", fn := fun _ => fun
  | [d] => { results := [.lit (.bool false)], args := [d] }
  | _ => none }
def FnExactFlushRepositoryWrongFalsely : Prop := fnExactFlushRepositoryRow.holds Try.pinned (OpenSpec.ofChange fnExactFlushRepositoryWrong)

/-- 'laws.FnExactFindPublication': WHATEVER THE INPUT: true; the input reads as it did. -/
def fnExactFindPublicationSpec : ChangeSpec := { name := "fnExactFindPublication", fn := fun _ => fun
  | [d1, d2, d3] => { results := [.lit (.bool true)], args := [d1, d2, d3] }
  | _ => none }
def fnExactFindPublicationRow : OpenClaim := { program := "ytikbfiljomdmiaa", sum := "d57b060ea56204c31dc6e4b105f9ddbcc6db2f1479b53d5bb38c010a11200a83", func := "loop.example/g00507/laws.FnExactFindPublication", spec := "fnExactFindPublication", unfollowed := true, recurses := true, apart := false }
def FnExactFindPublicationSaid : Prop := fnExactFindPublicationRow.holds Try.pinned (OpenSpec.ofChange fnExactFindPublicationSpec)

/-- ITS FALSE NEIGHBOUR: 'it returns false'. Refute it at one input. -/
def fnExactFindPublicationWrong : ChangeSpec := { name := "fnExactFindPublication", fn := fun _ => fun
  | [d1, d2, d3] => { results := [.lit (.bool false)], args := [d1, d2, d3] }
  | _ => none }
def FnExactFindPublicationWrongFalsely : Prop := fnExactFindPublicationRow.holds Try.pinned (OpenSpec.ofChange fnExactFindPublicationWrong)

/-- 'laws.FnExactCrashRepository': WHATEVER THE INPUT: true; the input reads as it did. -/
def fnExactCrashRepositorySpec : ChangeSpec := { name := "fnExactCrashRepository", fn := fun _ => fun
  | [d1, d2] => { results := [.lit (.bool true)], args := [d1, d2] }
  | _ => none }
def fnExactCrashRepositoryRow : OpenClaim := { program := "ytikbfiljomdmiaa", sum := "d57b060ea56204c31dc6e4b105f9ddbcc6db2f1479b53d5bb38c010a11200a83", func := "loop.example/g00507/laws.FnExactCrashRepository", spec := "fnExactCrashRepository", apart := false }
def FnExactCrashRepositorySaid : Prop := fnExactCrashRepositoryRow.holds Try.pinned (OpenSpec.ofChange fnExactCrashRepositorySpec)

/-- ITS FALSE NEIGHBOUR: 'it returns false'. Refute it at one input. -/
def fnExactCrashRepositoryWrong : ChangeSpec := { name := "fnExactCrashRepository", fn := fun _ => fun
  | [d1, d2] => { results := [.lit (.bool false)], args := [d1, d2] }
  | _ => none }
def FnExactCrashRepositoryWrongFalsely : Prop := fnExactCrashRepositoryRow.holds Try.pinned (OpenSpec.ofChange fnExactCrashRepositoryWrong)

/-- 'laws.FnExactReplay': WHATEVER THE INPUT: true; the input reads as it did. -/
def fnExactReplaySpec : ChangeSpec := { name := "fnExactReplay", fn := fun _ => fun
  | [d] => { results := [.lit (.bool true)], args := [d] }
  | _ => none }
def fnExactReplayRow : OpenClaim := { program := "ytikbfiljomdmiaa", sum := "d57b060ea56204c31dc6e4b105f9ddbcc6db2f1479b53d5bb38c010a11200a83", func := "loop.example/g00507/laws.FnExactReplay", spec := "fnExactReplay", unfollowed := true, recurses := true, apart := false }
def FnExactReplaySaid : Prop := fnExactReplayRow.holds Try.pinned (OpenSpec.ofChange fnExactReplaySpec)

/-- ITS FALSE NEIGHBOUR: 'it returns false'. Refute it at one input. -/
def fnExactReplayWrong : ChangeSpec := { name := "fnExactReplay", fn := fun _ => fun
  | [d] => { results := [.lit (.bool false)], args := [d] }
  | _ => none }
def FnExactReplayWrongFalsely : Prop := fnExactReplayRow.holds Try.pinned (OpenSpec.ofChange fnExactReplayWrong)

/-- 'laws.FnExactMissingFrom': WHATEVER THE INPUT: true; the input reads as it did. -/
def fnExactMissingFromSpec : ChangeSpec := { name := "fnExactMissingFrom", fn := fun _ => fun
  | [d1, d2] => { results := [.lit (.bool true)], args := [d1, d2] }
  | _ => none }
def fnExactMissingFromRow : OpenClaim := { program := "ytikbfiljomdmiaa", sum := "d57b060ea56204c31dc6e4b105f9ddbcc6db2f1479b53d5bb38c010a11200a83", func := "loop.example/g00507/laws.FnExactMissingFrom", spec := "fnExactMissingFrom", unfollowed := true, recurses := true, apart := false }
def FnExactMissingFromSaid : Prop := fnExactMissingFromRow.holds Try.pinned (OpenSpec.ofChange fnExactMissingFromSpec)

/-- ITS FALSE NEIGHBOUR: 'it returns false'. Refute it at one input. -/
def fnExactMissingFromWrong : ChangeSpec := { name := "fnExactMissingFrom", fn := fun _ => fun
  | [d1, d2] => { results := [.lit (.bool false)], args := [d1, d2] }
  | _ => none }
def FnExactMissingFromWrongFalsely : Prop := fnExactMissingFromRow.holds Try.pinned (OpenSpec.ofChange fnExactMissingFromWrong)

/- THE SECOND FORM. 'bulk': how many values and letters a reading holds, each counted each time it is reached (what is shared counts as often as it is met; a slice's spare places count too). A statement '..UptoSaid' is the law's where the arguments, and the package variables that the reading takes, are together of bulk at most 1048576: NARROWER than '..Said'. Prove '..Said' where nothing that the law and all that it calls make is longer than what came in: it says more and counts as full. Else prove '..UptoSaid'. A law counts once. -/
mutual
def uptoBulk {H : Type} : DataW H → Nat
  | .lit (.string bytes) => bytes.length + 1
  | .lit _ => 1
  | .nil => 1
  | .ptr d => uptoBulk d + 1
  | .slice elems spare => uptoBulkAll elems + uptoBulkAll spare + 1
  | .agg parts => uptoBulkAll parts + 1
  | .iface _ d => uptoBulk d + 1
  | .map entries => uptoBulkEntries entries + 1
  | .held _ => 1
def uptoBulkAll {H : Type} : List (DataW H) → Nat
  | [] => 0
  | d :: r => uptoBulk d + uptoBulkAll r
def uptoBulkEntries {H : Type} : List (Lit × DataW H) → Nat
  | [] => 0
  | x :: r => uptoBulkEntry x + uptoBulkEntries r
def uptoBulkEntry {H : Type} : Lit × DataW H → Nat
  | (.string bytes, d) => bytes.length + uptoBulk d + 1
  | (_, d) => uptoBulk d + 1
 end
def uptoSmall : (H : Type) → List (DataW H) → Bool := fun _ ds => decide (uptoBulkAll ds ≤ 1048576)
def OpenSpec.upto (s : _root_.Go.ChangeSpec) : _root_.Go.OpenSpec := { _root_.Go.OpenSpec.ofChange s with cond := some uptoSmall }

/-- 'laws.FnExactInSync', WHERE WHAT IT READS IS OF BULK AT MOST 1048576: true; the input reads as it did. -/
def fnExactInSyncUptoRow : OpenClaim := { program := "ytikbfiljomdmiaa", sum := "d57b060ea56204c31dc6e4b105f9ddbcc6db2f1479b53d5bb38c010a11200a83", func := "loop.example/g00507/laws.FnExactInSync", spec := "fnExactInSync", unfollowed := true, recurses := true, apart := false, narrowed := true }
def FnExactInSyncUptoSaid : Prop := fnExactInSyncUptoRow.holds Try.pinned (OpenSpec.upto fnExactInSyncSpec)

/-- 'laws.FnExactFlushRepository', WHERE WHAT IT READS IS OF BULK AT MOST 1048576: true; the input reads as it did. -/
def fnExactFlushRepositoryUptoRow : OpenClaim := { program := "ytikbfiljomdmiaa", sum := "d57b060ea56204c31dc6e4b105f9ddbcc6db2f1479b53d5bb38c010a11200a83", func := "loop.example/g00507/laws.FnExactFlushRepository", spec := "fnExactFlushRepository", apart := false, narrowed := true }
def FnExactFlushRepositoryUptoSaid : Prop := fnExactFlushRepositoryUptoRow.holds Try.pinned (OpenSpec.upto fnExactFlushRepositorySpec)

/-- 'laws.FnExactFindPublication', WHERE WHAT IT READS IS OF BULK AT MOST 1048576: true; the input reads as it did. -/
def fnExactFindPublicationUptoRow : OpenClaim := { program := "ytikbfiljomdmiaa", sum := "d57b060ea56204c31dc6e4b105f9ddbcc6db2f1479b53d5bb38c010a11200a83", func := "loop.example/g00507/laws.FnExactFindPublication", spec := "fnExactFindPublication", unfollowed := true, recurses := true, apart := false, narrowed := true }
def FnExactFindPublicationUptoSaid : Prop := fnExactFindPublicationUptoRow.holds Try.pinned (OpenSpec.upto fnExactFindPublicationSpec)

/-- 'laws.FnExactCrashRepository', WHERE WHAT IT READS IS OF BULK AT MOST 1048576: true; the input reads as it did. -/
def fnExactCrashRepositoryUptoRow : OpenClaim := { program := "ytikbfiljomdmiaa", sum := "d57b060ea56204c31dc6e4b105f9ddbcc6db2f1479b53d5bb38c010a11200a83", func := "loop.example/g00507/laws.FnExactCrashRepository", spec := "fnExactCrashRepository", apart := false, narrowed := true }
def FnExactCrashRepositoryUptoSaid : Prop := fnExactCrashRepositoryUptoRow.holds Try.pinned (OpenSpec.upto fnExactCrashRepositorySpec)

/-- 'laws.FnExactReplay', WHERE WHAT IT READS IS OF BULK AT MOST 1048576: true; the input reads as it did. -/
def fnExactReplayUptoRow : OpenClaim := { program := "ytikbfiljomdmiaa", sum := "d57b060ea56204c31dc6e4b105f9ddbcc6db2f1479b53d5bb38c010a11200a83", func := "loop.example/g00507/laws.FnExactReplay", spec := "fnExactReplay", unfollowed := true, recurses := true, apart := false, narrowed := true }
def FnExactReplayUptoSaid : Prop := fnExactReplayUptoRow.holds Try.pinned (OpenSpec.upto fnExactReplaySpec)

/-- 'laws.FnExactMissingFrom', WHERE WHAT IT READS IS OF BULK AT MOST 1048576: true; the input reads as it did. -/
def fnExactMissingFromUptoRow : OpenClaim := { program := "ytikbfiljomdmiaa", sum := "d57b060ea56204c31dc6e4b105f9ddbcc6db2f1479b53d5bb38c010a11200a83", func := "loop.example/g00507/laws.FnExactMissingFrom", spec := "fnExactMissingFrom", unfollowed := true, recurses := true, apart := false, narrowed := true }
def FnExactMissingFromUptoSaid : Prop := fnExactMissingFromUptoRow.holds Try.pinned (OpenSpec.upto fnExactMissingFromSpec)

end Rows
end Go.Proofs.Ytikbfiljomdmiaa
