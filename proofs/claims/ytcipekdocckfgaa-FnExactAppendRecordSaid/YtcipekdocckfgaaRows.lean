/-
  No cell of these rows narrows 'for every input' (looked for: loops, veiled, ifaces, maps, wideKeys, modest, calm, conditions, laid).
  DERIVED. THE GIVEN ROWS OF THIS SEAT. 9 by the template 'for every input the law returns true; each argument reads behind the call as it read before'; 0 by the template 'total and deterministic' (their statements: YtcipekdocckfgaaTotals.lean).
  GIVEN WITH THE SEED: the statements are not yours to turn. If you find one false, say at which input.
  Laid BY PROGRAM, IN A SANDBOX (cutbox-rows.mjs): the forced cells as the released guide's own fill.sh prints them over the translation eb36126f8317d590… (all of the seat's roots in one cut). By AI agents, Wed Nov 11 2026. No macro, syntax, notation, axiom, sorry.
-/
import Derived.Test.YtcipekdocckfgaaChecked
import GoSem.Claim
import GoSem.ClaimJoined
import GoSem.ClaimMapViews
import Derived.JoinedTies
import Derived.KernelRfl
namespace Go.Proofs.Ytcipekdocckfgaa
/- THE CELL 'sum', in the pinned program and in every row, IS THE sha256 OF THE DUMP (.gsa) THAT YtcipekdocckfgaaProg.lean LOADS. Nothing in Lean hashes anything: it is a label: what it is worth is what the hold of that sum in a sandbox is worth. -/
noncomputable def Try.pinned : Pinned := { name := "ytcipekdocckfgaa", sum := "eb36126f8317d5906228fd77d4ae86b66f66d7607cb6de4bb1c8f7d4806abe50", checked := Try.checked }
namespace Rows
def none {H : Type} : Left H := { results := [], args := [] }

/-- 'laws.FnExactReplay': WHATEVER THE INPUT: true; the input reads as it did. -/
def fnExactReplaySpec : ChangeSpec := { name := "fnExactReplay", fn := fun _ => fun
  | [d] => { results := [.lit (.bool true)], args := [d] }
  | _ => none }
def fnExactReplayRow : OpenClaim := { program := "ytcipekdocckfgaa", sum := "eb36126f8317d5906228fd77d4ae86b66f66d7607cb6de4bb1c8f7d4806abe50", func := "loop.example/g00507/laws.FnExactReplay", spec := "fnExactReplay", unfollowed := true, recurses := true, apart := false }
def FnExactReplaySaid : Prop := fnExactReplayRow.holds Try.pinned (OpenSpec.ofChange fnExactReplaySpec)

/-- ITS FALSE NEIGHBOUR: 'it returns false'. Refute it at one input. -/
def fnExactReplayWrong : ChangeSpec := { name := "fnExactReplay", fn := fun _ => fun
  | [d] => { results := [.lit (.bool false)], args := [d] }
  | _ => none }
def FnExactReplayWrongFalsely : Prop := fnExactReplayRow.holds Try.pinned (OpenSpec.ofChange fnExactReplayWrong)

/-- 'laws.FnExactLogContents': WHATEVER THE INPUT: true; the input reads as it did. -/
def fnExactLogContentsSpec : ChangeSpec := { name := "fnExactLogContents", fn := fun _ => fun
  | [d] => { results := [.lit (.bool true)], args := [d] }
  | _ => none }
def fnExactLogContentsRow : OpenClaim := { program := "ytcipekdocckfgaa", sum := "eb36126f8317d5906228fd77d4ae86b66f66d7607cb6de4bb1c8f7d4806abe50", func := "loop.example/g00507/laws.FnExactLogContents", spec := "fnExactLogContents", unfollowed := true, recurses := true, apart := false }
def FnExactLogContentsSaid : Prop := fnExactLogContentsRow.holds Try.pinned (OpenSpec.ofChange fnExactLogContentsSpec)

/-- ITS FALSE NEIGHBOUR: 'it returns false'. Refute it at one input. -/
def fnExactLogContentsWrong : ChangeSpec := { name := "fnExactLogContents", fn := fun _ => fun
  | [d] => { results := [.lit (.bool false)], args := [d] }
  | _ => none }
def FnExactLogContentsWrongFalsely : Prop := fnExactLogContentsRow.holds Try.pinned (OpenSpec.ofChange fnExactLogContentsWrong)

/-- 'laws.FnExactValidRepository': WHATEVER THE INPUT: true; the input reads as it did. -/
def fnExactValidRepositorySpec : ChangeSpec := { name := "fnExactValidRepository", fn := fun _ => fun
  | [d] => { results := [.lit (.bool true)], args := [d] }
  | _ => none }
def fnExactValidRepositoryRow : OpenClaim := { program := "ytcipekdocckfgaa", sum := "eb36126f8317d5906228fd77d4ae86b66f66d7607cb6de4bb1c8f7d4806abe50", func := "loop.example/g00507/laws.FnExactValidRepository", spec := "fnExactValidRepository", unfollowed := true, recurses := true, apart := false }
def FnExactValidRepositorySaid : Prop := fnExactValidRepositoryRow.holds Try.pinned (OpenSpec.ofChange fnExactValidRepositorySpec)

/-- ITS FALSE NEIGHBOUR: 'it returns false'. Refute it at one input. -/
def fnExactValidRepositoryWrong : ChangeSpec := { name := "fnExactValidRepository", fn := fun _ => fun
  | [d] => { results := [.lit (.bool false)], args := [d] }
  | _ => none }
def FnExactValidRepositoryWrongFalsely : Prop := fnExactValidRepositoryRow.holds Try.pinned (OpenSpec.ofChange fnExactValidRepositoryWrong)

/-- 'laws.FnExactCompactLog': WHATEVER THE INPUT: true; the input reads as it did. -/
def fnExactCompactLogSpec : ChangeSpec := { name := "fnExactCompactLog", fn := fun _ => fun
  | [d] => { results := [.lit (.bool true)], args := [d] }
  | _ => none }
def fnExactCompactLogRow : OpenClaim := { program := "ytcipekdocckfgaa", sum := "eb36126f8317d5906228fd77d4ae86b66f66d7607cb6de4bb1c8f7d4806abe50", func := "loop.example/g00507/laws.FnExactCompactLog", spec := "fnExactCompactLog", unfollowed := true, recurses := true, apart := false }
def FnExactCompactLogSaid : Prop := fnExactCompactLogRow.holds Try.pinned (OpenSpec.ofChange fnExactCompactLogSpec)

/-- ITS FALSE NEIGHBOUR: 'it returns false'. Refute it at one input. -/
def fnExactCompactLogWrong : ChangeSpec := { name := "fnExactCompactLog", fn := fun _ => fun
  | [d] => { results := [.lit (.bool false)], args := [d] }
  | _ => none }
def FnExactCompactLogWrongFalsely : Prop := fnExactCompactLogRow.holds Try.pinned (OpenSpec.ofChange fnExactCompactLogWrong)

/-- 'laws.FnExactRepositoryNames': WHATEVER THE INPUT: true; the input reads as it did. -/
def fnExactRepositoryNamesSpec : ChangeSpec := { name := "fnExactRepositoryNames", fn := fun _ => fun
  | [d] => { results := [.lit (.bool true)], args := [d] }
  | _ => none }
def fnExactRepositoryNamesRow : OpenClaim := { program := "ytcipekdocckfgaa", sum := "eb36126f8317d5906228fd77d4ae86b66f66d7607cb6de4bb1c8f7d4806abe50", func := "loop.example/g00507/laws.FnExactRepositoryNames", spec := "fnExactRepositoryNames", unfollowed := true, recurses := true, apart := false }
def FnExactRepositoryNamesSaid : Prop := fnExactRepositoryNamesRow.holds Try.pinned (OpenSpec.ofChange fnExactRepositoryNamesSpec)

/-- ITS FALSE NEIGHBOUR: 'it returns false'. Refute it at one input. -/
def fnExactRepositoryNamesWrong : ChangeSpec := { name := "fnExactRepositoryNames", fn := fun _ => fun
  | [d] => { results := [.lit (.bool false)], args := [d] }
  | _ => none }
def FnExactRepositoryNamesWrongFalsely : Prop := fnExactRepositoryNamesRow.holds Try.pinned (OpenSpec.ofChange fnExactRepositoryNamesWrong)

/-- 'laws.FnExactLookupData': WHATEVER THE INPUT: true; the input reads as it did. -/
def fnExactLookupDataSpec : ChangeSpec := { name := "fnExactLookupData", fn := fun _ => fun
  | [d1, d2] => { results := [.lit (.bool true)], args := [d1, d2] }
  | _ => none }
def fnExactLookupDataRow : OpenClaim := { program := "ytcipekdocckfgaa", sum := "eb36126f8317d5906228fd77d4ae86b66f66d7607cb6de4bb1c8f7d4806abe50", func := "loop.example/g00507/laws.FnExactLookupData", spec := "fnExactLookupData", unfollowed := true, recurses := true, apart := false }
def FnExactLookupDataSaid : Prop := fnExactLookupDataRow.holds Try.pinned (OpenSpec.ofChange fnExactLookupDataSpec)

/-- ITS FALSE NEIGHBOUR: 'it returns false'. Refute it at one input. -/
def fnExactLookupDataWrong : ChangeSpec := { name := "fnExactLookupData", fn := fun _ => fun
  | [d1, d2] => { results := [.lit (.bool false)], args := [d1, d2] }
  | _ => none }
def FnExactLookupDataWrongFalsely : Prop := fnExactLookupDataRow.holds Try.pinned (OpenSpec.ofChange fnExactLookupDataWrong)

/-- 'laws.FnExactLostNames': WHATEVER THE INPUT: true; the input reads as it did. -/
def fnExactLostNamesSpec : ChangeSpec := { name := "fnExactLostNames", fn := fun _ => fun
  | [d1, d2] => { results := [.lit (.bool true)], args := [d1, d2] }
  | _ => none }
def fnExactLostNamesRow : OpenClaim := { program := "ytcipekdocckfgaa", sum := "eb36126f8317d5906228fd77d4ae86b66f66d7607cb6de4bb1c8f7d4806abe50", func := "loop.example/g00507/laws.FnExactLostNames", spec := "fnExactLostNames", unfollowed := true, recurses := true, apart := false }
def FnExactLostNamesSaid : Prop := fnExactLostNamesRow.holds Try.pinned (OpenSpec.ofChange fnExactLostNamesSpec)

/-- ITS FALSE NEIGHBOUR: 'it returns false'. Refute it at one input. -/
def fnExactLostNamesWrong : ChangeSpec := { name := "fnExactLostNames", fn := fun _ => fun
  | [d1, d2] => { results := [.lit (.bool false)], args := [d1, d2] }
  | _ => none }
def FnExactLostNamesWrongFalsely : Prop := fnExactLostNamesRow.holds Try.pinned (OpenSpec.ofChange fnExactLostNamesWrong)

/-- 'laws.FnExactAppendRecord': WHATEVER THE INPUT: true; the input reads as it did. -/
def fnExactAppendRecordSpec : ChangeSpec := { name := "fnExactAppendRecord", fn := fun _ => fun
  | [d1, d2] => { results := [.lit (.bool true)], args := [d1, d2] }
  | _ => none }
def fnExactAppendRecordRow : OpenClaim := { program := "ytcipekdocckfgaa", sum := "eb36126f8317d5906228fd77d4ae86b66f66d7607cb6de4bb1c8f7d4806abe50", func := "loop.example/g00507/laws.FnExactAppendRecord", spec := "fnExactAppendRecord", unfollowed := true, recurses := true, apart := false }
def FnExactAppendRecordSaid : Prop := fnExactAppendRecordRow.holds Try.pinned (OpenSpec.ofChange fnExactAppendRecordSpec)

/-- ITS FALSE NEIGHBOUR: 'it returns false'. Refute it at one input. -/
def fnExactAppendRecordWrong : ChangeSpec := { name := "fnExactAppendRecord", fn := fun _ => fun
  | [d1, d2] => { results := [.lit (.bool false)], args := [d1, d2] }
  | _ => none }
def FnExactAppendRecordWrongFalsely : Prop := fnExactAppendRecordRow.holds Try.pinned (OpenSpec.ofChange fnExactAppendRecordWrong)

/-- 'laws.FnExactJoinVectors': WHATEVER THE INPUT: true; the input reads as it did. -/
def fnExactJoinVectorsSpec : ChangeSpec := { name := "fnExactJoinVectors", fn := fun _ => fun
  | [d1, d2] => { results := [.lit (.bool true)], args := [d1, d2] }
  | _ => none }
def fnExactJoinVectorsRow : OpenClaim := { program := "ytcipekdocckfgaa", sum := "eb36126f8317d5906228fd77d4ae86b66f66d7607cb6de4bb1c8f7d4806abe50", func := "loop.example/g00507/laws.FnExactJoinVectors", spec := "fnExactJoinVectors", inPlace := ["slices.overlaps[loop.example/g00507/impl.TableEntry]"], unfollowed := true, recurses := true, apart := false }
def FnExactJoinVectorsSaid : Prop := fnExactJoinVectorsRow.holds Try.pinned (OpenSpec.ofChange fnExactJoinVectorsSpec)

/-- ITS FALSE NEIGHBOUR: 'it returns false'. Refute it at one input. -/
def fnExactJoinVectorsWrong : ChangeSpec := { name := "fnExactJoinVectors", fn := fun _ => fun
  | [d1, d2] => { results := [.lit (.bool false)], args := [d1, d2] }
  | _ => none }
def FnExactJoinVectorsWrongFalsely : Prop := fnExactJoinVectorsRow.holds Try.pinned (OpenSpec.ofChange fnExactJoinVectorsWrong)

/- THE SECOND FORM. 'bulk': how many values and letters a reading holds, each counted each time it is reached (what is shared counts as often as it is met; a slice's spare places count too). A statement '..UptoSaid' is the law's where the arguments, and the package variables that the reading takes, are together of bulk at most 1048576: NARROWER than '..Said'. Prove '..Said' where nothing that the law and all that it calls make is longer than what came in: it says more and counts as full. Else prove '..UptoSaid'. A law counts once. -/
mutual
def uptoBulk {H : Type} : DataW H → Nat
  | .lit (.string bytes) => bytes.length + 1
  | .lit _ => 1
  | .nil => 1
  | .ptr d => uptoBulk d + 1
  | .slice elems spare => uptoBulkAll elems + uptoBulkAll spare + 1
  | .agg parts => uptoBulkAll parts + 1
  | .iface _ d => uptoBulk d + 1
  | .map entries => uptoBulkEntries entries + 1
  | .held _ => 1
def uptoBulkAll {H : Type} : List (DataW H) → Nat
  | [] => 0
  | d :: r => uptoBulk d + uptoBulkAll r
def uptoBulkEntries {H : Type} : List (Lit × DataW H) → Nat
  | [] => 0
  | x :: r => uptoBulkEntry x + uptoBulkEntries r
def uptoBulkEntry {H : Type} : Lit × DataW H → Nat
  | (.string bytes, d) => bytes.length + uptoBulk d + 1
  | (_, d) => uptoBulk d + 1
 end
def uptoSmall : (H : Type) → List (DataW H) → Bool := fun _ ds => decide (uptoBulkAll ds ≤ 1048576)
def OpenSpec.upto (s : _root_.Go.ChangeSpec) : _root_.Go.OpenSpec := { _root_.Go.OpenSpec.ofChange s with cond := some uptoSmall }

/-- 'laws.FnExactReplay', WHERE WHAT IT READS IS OF BULK AT MOST 1048576: true; the input reads as it did. -/
def fnExactReplayUptoRow : OpenClaim := { program := "ytcipekdocckfgaa", sum := "eb36126f8317d5906228fd77d4ae86b66f66d7607cb6de4bb1c8f7d4806abe50", func := "loop.example/g00507/laws.FnExactReplay", spec := "fnExactReplay", unfollowed := true, recurses := true, apart := false, narrowed := true }
def FnExactReplayUptoSaid : Prop := fnExactReplayUptoRow.holds Try.pinned (OpenSpec.upto fnExactReplaySpec)

/-- 'laws.FnExactLogContents', WHERE WHAT IT READS IS OF BULK AT MOST 1048576: true; the input reads as it did. -/
def fnExactLogContentsUptoRow : OpenClaim := { program := "ytcipekdocckfgaa", sum := "eb36126f8317d5906228fd77d4ae86b66f66d7607cb6de4bb1c8f7d4806abe50", func := "loop.example/g00507/laws.FnExactLogContents", spec := "fnExactLogContents", unfollowed := true, recurses := true, apart := false, narrowed := true }
def FnExactLogContentsUptoSaid : Prop := fnExactLogContentsUptoRow.holds Try.pinned (OpenSpec.upto fnExactLogContentsSpec)

/-- 'laws.FnExactValidRepository', WHERE WHAT IT READS IS OF BULK AT MOST 1048576: true; the input reads as it did. -/
def fnExactValidRepositoryUptoRow : OpenClaim := { program := "ytcipekdocckfgaa", sum := "eb36126f8317d5906228fd77d4ae86b66f66d7607cb6de4bb1c8f7d4806abe50", func := "loop.example/g00507/laws.FnExactValidRepository", spec := "fnExactValidRepository", unfollowed := true, recurses := true, apart := false, narrowed := true }
def FnExactValidRepositoryUptoSaid : Prop := fnExactValidRepositoryUptoRow.holds Try.pinned (OpenSpec.upto fnExactValidRepositorySpec)

/-- 'laws.FnExactCompactLog', WHERE WHAT IT READS IS OF BULK AT MOST 1048576: true; the input reads as it did. -/
def fnExactCompactLogUptoRow : OpenClaim := { program := "ytcipekdocckfgaa", sum := "eb36126f8317d5906228fd77d4ae86b66f66d7607cb6de4bb1c8f7d4806abe50", func := "loop.example/g00507/laws.FnExactCompactLog", spec := "fnExactCompactLog", unfollowed := true, recurses := true, apart := false, narrowed := true }
def FnExactCompactLogUptoSaid : Prop := fnExactCompactLogUptoRow.holds Try.pinned (OpenSpec.upto fnExactCompactLogSpec)

/-- 'laws.FnExactRepositoryNames', WHERE WHAT IT READS IS OF BULK AT MOST 1048576: true; the input reads as it did. -/
def fnExactRepositoryNamesUptoRow : OpenClaim := { program := "ytcipekdocckfgaa", sum := "eb36126f8317d5906228fd77d4ae86b66f66d7607cb6de4bb1c8f7d4806abe50", func := "loop.example/g00507/laws.FnExactRepositoryNames", spec := "fnExactRepositoryNames", unfollowed := true, recurses := true, apart := false, narrowed := true }
def FnExactRepositoryNamesUptoSaid : Prop := fnExactRepositoryNamesUptoRow.holds Try.pinned (OpenSpec.upto fnExactRepositoryNamesSpec)

/-- 'laws.FnExactLookupData', WHERE WHAT IT READS IS OF BULK AT MOST 1048576: true; the input reads as it did. -/
def fnExactLookupDataUptoRow : OpenClaim := { program := "ytcipekdocckfgaa", sum := "eb36126f8317d5906228fd77d4ae86b66f66d7607cb6de4bb1c8f7d4806abe50", func := "loop.example/g00507/laws.FnExactLookupData", spec := "fnExactLookupData", unfollowed := true, recurses := true, apart := false, narrowed := true }
def FnExactLookupDataUptoSaid : Prop := fnExactLookupDataUptoRow.holds Try.pinned (OpenSpec.upto fnExactLookupDataSpec)

/-- 'laws.FnExactLostNames', WHERE WHAT IT READS IS OF BULK AT MOST 1048576: true; the input reads as it did. -/
def fnExactLostNamesUptoRow : OpenClaim := { program := "ytcipekdocckfgaa", sum := "eb36126f8317d5906228fd77d4ae86b66f66d7607cb6de4bb1c8f7d4806abe50", func := "loop.example/g00507/laws.FnExactLostNames", spec := "fnExactLostNames", unfollowed := true, recurses := true, apart := false, narrowed := true }
def FnExactLostNamesUptoSaid : Prop := fnExactLostNamesUptoRow.holds Try.pinned (OpenSpec.upto fnExactLostNamesSpec)

/-- 'laws.FnExactAppendRecord', WHERE WHAT IT READS IS OF BULK AT MOST 1048576: true; the input reads as it did. -/
def fnExactAppendRecordUptoRow : OpenClaim := { program := "ytcipekdocckfgaa", sum := "eb36126f8317d5906228fd77d4ae86b66f66d7607cb6de4bb1c8f7d4806abe50", func := "loop.example/g00507/laws.FnExactAppendRecord", spec := "fnExactAppendRecord", unfollowed := true, recurses := true, apart := false, narrowed := true }
def FnExactAppendRecordUptoSaid : Prop := fnExactAppendRecordUptoRow.holds Try.pinned (OpenSpec.upto fnExactAppendRecordSpec)

/-- 'laws.FnExactJoinVectors', WHERE WHAT IT READS IS OF BULK AT MOST 1048576: true; the input reads as it did. -/
def fnExactJoinVectorsUptoRow : OpenClaim := { program := "ytcipekdocckfgaa", sum := "eb36126f8317d5906228fd77d4ae86b66f66d7607cb6de4bb1c8f7d4806abe50", func := "loop.example/g00507/laws.FnExactJoinVectors", spec := "fnExactJoinVectors", inPlace := ["slices.overlaps[loop.example/g00507/impl.TableEntry]"], unfollowed := true, recurses := true, apart := false, narrowed := true }
def FnExactJoinVectorsUptoSaid : Prop := fnExactJoinVectorsUptoRow.holds Try.pinned (OpenSpec.upto fnExactJoinVectorsSpec)

end Rows
end Go.Proofs.Ytcipekdocckfgaa
