/-
  No cell of these rows narrows 'for every input' (looked for: loops, veiled, ifaces, maps, wideKeys, modest, calm, conditions, laid).
  DERIVED. THE GIVEN ROWS OF THIS SEAT. 3 by the template 'for every input the law returns true; each argument reads behind the call as it read before'; 0 by the template 'total and deterministic' (their statements: YtfffongneoegbaaTotals.lean).
  GIVEN WITH THE SEED: the statements are not yours to turn. If you find one false, say at which input.
  Laid BY PROGRAM, IN A SANDBOX (cutbox-rows.mjs): the forced cells as the released guide's own fill.sh prints them over the translation 0dba45c2b11c116f… (all of the seat's roots in one cut). By AI agents, Wed Nov 11 2026. No macro, syntax, notation, axiom, sorry.
-/
import Derived.Test.YtfffongneoegbaaChecked
import GoSem.Claim
import GoSem.ClaimJoined
import GoSem.ClaimMapViews
import Derived.JoinedTies
import Derived.KernelRfl
namespace Go.Proofs.Ytfffongneoegbaa
/- THE CELL 'sum', in the pinned program and in every row, IS THE sha256 OF THE DUMP (.gsa) THAT YtfffongneoegbaaProg.lean LOADS. Nothing in Lean hashes anything: it is a label: what it is worth is what the hold of that sum in a sandbox is worth. -/
noncomputable def Try.pinned : Pinned := { name := "ytfffongneoegbaa", sum := "0dba45c2b11c116ff6fd3d03f0487b5d058173ceca59ad46985b2c0d6685400a", checked := Try.checked }
namespace Rows
def none {H : Type} : Left H := { results := [], args := [] }

/-- 'laws.FnNonces': WHATEVER THE INPUT: true; the input reads as it did. -/
def fnNoncesSpec : ChangeSpec := { name := "fnNonces", fn := fun _ => fun
  | [d] => { results := [.lit (.bool true)], args := [d] }
  | _ => none }
def fnNoncesRow : OpenClaim := { program := "ytfffongneoegbaa", sum := "0dba45c2b11c116ff6fd3d03f0487b5d058173ceca59ad46985b2c0d6685400a", func := "loop.example/g00507/laws.FnNonces", spec := "fnNonces", apart := false }
def FnNoncesSaid : Prop := fnNoncesRow.holds Try.pinned (OpenSpec.ofChange fnNoncesSpec)

/-- ITS FALSE NEIGHBOUR: 'it returns false'. Refute it at one input. -/
def fnNoncesWrong : ChangeSpec := { name := "fnNonces", fn := fun _ => fun
  | [d] => { results := [.lit (.bool false)], args := [d] }
  | _ => none }
def FnNoncesWrongFalsely : Prop := fnNoncesRow.holds Try.pinned (OpenSpec.ofChange fnNoncesWrong)

/-- 'laws.FnExactEncodeVector': WHATEVER THE INPUT: true; the input reads as it did. -/
def fnExactEncodeVectorSpec : ChangeSpec := { name := "fnExactEncodeVector", fn := fun _ => fun
  | [d] => { results := [.lit (.bool true)], args := [d] }
  | _ => none }
def fnExactEncodeVectorRow : OpenClaim := { program := "ytfffongneoegbaa", sum := "0dba45c2b11c116ff6fd3d03f0487b5d058173ceca59ad46985b2c0d6685400a", func := "loop.example/g00507/laws.FnExactEncodeVector", spec := "fnExactEncodeVector", unfollowed := true, recurses := true, apart := false }
def FnExactEncodeVectorSaid : Prop := fnExactEncodeVectorRow.holds Try.pinned (OpenSpec.ofChange fnExactEncodeVectorSpec)

/-- ITS FALSE NEIGHBOUR: 'it returns false'. Refute it at one input. -/
def fnExactEncodeVectorWrong : ChangeSpec := { name := "fnExactEncodeVector", fn := fun _ => fun
  | [d] => { results := [.lit (.bool false)], args := [d] }
  | _ => none }
def FnExactEncodeVectorWrongFalsely : Prop := fnExactEncodeVectorRow.holds Try.pinned (OpenSpec.ofChange fnExactEncodeVectorWrong)

/-- 'laws.FnExactDecodeVector': WHATEVER THE INPUT: true; the input reads as it did. -/
def fnExactDecodeVectorSpec : ChangeSpec := { name := "fnExactDecodeVector", fn := fun _ => fun
  | [d] => { results := [.lit (.bool true)], args := [d] }
  | _ => none }
def fnExactDecodeVectorRow : OpenClaim := { program := "ytfffongneoegbaa", sum := "0dba45c2b11c116ff6fd3d03f0487b5d058173ceca59ad46985b2c0d6685400a", func := "loop.example/g00507/laws.FnExactDecodeVector", spec := "fnExactDecodeVector", unfollowed := true, recurses := true, apart := false }
def FnExactDecodeVectorSaid : Prop := fnExactDecodeVectorRow.holds Try.pinned (OpenSpec.ofChange fnExactDecodeVectorSpec)

/-- ITS FALSE NEIGHBOUR: 'it returns false'. Refute it at one input. -/
def fnExactDecodeVectorWrong : ChangeSpec := { name := "fnExactDecodeVector", fn := fun _ => fun
  | [d] => { results := [.lit (.bool false)], args := [d] }
  | _ => none }
def FnExactDecodeVectorWrongFalsely : Prop := fnExactDecodeVectorRow.holds Try.pinned (OpenSpec.ofChange fnExactDecodeVectorWrong)

/- THE SECOND FORM. 'bulk': how many values and letters a reading holds, each counted each time it is reached (what is shared counts as often as it is met; a slice's spare places count too). A statement '..UptoSaid' is the law's where the arguments, and the package variables that the reading takes, are together of bulk at most 1048576: NARROWER than '..Said'. Prove '..Said' where nothing that the law and all that it calls make is longer than what came in: it says more and counts as full. Else prove '..UptoSaid'. A law counts once. -/
mutual
def uptoBulk {H : Type} : DataW H → Nat
  | .lit (.string bytes) => bytes.length + 1
  | .lit _ => 1
  | .nil => 1
  | .ptr d => uptoBulk d + 1
  | .slice elems spare => uptoBulkAll elems + uptoBulkAll spare + 1
  | .agg parts => uptoBulkAll parts + 1
  | .iface _ d => uptoBulk d + 1
  | .map entries => uptoBulkEntries entries + 1
  | .held _ => 1
def uptoBulkAll {H : Type} : List (DataW H) → Nat
  | [] => 0
  | d :: r => uptoBulk d + uptoBulkAll r
def uptoBulkEntries {H : Type} : List (Lit × DataW H) → Nat
  | [] => 0
  | x :: r => uptoBulkEntry x + uptoBulkEntries r
def uptoBulkEntry {H : Type} : Lit × DataW H → Nat
  | (.string bytes, d) => bytes.length + uptoBulk d + 1
  | (_, d) => uptoBulk d + 1
 end
def uptoSmall : (H : Type) → List (DataW H) → Bool := fun _ ds => decide (uptoBulkAll ds ≤ 1048576)
def OpenSpec.upto (s : _root_.Go.ChangeSpec) : _root_.Go.OpenSpec := { _root_.Go.OpenSpec.ofChange s with cond := some uptoSmall }

/-- 'laws.FnNonces', WHERE WHAT IT READS IS OF BULK AT MOST 1048576: true; the input reads as it did. -/
def fnNoncesUptoRow : OpenClaim := { program := "ytfffongneoegbaa", sum := "0dba45c2b11c116ff6fd3d03f0487b5d058173ceca59ad46985b2c0d6685400a", func := "loop.example/g00507/laws.FnNonces", spec := "fnNonces", apart := false, narrowed := true }
def FnNoncesUptoSaid : Prop := fnNoncesUptoRow.holds Try.pinned (OpenSpec.upto fnNoncesSpec)

/-- 'laws.FnExactEncodeVector', WHERE WHAT IT READS IS OF BULK AT MOST 1048576: true; the input reads as it did. -/
def fnExactEncodeVectorUptoRow : OpenClaim := { program := "ytfffongneoegbaa", sum := "0dba45c2b11c116ff6fd3d03f0487b5d058173ceca59ad46985b2c0d6685400a", func := "loop.example/g00507/laws.FnExactEncodeVector", spec := "fnExactEncodeVector", unfollowed := true, recurses := true, apart := false, narrowed := true }
def FnExactEncodeVectorUptoSaid : Prop := fnExactEncodeVectorUptoRow.holds Try.pinned (OpenSpec.upto fnExactEncodeVectorSpec)

/-- 'laws.FnExactDecodeVector', WHERE WHAT IT READS IS OF BULK AT MOST 1048576: true; the input reads as it did. -/
def fnExactDecodeVectorUptoRow : OpenClaim := { program := "ytfffongneoegbaa", sum := "0dba45c2b11c116ff6fd3d03f0487b5d058173ceca59ad46985b2c0d6685400a", func := "loop.example/g00507/laws.FnExactDecodeVector", spec := "fnExactDecodeVector", unfollowed := true, recurses := true, apart := false, narrowed := true }
def FnExactDecodeVectorUptoSaid : Prop := fnExactDecodeVectorUptoRow.holds Try.pinned (OpenSpec.upto fnExactDecodeVectorSpec)

end Rows
end Go.Proofs.Ytfffongneoegbaa
