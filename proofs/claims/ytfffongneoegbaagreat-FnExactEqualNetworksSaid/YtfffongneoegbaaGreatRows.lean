/-
  No cell of these rows narrows 'for every input' (looked for: loops, veiled, ifaces, maps, wideKeys, modest, calm, conditions, laid).
  DERIVED. THE GIVEN ROWS OF THIS SEAT. 7 by the template 'for every input the law returns true; each argument reads behind the call as it read before'; 0 by the template 'total and deterministic' (their statements: YtfffongneoegbaaGreatTotals.lean).
  GIVEN WITH THE SEED: the statements are not yours to turn. If you find one false, say at which input.
  Laid BY PROGRAM, IN A SANDBOX (cutbox-rows.mjs): the forced cells as the released guide's own fill.sh prints them over the translation be0514d5ec64c161… (all of the seat's roots in one cut). By AI agents, Wed Nov 11 2026. No macro, syntax, notation, axiom, sorry.
-/
import Derived.Test.YtfffongneoegbaaGreatChecked
import GoSem.Claim
import GoSem.ClaimJoined
import GoSem.ClaimMapViews
import Derived.JoinedTies
import Derived.KernelRfl
namespace Go.Proofs.YtfffongneoegbaaGreat
/- THE CELL 'sum', in the pinned program and in every row, IS THE sha256 OF THE DUMP (.gsa) THAT YtfffongneoegbaaGreatProg.lean LOADS. Nothing in Lean hashes anything: it is a label: what it is worth is what the hold of that sum in a sandbox is worth. -/
noncomputable def Tryz.pinned : Pinned := { name := "ytfffongneoegbaagreat", sum := "be0514d5ec64c161c07cc8cd5428b330670a9bc1aaa36063475d9ebb966e0886", checked := Tryz.checked }
namespace Rows
def none {H : Type} : Left H := { results := [], args := [] }

/-- 'laws.FnExactAcceptPublication': WHATEVER THE INPUT: true; the input reads as it did. -/
def fnExactAcceptPublicationSpec : ChangeSpec := { name := "fnExactAcceptPublication", fn := fun _ => fun
  | [d1, d2] => { results := [.lit (.bool true)], args := [d1, d2] }
  | _ => none }
def fnExactAcceptPublicationRow : OpenClaim := { program := "ytfffongneoegbaagreat", sum := "be0514d5ec64c161c07cc8cd5428b330670a9bc1aaa36063475d9ebb966e0886", func := "loop.example/g00507/laws.FnExactAcceptPublication", spec := "fnExactAcceptPublication", inPlace := ["slices.overlaps[loop.example/g00507/impl.TableEntry]"], unfollowed := true, recurses := true, apart := false }
def FnExactAcceptPublicationSaid : Prop := fnExactAcceptPublicationRow.holds Tryz.pinned (OpenSpec.ofChange fnExactAcceptPublicationSpec)

/-- ITS FALSE NEIGHBOUR: 'it returns false'. Refute it at one input. -/
def fnExactAcceptPublicationWrong : ChangeSpec := { name := "fnExactAcceptPublication", fn := fun _ => fun
  | [d1, d2] => { results := [.lit (.bool false)], args := [d1, d2] }
  | _ => none }
def FnExactAcceptPublicationWrongFalsely : Prop := fnExactAcceptPublicationRow.holds Tryz.pinned (OpenSpec.ofChange fnExactAcceptPublicationWrong)

/-- 'laws.FnExactPublish': WHATEVER THE INPUT: true; the input reads as it did. -/
def fnExactPublishSpec : ChangeSpec := { name := "fnExactPublish", fn := fun _ => fun
  | [d1, d2] => { results := [.lit (.bool true)], args := [d1, d2] }
  | _ => none }
def fnExactPublishRow : OpenClaim := { program := "ytfffongneoegbaagreat", sum := "be0514d5ec64c161c07cc8cd5428b330670a9bc1aaa36063475d9ebb966e0886", func := "loop.example/g00507/laws.FnExactPublish", spec := "fnExactPublish", inPlace := ["slices.overlaps[loop.example/g00507/impl.TableEntry]"], unfollowed := true, recurses := true, apart := false }
def FnExactPublishSaid : Prop := fnExactPublishRow.holds Tryz.pinned (OpenSpec.ofChange fnExactPublishSpec)

/-- ITS FALSE NEIGHBOUR: 'it returns false'. Refute it at one input. -/
def fnExactPublishWrong : ChangeSpec := { name := "fnExactPublish", fn := fun _ => fun
  | [d1, d2] => { results := [.lit (.bool false)], args := [d1, d2] }
  | _ => none }
def FnExactPublishWrongFalsely : Prop := fnExactPublishRow.holds Tryz.pinned (OpenSpec.ofChange fnExactPublishWrong)

/-- 'laws.FnExactCatchUp': WHATEVER THE INPUT: true; the input reads as it did. -/
def fnExactCatchUpSpec : ChangeSpec := { name := "fnExactCatchUp", fn := fun _ => fun
  | [d1, d2] => { results := [.lit (.bool true)], args := [d1, d2] }
  | _ => none }
def fnExactCatchUpRow : OpenClaim := { program := "ytfffongneoegbaagreat", sum := "be0514d5ec64c161c07cc8cd5428b330670a9bc1aaa36063475d9ebb966e0886", func := "loop.example/g00507/laws.FnExactCatchUp", spec := "fnExactCatchUp", inPlace := ["slices.overlaps[loop.example/g00507/impl.TableEntry]"], unfollowed := true, recurses := true, apart := false }
def FnExactCatchUpSaid : Prop := fnExactCatchUpRow.holds Tryz.pinned (OpenSpec.ofChange fnExactCatchUpSpec)

/-- ITS FALSE NEIGHBOUR: 'it returns false'. Refute it at one input. -/
def fnExactCatchUpWrong : ChangeSpec := { name := "fnExactCatchUp", fn := fun _ => fun
  | [d1, d2] => { results := [.lit (.bool false)], args := [d1, d2] }
  | _ => none }
def FnExactCatchUpWrongFalsely : Prop := fnExactCatchUpRow.holds Tryz.pinned (OpenSpec.ofChange fnExactCatchUpWrong)

/-- 'laws.FnExactAcceptData': WHATEVER THE INPUT: true; the input reads as it did. -/
def fnExactAcceptDataSpec : ChangeSpec := { name := "fnExactAcceptData", fn := fun _ => fun
  | [d1, d2, d3, d4] => { results := [.lit (.bool true)], args := [d1, d2, d3, d4] }
  | _ => none }
def fnExactAcceptDataRow : OpenClaim := { program := "ytfffongneoegbaagreat", sum := "be0514d5ec64c161c07cc8cd5428b330670a9bc1aaa36063475d9ebb966e0886", func := "loop.example/g00507/laws.FnExactAcceptData", spec := "fnExactAcceptData", unfollowed := true, recurses := true, apart := false }
def FnExactAcceptDataSaid : Prop := fnExactAcceptDataRow.holds Tryz.pinned (OpenSpec.ofChange fnExactAcceptDataSpec)

/-- ITS FALSE NEIGHBOUR: 'it returns false'. Refute it at one input. -/
def fnExactAcceptDataWrong : ChangeSpec := { name := "fnExactAcceptData", fn := fun _ => fun
  | [d1, d2, d3, d4] => { results := [.lit (.bool false)], args := [d1, d2, d3, d4] }
  | _ => none }
def FnExactAcceptDataWrongFalsely : Prop := fnExactAcceptDataRow.holds Tryz.pinned (OpenSpec.ofChange fnExactAcceptDataWrong)

/-- 'laws.FnExactEqualNetworks': WHATEVER THE INPUT: true; the input reads as it did. -/
def fnExactEqualNetworksSpec : ChangeSpec := { name := "fnExactEqualNetworks", fn := fun _ => fun
  | [d1, d2] => { results := [.lit (.bool true)], args := [d1, d2] }
  | _ => none }
def fnExactEqualNetworksRow : OpenClaim := { program := "ytfffongneoegbaagreat", sum := "be0514d5ec64c161c07cc8cd5428b330670a9bc1aaa36063475d9ebb966e0886", func := "loop.example/g00507/laws.FnExactEqualNetworks", spec := "fnExactEqualNetworks", unfollowed := true, recurses := true, apart := false }
def FnExactEqualNetworksSaid : Prop := fnExactEqualNetworksRow.holds Tryz.pinned (OpenSpec.ofChange fnExactEqualNetworksSpec)

/-- ITS FALSE NEIGHBOUR: 'it returns false'. Refute it at one input. -/
def fnExactEqualNetworksWrong : ChangeSpec := { name := "fnExactEqualNetworks", fn := fun _ => fun
  | [d1, d2] => { results := [.lit (.bool false)], args := [d1, d2] }
  | _ => none }
def FnExactEqualNetworksWrongFalsely : Prop := fnExactEqualNetworksRow.holds Tryz.pinned (OpenSpec.ofChange fnExactEqualNetworksWrong)

/-- 'laws.FnExactLiveTopology': WHATEVER THE INPUT: true; the input reads as it did. -/
def fnExactLiveTopologySpec : ChangeSpec := { name := "fnExactLiveTopology", fn := fun _ => fun
  | [d] => { results := [.lit (.bool true)], args := [d] }
  | _ => none }
def fnExactLiveTopologyRow : OpenClaim := { program := "ytfffongneoegbaagreat", sum := "be0514d5ec64c161c07cc8cd5428b330670a9bc1aaa36063475d9ebb966e0886", func := "loop.example/g00507/laws.FnExactLiveTopology", spec := "fnExactLiveTopology", apart := false }
def FnExactLiveTopologySaid : Prop := fnExactLiveTopologyRow.holds Tryz.pinned (OpenSpec.ofChange fnExactLiveTopologySpec)

/-- ITS FALSE NEIGHBOUR: 'it returns false'. Refute it at one input. -/
def fnExactLiveTopologyWrong : ChangeSpec := { name := "fnExactLiveTopology", fn := fun _ => fun
  | [d] => { results := [.lit (.bool false)], args := [d] }
  | _ => none }
def FnExactLiveTopologyWrongFalsely : Prop := fnExactLiveTopologyRow.holds Tryz.pinned (OpenSpec.ofChange fnExactLiveTopologyWrong)

/-- 'laws.FnExactValidNetwork': WHATEVER THE INPUT: true; the input reads as it did. -/
def fnExactValidNetworkSpec : ChangeSpec := { name := "fnExactValidNetwork", fn := fun _ => fun
  | [d] => { results := [.lit (.bool true)], args := [d] }
  | _ => none }
def fnExactValidNetworkRow : OpenClaim := { program := "ytfffongneoegbaagreat", sum := "be0514d5ec64c161c07cc8cd5428b330670a9bc1aaa36063475d9ebb966e0886", func := "loop.example/g00507/laws.FnExactValidNetwork", spec := "fnExactValidNetwork", unfollowed := true, recurses := true, apart := false }
def FnExactValidNetworkSaid : Prop := fnExactValidNetworkRow.holds Tryz.pinned (OpenSpec.ofChange fnExactValidNetworkSpec)

/-- ITS FALSE NEIGHBOUR: 'it returns false'. Refute it at one input. -/
def fnExactValidNetworkWrong : ChangeSpec := { name := "fnExactValidNetwork", fn := fun _ => fun
  | [d] => { results := [.lit (.bool false)], args := [d] }
  | _ => none }
def FnExactValidNetworkWrongFalsely : Prop := fnExactValidNetworkRow.holds Tryz.pinned (OpenSpec.ofChange fnExactValidNetworkWrong)

/- THE SECOND FORM. 'bulk': how many values and letters a reading holds, each counted each time it is reached (what is shared counts as often as it is met; a slice's spare places count too). A statement '..UptoSaid' is the law's where the arguments, and the package variables that the reading takes, are together of bulk at most 1048576: NARROWER than '..Said'. Prove '..Said' where nothing that the law and all that it calls make is longer than what came in: it says more and counts as full. Else prove '..UptoSaid'. A law counts once. -/
mutual
def uptoBulk {H : Type} : DataW H → Nat
  | .lit (.string bytes) => bytes.length + 1
  | .lit _ => 1
  | .nil => 1
  | .ptr d => uptoBulk d + 1
  | .slice elems spare => uptoBulkAll elems + uptoBulkAll spare + 1
  | .agg parts => uptoBulkAll parts + 1
  | .iface _ d => uptoBulk d + 1
  | .map entries => uptoBulkEntries entries + 1
  | .held _ => 1
def uptoBulkAll {H : Type} : List (DataW H) → Nat
  | [] => 0
  | d :: r => uptoBulk d + uptoBulkAll r
def uptoBulkEntries {H : Type} : List (Lit × DataW H) → Nat
  | [] => 0
  | x :: r => uptoBulkEntry x + uptoBulkEntries r
def uptoBulkEntry {H : Type} : Lit × DataW H → Nat
  | (.string bytes, d) => bytes.length + uptoBulk d + 1
  | (_, d) => uptoBulk d + 1
 end
def uptoSmall : (H : Type) → List (DataW H) → Bool := fun _ ds => decide (uptoBulkAll ds ≤ 1048576)
def OpenSpec.upto (s : _root_.Go.ChangeSpec) : _root_.Go.OpenSpec := { _root_.Go.OpenSpec.ofChange s with cond := some uptoSmall }

/-- 'laws.FnExactAcceptPublication', WHERE WHAT IT READS IS OF BULK AT MOST 1048576: true; the input reads as it did. -/
def fnExactAcceptPublicationUptoRow : OpenClaim := { program := "ytfffongneoegbaagreat", sum := "be0514d5ec64c161c07cc8cd5428b330670a9bc1aaa36063475d9ebb966e0886", func := "loop.example/g00507/laws.FnExactAcceptPublication", spec := "fnExactAcceptPublication", inPlace := ["slices.overlaps[loop.example/g00507/impl.TableEntry]"], unfollowed := true, recurses := true, apart := false, narrowed := true }
def FnExactAcceptPublicationUptoSaid : Prop := fnExactAcceptPublicationUptoRow.holds Tryz.pinned (OpenSpec.upto fnExactAcceptPublicationSpec)

/-- 'laws.FnExactPublish', WHERE WHAT IT READS IS OF BULK AT MOST 1048576: true; the input reads as it did. -/
def fnExactPublishUptoRow : OpenClaim := { program := "ytfffongneoegbaagreat", sum := "be0514d5ec64c161c07cc8cd5428b330670a9bc1aaa36063475d9ebb966e0886", func := "loop.example/g00507/laws.FnExactPublish", spec := "fnExactPublish", inPlace := ["slices.overlaps[loop.example/g00507/impl.TableEntry]"], unfollowed := true, recurses := true, apart := false, narrowed := true }
def FnExactPublishUptoSaid : Prop := fnExactPublishUptoRow.holds Tryz.pinned (OpenSpec.upto fnExactPublishSpec)

/-- 'laws.FnExactCatchUp', WHERE WHAT IT READS IS OF BULK AT MOST 1048576: true; the input reads as it did. -/
def fnExactCatchUpUptoRow : OpenClaim := { program := "ytfffongneoegbaagreat", sum := "be0514d5ec64c161c07cc8cd5428b330670a9bc1aaa36063475d9ebb966e0886", func := "loop.example/g00507/laws.FnExactCatchUp", spec := "fnExactCatchUp", inPlace := ["slices.overlaps[loop.example/g00507/impl.TableEntry]"], unfollowed := true, recurses := true, apart := false, narrowed := true }
def FnExactCatchUpUptoSaid : Prop := fnExactCatchUpUptoRow.holds Tryz.pinned (OpenSpec.upto fnExactCatchUpSpec)

/-- 'laws.FnExactAcceptData', WHERE WHAT IT READS IS OF BULK AT MOST 1048576: true; the input reads as it did. -/
def fnExactAcceptDataUptoRow : OpenClaim := { program := "ytfffongneoegbaagreat", sum := "be0514d5ec64c161c07cc8cd5428b330670a9bc1aaa36063475d9ebb966e0886", func := "loop.example/g00507/laws.FnExactAcceptData", spec := "fnExactAcceptData", unfollowed := true, recurses := true, apart := false, narrowed := true }
def FnExactAcceptDataUptoSaid : Prop := fnExactAcceptDataUptoRow.holds Tryz.pinned (OpenSpec.upto fnExactAcceptDataSpec)

/-- 'laws.FnExactEqualNetworks', WHERE WHAT IT READS IS OF BULK AT MOST 1048576: true; the input reads as it did. -/
def fnExactEqualNetworksUptoRow : OpenClaim := { program := "ytfffongneoegbaagreat", sum := "be0514d5ec64c161c07cc8cd5428b330670a9bc1aaa36063475d9ebb966e0886", func := "loop.example/g00507/laws.FnExactEqualNetworks", spec := "fnExactEqualNetworks", unfollowed := true, recurses := true, apart := false, narrowed := true }
def FnExactEqualNetworksUptoSaid : Prop := fnExactEqualNetworksUptoRow.holds Tryz.pinned (OpenSpec.upto fnExactEqualNetworksSpec)

/-- 'laws.FnExactLiveTopology', WHERE WHAT IT READS IS OF BULK AT MOST 1048576: true; the input reads as it did. -/
def fnExactLiveTopologyUptoRow : OpenClaim := { program := "ytfffongneoegbaagreat", sum := "be0514d5ec64c161c07cc8cd5428b330670a9bc1aaa36063475d9ebb966e0886", func := "loop.example/g00507/laws.FnExactLiveTopology", spec := "fnExactLiveTopology", apart := false, narrowed := true }
def FnExactLiveTopologyUptoSaid : Prop := fnExactLiveTopologyUptoRow.holds Tryz.pinned (OpenSpec.upto fnExactLiveTopologySpec)

/-- 'laws.FnExactValidNetwork', WHERE WHAT IT READS IS OF BULK AT MOST 1048576: true; the input reads as it did. -/
def fnExactValidNetworkUptoRow : OpenClaim := { program := "ytfffongneoegbaagreat", sum := "be0514d5ec64c161c07cc8cd5428b330670a9bc1aaa36063475d9ebb966e0886", func := "loop.example/g00507/laws.FnExactValidNetwork", spec := "fnExactValidNetwork", unfollowed := true, recurses := true, apart := false, narrowed := true }
def FnExactValidNetworkUptoSaid : Prop := fnExactValidNetworkUptoRow.holds Tryz.pinned (OpenSpec.upto fnExactValidNetworkSpec)

end Rows
end Go.Proofs.YtfffongneoegbaaGreat
