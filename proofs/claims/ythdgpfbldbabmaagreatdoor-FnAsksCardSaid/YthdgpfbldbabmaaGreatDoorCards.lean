/-
  DERIVED. GIVEN WITH THE SEED: THE CARDS: each row of YthdgpfbldbabmaaGreatDoorRows.lean that lists a variable, with what it lists TIED to the program's text (the seventh form; the later family's looks); each row that meets fmt, with fmt's text TOLD by the authors' own Lean function (tested against real Go, not proved from fmt's source: count such statements apart). THE CARD IS WHAT COUNTS. Prove the row's statement (the work); the ties are given (YthdgpfbldbabmaaGreatDoorTie.lean); close each card by the builder's one call (the guide's Derived/Test/ToyasCard.lean, 'card_holds'). Laid BY PROGRAM, IN A SANDBOX (cutbox-door.mjs). By AI agents, Wed Nov 11 2026. No macro, syntax, notation, axiom, sorry.
-/
import Derived.Test.YthdgpfbldbabmaaGreatDoorRows
import GoSem.ClaimSeven
namespace Go.Proofs.YthdgpfbldbabmaaGreatDoor
namespace Rows

/-- THE TIED CARD OF 'laws.FnAsks'. -/
def fnAsksCard : Claim7 := { stood := { row := fnAsksRow, standIns := [], harness := (true, "a0e83cf5a12bba2d18d9f1ed83d473856cd4194e9773a2a8e63d57a277b22636"), looks := false }, kinds := [], alts := [], laidByText := true, laidKinds := [.data, .data, .data], laidTests := true, laidLooks := .later }
def FnAsksCardSaid : Prop := Claim7.holds Tryz.pinned (.plain (OpenSpec.ofChange fnAsksSpec)) fnAsksCard

/-- THE SECOND FORM's CARD OF 'laws.FnAsks'. -/
def fnAsksUptoCard : Claim7 := { stood := { row := fnAsksUptoRow, standIns := [], harness := (true, "a0e83cf5a12bba2d18d9f1ed83d473856cd4194e9773a2a8e63d57a277b22636"), looks := false }, kinds := [], alts := [], laidByText := true, laidKinds := [.data, .data, .data], laidTests := true, laidLooks := .later }
def FnAsksUptoCardSaid : Prop := Claim7.holds Tryz.pinned (.plain (OpenSpec.upto fnAsksSpec)) fnAsksUptoCard
end Rows
end Go.Proofs.YthdgpfbldbabmaaGreatDoor
