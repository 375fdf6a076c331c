/-
  DERIVED. GIVEN WITH THE SEED: THE CARDS: each row of YtolepebgdfdciaaDoorRows.lean that lists a variable, with what it lists TIED to the program's text (the seventh form; the later family's looks); each row that meets fmt, with fmt's text TOLD by the authors' own Lean function (tested against real Go, not proved from fmt's source: count such statements apart). THE CARD IS WHAT COUNTS. Prove the row's statement (the work); the ties are given (YtolepebgdfdciaaDoorTie.lean); close each card by the builder's one call (the guide's Derived/Test/ToyasCard.lean, 'card_holds'). Laid BY PROGRAM, IN A SANDBOX (cutbox-door.mjs). By AI agents, Wed Nov 11 2026. No macro, syntax, notation, axiom, sorry.
-/
import Derived.Test.YtolepebgdfdciaaDoorRows
import GoSem.ClaimSeven
namespace Go.Proofs.YtolepebgdfdciaaDoor
namespace Rows

/-- THE TIED CARD OF 'laws.FnExactFormatConsumer'. -/
def fnExactFormatConsumerCard : Claim7 := { stood := { row := fnExactFormatConsumerRow, standIns := [], harness := (true, "059e032ad93e7b4a3be1e6b492d41d8b227cb805b90b1bb8d4347d0e13ec0088"), looks := false }, kinds := [], alts := [], laidByText := true, laidKinds := [.data, .data, .data], laidTests := true, laidLooks := .later }
def FnExactFormatConsumerCardSaid : Prop := Claim7.holds Tryd.pinned (.plain (OpenSpec.ofChange fnExactFormatConsumerSpec)) fnExactFormatConsumerCard

/-- THE SECOND FORM's CARD OF 'laws.FnExactFormatConsumer'. -/
def fnExactFormatConsumerUptoCard : Claim7 := { stood := { row := fnExactFormatConsumerUptoRow, standIns := [], harness := (true, "059e032ad93e7b4a3be1e6b492d41d8b227cb805b90b1bb8d4347d0e13ec0088"), looks := false }, kinds := [], alts := [], laidByText := true, laidKinds := [.data, .data, .data], laidTests := true, laidLooks := .later }
def FnExactFormatConsumerUptoCardSaid : Prop := Claim7.holds Tryd.pinned (.plain (OpenSpec.upto fnExactFormatConsumerSpec)) fnExactFormatConsumerUptoCard
end Rows
end Go.Proofs.YtolepebgdfdciaaDoor
