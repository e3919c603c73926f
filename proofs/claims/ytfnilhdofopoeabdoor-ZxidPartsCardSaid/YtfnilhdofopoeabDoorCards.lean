/-
  DERIVED. GIVEN WITH THE SEED: THE CARDS: each row of YtfnilhdofopoeabDoorRows.lean that lists a variable, with what it lists TIED to the program's text (the seventh form; the later family's looks); each row that meets fmt, with fmt's text TOLD by the authors' own Lean function (tested against real Go, not proved from fmt's source: count such statements apart). THE CARD IS WHAT COUNTS. Prove the row's statement (the work); the ties are given (YtfnilhdofopoeabDoorTie.lean); close each card by the builder's one call (the guide's Derived/Test/ToyasCard.lean, 'card_holds'). Laid BY PROGRAM, IN A SANDBOX (cutbox-door.mjs). By AI agents, Wed Nov 11 2026. No macro, syntax, notation, axiom, sorry.
-/
import Derived.Test.YtfnilhdofopoeabDoorRows
import GoSem.ClaimSeven
namespace Go.Proofs.YtfnilhdofopoeabDoor
namespace Rows

/-- THE TIED CARD OF 'aviarylaw.ZxidParts'. -/
def zxidPartsCard : Claim7 := { stood := { row := zxidPartsRow, standIns := [], harness := (true, "e9e028b983e970ca5bfb8a1f646093af344da1dba234ba90c8d00f98cc3c7143"), looks := false }, kinds := [], alts := [], laidByText := true, laidKinds := [.data, .data, .data], laidTests := true, laidLooks := .later }
def ZxidPartsCardSaid : Prop := Claim7.holds Tryd.pinned (.plain (OpenSpec.ofChange zxidPartsSpec)) zxidPartsCard

/-- THE SECOND FORM's CARD OF 'aviarylaw.ZxidParts'. -/
def zxidPartsUptoCard : Claim7 := { stood := { row := zxidPartsUptoRow, standIns := [], harness := (true, "e9e028b983e970ca5bfb8a1f646093af344da1dba234ba90c8d00f98cc3c7143"), looks := false }, kinds := [], alts := [], laidByText := true, laidKinds := [.data, .data, .data], laidTests := true, laidLooks := .later }
def ZxidPartsUptoCardSaid : Prop := Claim7.holds Tryd.pinned (.plain (OpenSpec.upto zxidPartsSpec)) zxidPartsUptoCard
end Rows
end Go.Proofs.YtfnilhdofopoeabDoor
