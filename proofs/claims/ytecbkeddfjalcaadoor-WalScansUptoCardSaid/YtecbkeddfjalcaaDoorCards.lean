/-
  DERIVED. GIVEN WITH THE SEED: THE CARDS: each row of YtecbkeddfjalcaaDoorRows.lean that lists a variable, with what it lists TIED to the program's text (the seventh form; the later family's looks); each row that meets fmt, with fmt's text TOLD by the authors' own Lean function (tested against real Go, not proved from fmt's source: count such statements apart). THE CARD IS WHAT COUNTS. Prove the row's statement (the work); the ties are given (YtecbkeddfjalcaaDoorTie.lean); close each card by the builder's one call (the guide's Derived/Test/ToyasCard.lean, 'card_holds'). Laid BY PROGRAM, IN A SANDBOX (cutbox-door.mjs). By AI agents, Wed Nov 11 2026. No macro, syntax, notation, axiom, sorry.
-/
import Derived.Test.YtecbkeddfjalcaaDoorRows
import GoSem.ClaimSeven
namespace Go.Proofs.YtecbkeddfjalcaaDoor
namespace Rows

/-- THE TIED CARD OF 'aviarylaw.PathGoods'. -/
def pathGoodsCard : Claim7 := { stood := { row := pathGoodsRow, standIns := [], harness := (true, "f48cd9ee70e3361a4e53b18c99780bee23f90a56b4f0e3fcdde52fd86e5e40fa"), looks := false }, kinds := [], alts := [], laidByText := true, laidKinds := [.data, .pinned], laidTests := true, laidLooks := .later }
def PathGoodsCardSaid : Prop := Claim7.holds Tryd.pinned (.plain (OpenSpec.ofChange pathGoodsSpec)) pathGoodsCard

/-- THE TIED CARD OF 'aviarylaw.ZxidParts'. -/
def zxidPartsCard : Claim7 := { stood := { row := zxidPartsRow, standIns := [], harness := (true, "f48cd9ee70e3361a4e53b18c99780bee23f90a56b4f0e3fcdde52fd86e5e40fa"), looks := false }, kinds := [], alts := [], laidByText := true, laidKinds := [.data, .data, .data], laidTests := true, laidLooks := .later }
def ZxidPartsCardSaid : Prop := Claim7.holds Tryd.pinned (.plain (OpenSpec.ofChange zxidPartsSpec)) zxidPartsCard

/-- THE TIED CARD OF 'aviarylaw.PathUnders'. -/
def pathUndersCard : Claim7 := { stood := { row := pathUndersRow, standIns := [], harness := (true, "f48cd9ee70e3361a4e53b18c99780bee23f90a56b4f0e3fcdde52fd86e5e40fa"), looks := false }, kinds := [], alts := [], laidByText := true, laidKinds := [.data, .pinned], laidTests := true, laidLooks := .later }
def PathUndersCardSaid : Prop := Claim7.holds Tryd.pinned (.plain (OpenSpec.ofChange pathUndersSpec)) pathUndersCard

/-- THE TIED CARD OF 'aviarylaw.PathJoins'. -/
def pathJoinsCard : Claim7 := { stood := { row := pathJoinsRow, standIns := [], harness := (true, "f48cd9ee70e3361a4e53b18c99780bee23f90a56b4f0e3fcdde52fd86e5e40fa"), looks := false }, kinds := [], alts := [], laidByText := true, laidKinds := [.data, .pinned], laidTests := true, laidLooks := .later }
def PathJoinsCardSaid : Prop := Claim7.holds Tryd.pinned (.plain (OpenSpec.ofChange pathJoinsSpec)) pathJoinsCard

/-- THE TIED CARD OF 'aviarylaw.WatchAdds'. -/
def watchAddsCard : Claim7 := { stood := { row := watchAddsRow, standIns := [], harness := (true, "f48cd9ee70e3361a4e53b18c99780bee23f90a56b4f0e3fcdde52fd86e5e40fa"), looks := false }, kinds := [], alts := [], laidByText := true, laidKinds := [.data, .pinned], laidTests := true, laidLooks := .later }
def WatchAddsCardSaid : Prop := Claim7.holds Tryd.pinned (.plain (OpenSpec.ofChange watchAddsSpec)) watchAddsCard

/-- THE TIED CARD OF 'aviarylaw.WireEncodes'. -/
def wireEncodesCard : Claim7 := { stood := { row := wireEncodesRow, standIns := [], harness := (true, "f48cd9ee70e3361a4e53b18c99780bee23f90a56b4f0e3fcdde52fd86e5e40fa"), looks := false }, kinds := [], alts := [], laidByText := true, laidKinds := [.data, .pinned], laidTests := true, laidLooks := .later }
def WireEncodesCardSaid : Prop := Claim7.holds Tryd.pinned (.plain (OpenSpec.ofChange wireEncodesSpec)) wireEncodesCard

/-- THE TIED CARD OF 'aviarylaw.PathSplits'. -/
def pathSplitsCard : Claim7 := { stood := { row := pathSplitsRow, standIns := [], harness := (true, "f48cd9ee70e3361a4e53b18c99780bee23f90a56b4f0e3fcdde52fd86e5e40fa"), looks := false }, kinds := [], alts := [], laidByText := true, laidKinds := [.data, .pinned], laidTests := true, laidLooks := .later }
def PathSplitsCardSaid : Prop := Claim7.holds Tryd.pinned (.plain (OpenSpec.ofChange pathSplitsSpec)) pathSplitsCard

/-- THE TIED CARD OF 'aviarylaw.WireDecodes'. -/
def wireDecodesCard : Claim7 := { stood := { row := wireDecodesRow, standIns := [], harness := (true, "f48cd9ee70e3361a4e53b18c99780bee23f90a56b4f0e3fcdde52fd86e5e40fa"), looks := false }, kinds := [], alts := [], laidByText := true, laidKinds := [.data, .pinned], laidTests := true, laidLooks := .later }
def WireDecodesCardSaid : Prop := Claim7.holds Tryd.pinned (.plain (OpenSpec.ofChange wireDecodesSpec)) wireDecodesCard

/-- THE TIED CARD OF 'aviarylaw.WalScans'. -/
def walScansCard : Claim7 := { stood := { row := walScansRow, standIns := [], harness := (true, "f48cd9ee70e3361a4e53b18c99780bee23f90a56b4f0e3fcdde52fd86e5e40fa"), looks := false }, kinds := [], alts := [], laidByText := true, laidKinds := [.data, .pinned], laidTests := true, laidLooks := .later }
def WalScansCardSaid : Prop := Claim7.holds Tryd.pinned (.plain (OpenSpec.ofChange walScansSpec)) walScansCard

/-- THE TIED CARD OF 'aviarylaw.WalAppends'. -/
def walAppendsCard : Claim7 := { stood := { row := walAppendsRow, standIns := [], harness := (true, "f48cd9ee70e3361a4e53b18c99780bee23f90a56b4f0e3fcdde52fd86e5e40fa"), looks := false }, kinds := [], alts := [], laidByText := true, laidKinds := [.data, .pinned], laidTests := true, laidLooks := .later }
def WalAppendsCardSaid : Prop := Claim7.holds Tryd.pinned (.plain (OpenSpec.ofChange walAppendsSpec)) walAppendsCard

/-- THE SECOND FORM's CARD OF 'aviarylaw.PathGoods'. -/
def pathGoodsUptoCard : Claim7 := { stood := { row := pathGoodsUptoRow, standIns := [], harness := (true, "f48cd9ee70e3361a4e53b18c99780bee23f90a56b4f0e3fcdde52fd86e5e40fa"), looks := false }, kinds := [], alts := [], laidByText := true, laidKinds := [.data, .pinned], laidTests := true, laidLooks := .later }
def PathGoodsUptoCardSaid : Prop := Claim7.holds Tryd.pinned (.plain (OpenSpec.upto pathGoodsSpec)) pathGoodsUptoCard

/-- THE SECOND FORM's CARD OF 'aviarylaw.ZxidParts'. -/
def zxidPartsUptoCard : Claim7 := { stood := { row := zxidPartsUptoRow, standIns := [], harness := (true, "f48cd9ee70e3361a4e53b18c99780bee23f90a56b4f0e3fcdde52fd86e5e40fa"), looks := false }, kinds := [], alts := [], laidByText := true, laidKinds := [.data, .data, .data], laidTests := true, laidLooks := .later }
def ZxidPartsUptoCardSaid : Prop := Claim7.holds Tryd.pinned (.plain (OpenSpec.upto zxidPartsSpec)) zxidPartsUptoCard

/-- THE SECOND FORM's CARD OF 'aviarylaw.PathUnders'. -/
def pathUndersUptoCard : Claim7 := { stood := { row := pathUndersUptoRow, standIns := [], harness := (true, "f48cd9ee70e3361a4e53b18c99780bee23f90a56b4f0e3fcdde52fd86e5e40fa"), looks := false }, kinds := [], alts := [], laidByText := true, laidKinds := [.data, .pinned], laidTests := true, laidLooks := .later }
def PathUndersUptoCardSaid : Prop := Claim7.holds Tryd.pinned (.plain (OpenSpec.upto pathUndersSpec)) pathUndersUptoCard

/-- THE SECOND FORM's CARD OF 'aviarylaw.PathJoins'. -/
def pathJoinsUptoCard : Claim7 := { stood := { row := pathJoinsUptoRow, standIns := [], harness := (true, "f48cd9ee70e3361a4e53b18c99780bee23f90a56b4f0e3fcdde52fd86e5e40fa"), looks := false }, kinds := [], alts := [], laidByText := true, laidKinds := [.data, .pinned], laidTests := true, laidLooks := .later }
def PathJoinsUptoCardSaid : Prop := Claim7.holds Tryd.pinned (.plain (OpenSpec.upto pathJoinsSpec)) pathJoinsUptoCard

/-- THE SECOND FORM's CARD OF 'aviarylaw.WatchAdds'. -/
def watchAddsUptoCard : Claim7 := { stood := { row := watchAddsUptoRow, standIns := [], harness := (true, "f48cd9ee70e3361a4e53b18c99780bee23f90a56b4f0e3fcdde52fd86e5e40fa"), looks := false }, kinds := [], alts := [], laidByText := true, laidKinds := [.data, .pinned], laidTests := true, laidLooks := .later }
def WatchAddsUptoCardSaid : Prop := Claim7.holds Tryd.pinned (.plain (OpenSpec.upto watchAddsSpec)) watchAddsUptoCard

/-- THE SECOND FORM's CARD OF 'aviarylaw.WireEncodes'. -/
def wireEncodesUptoCard : Claim7 := { stood := { row := wireEncodesUptoRow, standIns := [], harness := (true, "f48cd9ee70e3361a4e53b18c99780bee23f90a56b4f0e3fcdde52fd86e5e40fa"), looks := false }, kinds := [], alts := [], laidByText := true, laidKinds := [.data, .pinned], laidTests := true, laidLooks := .later }
def WireEncodesUptoCardSaid : Prop := Claim7.holds Tryd.pinned (.plain (OpenSpec.upto wireEncodesSpec)) wireEncodesUptoCard

/-- THE SECOND FORM's CARD OF 'aviarylaw.PathSplits'. -/
def pathSplitsUptoCard : Claim7 := { stood := { row := pathSplitsUptoRow, standIns := [], harness := (true, "f48cd9ee70e3361a4e53b18c99780bee23f90a56b4f0e3fcdde52fd86e5e40fa"), looks := false }, kinds := [], alts := [], laidByText := true, laidKinds := [.data, .pinned], laidTests := true, laidLooks := .later }
def PathSplitsUptoCardSaid : Prop := Claim7.holds Tryd.pinned (.plain (OpenSpec.upto pathSplitsSpec)) pathSplitsUptoCard

/-- THE SECOND FORM's CARD OF 'aviarylaw.WireDecodes'. -/
def wireDecodesUptoCard : Claim7 := { stood := { row := wireDecodesUptoRow, standIns := [], harness := (true, "f48cd9ee70e3361a4e53b18c99780bee23f90a56b4f0e3fcdde52fd86e5e40fa"), looks := false }, kinds := [], alts := [], laidByText := true, laidKinds := [.data, .pinned], laidTests := true, laidLooks := .later }
def WireDecodesUptoCardSaid : Prop := Claim7.holds Tryd.pinned (.plain (OpenSpec.upto wireDecodesSpec)) wireDecodesUptoCard

/-- THE SECOND FORM's CARD OF 'aviarylaw.WalScans'. -/
def walScansUptoCard : Claim7 := { stood := { row := walScansUptoRow, standIns := [], harness := (true, "f48cd9ee70e3361a4e53b18c99780bee23f90a56b4f0e3fcdde52fd86e5e40fa"), looks := false }, kinds := [], alts := [], laidByText := true, laidKinds := [.data, .pinned], laidTests := true, laidLooks := .later }
def WalScansUptoCardSaid : Prop := Claim7.holds Tryd.pinned (.plain (OpenSpec.upto walScansSpec)) walScansUptoCard

/-- THE SECOND FORM's CARD OF 'aviarylaw.WalAppends'. -/
def walAppendsUptoCard : Claim7 := { stood := { row := walAppendsUptoRow, standIns := [], harness := (true, "f48cd9ee70e3361a4e53b18c99780bee23f90a56b4f0e3fcdde52fd86e5e40fa"), looks := false }, kinds := [], alts := [], laidByText := true, laidKinds := [.data, .pinned], laidTests := true, laidLooks := .later }
def WalAppendsUptoCardSaid : Prop := Claim7.holds Tryd.pinned (.plain (OpenSpec.upto walAppendsSpec)) walAppendsUptoCard
end Rows
end Go.Proofs.YtecbkeddfjalcaaDoor
