/-
  DERIVED. GIVEN WITH THE SEED: THE CARDS: each row of YtmpfhalheaeibaaDoorRows.lean that lists a variable, with what it lists TIED to the program's text (the seventh form; the later family's looks); each row that meets fmt, with fmt's text TOLD by the authors' own Lean function (tested against real Go, not proved from fmt's source: count such statements apart). THE CARD IS WHAT COUNTS. Prove the row's statement (the work); the ties are given (YtmpfhalheaeibaaDoorTie.lean); close each card by the builder's one call (the guide's Derived/Test/ToyasCard.lean, 'card_holds'). Laid BY PROGRAM, IN A SANDBOX (cutbox-door.mjs). By AI agents, Wed Nov 11 2026. No macro, syntax, notation, axiom, sorry.
-/
import Derived.Test.YtmpfhalheaeibaaDoorRows
import GoSem.ClaimSeven
namespace Go.Proofs.YtmpfhalheaeibaaDoor
namespace Rows

/-- THE TIED CARD OF 'aviarylaw.WalAppends'. -/
def walAppendsCard : Claim7 := { stood := { row := walAppendsRow, standIns := [], harness := (true, "d6abe13421cd4fe0c9ce1cac1643881b5359e9a68f8f62985d5ae200d2ae43b6"), looks := false }, kinds := [], alts := [], laidByText := true, laidKinds := [.data, .pinned], laidTests := true, laidLooks := .later }
def WalAppendsCardSaid : Prop := Claim7.holds Tryd.pinned (.plain (OpenSpec.ofChange walAppendsSpec)) walAppendsCard

/-- THE TIED CARD OF 'aviarylaw.WalRecovers'. -/
def walRecoversCard : Claim7 := { stood := { row := walRecoversRow, standIns := [], harness := (true, "d6abe13421cd4fe0c9ce1cac1643881b5359e9a68f8f62985d5ae200d2ae43b6"), looks := false }, kinds := [], alts := [], laidByText := true, laidKinds := [.data, .pinned], laidTests := true, laidLooks := .later }
def WalRecoversCardSaid : Prop := Claim7.holds Tryd.pinned (.plain (OpenSpec.ofChange walRecoversSpec)) walRecoversCard

/-- THE TIED CARD OF 'aviarylaw.SnapWrites'. -/
def snapWritesCard : Claim7 := { stood := { row := snapWritesRow, standIns := [], harness := (true, "d6abe13421cd4fe0c9ce1cac1643881b5359e9a68f8f62985d5ae200d2ae43b6"), looks := false }, kinds := [], alts := [], laidByText := true, laidKinds := [.data, .pinned], laidTests := true, laidLooks := .later }
def SnapWritesCardSaid : Prop := Claim7.holds Tryd.pinned (.plain (OpenSpec.ofChange snapWritesSpec)) snapWritesCard

/-- THE TIED CARD OF 'aviarylaw.SnapReads'. -/
def snapReadsCard : Claim7 := { stood := { row := snapReadsRow, standIns := [], harness := (true, "d6abe13421cd4fe0c9ce1cac1643881b5359e9a68f8f62985d5ae200d2ae43b6"), looks := false }, kinds := [], alts := [], laidByText := true, laidKinds := [.data, .pinned], laidTests := true, laidLooks := .later }
def SnapReadsCardSaid : Prop := Claim7.holds Tryd.pinned (.plain (OpenSpec.ofChange snapReadsSpec)) snapReadsCard

/-- THE TIED CARD OF 'aviarylaw.TreeLooks'. -/
def treeLooksCard : Claim7 := { stood := { row := treeLooksRow, standIns := [], harness := (true, "d6abe13421cd4fe0c9ce1cac1643881b5359e9a68f8f62985d5ae200d2ae43b6"), looks := false }, kinds := [], alts := [], laidByText := true, laidKinds := [.data, .pinned], laidTests := true, laidLooks := .later }
def TreeLooksCardSaid : Prop := Claim7.holds Tryd.pinned (.plain (OpenSpec.ofChange treeLooksSpec)) treeLooksCard

/-- THE TIED CARD OF 'aviarylaw.RecipeReady'. -/
def recipeReadyCard : Claim7 := { stood := { row := recipeReadyRow, standIns := [], harness := (true, "d6abe13421cd4fe0c9ce1cac1643881b5359e9a68f8f62985d5ae200d2ae43b6"), looks := false }, kinds := [], alts := [], laidByText := true, laidKinds := [.data, .pinned], laidTests := true, laidLooks := .later }
def RecipeReadyCardSaid : Prop := Claim7.holds Tryd.pinned (.plain (OpenSpec.ofChange recipeReadySpec)) recipeReadyCard

/-- THE TIED CARD OF 'aviarylaw.RecipeLines'. -/
def recipeLinesCard : Claim7 := { stood := { row := recipeLinesRow, standIns := [], harness := (true, "d6abe13421cd4fe0c9ce1cac1643881b5359e9a68f8f62985d5ae200d2ae43b6"), looks := false }, kinds := [], alts := [], laidByText := true, laidKinds := [.data, .pinned], laidTests := true, laidLooks := .later }
def RecipeLinesCardSaid : Prop := Claim7.holds Tryd.pinned (.plain (OpenSpec.ofChange recipeLinesSpec)) recipeLinesCard

/-- THE TIED CARD OF 'aviarylaw.TreeApplies'. -/
def treeAppliesCard : Claim7 := { stood := { row := treeAppliesRow, standIns := [], harness := (true, "d6abe13421cd4fe0c9ce1cac1643881b5359e9a68f8f62985d5ae200d2ae43b6"), looks := false }, kinds := [], alts := [], laidByText := true, laidKinds := [.data, .pinned], laidTests := true, laidLooks := .later }
def TreeAppliesCardSaid : Prop := Claim7.holds Tryd.pinned (.plain (OpenSpec.ofChange treeAppliesSpec)) treeAppliesCard

/-- THE TIED CARD OF 'aviarylaw.TreePlays'. -/
def treePlaysCard : Claim7 := { stood := { row := treePlaysRow, standIns := [], harness := (true, "d6abe13421cd4fe0c9ce1cac1643881b5359e9a68f8f62985d5ae200d2ae43b6"), looks := false }, kinds := [], alts := [], laidByText := true, laidKinds := [.data, .pinned], laidTests := true, laidLooks := .later }
def TreePlaysCardSaid : Prop := Claim7.holds Tryd.pinned (.plain (OpenSpec.ofChange treePlaysSpec)) treePlaysCard

/-- THE TIED CARD OF 'aviarylaw.PrepMakes'. -/
def prepMakesCard : Claim7 := { stood := { row := prepMakesRow, standIns := [], harness := (true, "d6abe13421cd4fe0c9ce1cac1643881b5359e9a68f8f62985d5ae200d2ae43b6"), looks := false }, kinds := [], alts := [], laidByText := true, laidKinds := [.data, .pinned], laidTests := true, laidLooks := .later }
def PrepMakesCardSaid : Prop := Claim7.holds Tryd.pinned (.plain (OpenSpec.ofChange prepMakesSpec)) prepMakesCard

/-- THE TIED CARD OF 'aviarylaw.StoreTakes'. -/
def storeTakesCard : Claim7 := { stood := { row := storeTakesRow, standIns := [], harness := (true, "d6abe13421cd4fe0c9ce1cac1643881b5359e9a68f8f62985d5ae200d2ae43b6"), looks := false }, kinds := [], alts := [], laidByText := true, laidKinds := [.data, .pinned], laidTests := true, laidLooks := .later }
def StoreTakesCardSaid : Prop := Claim7.holds Tryd.pinned (.plain (OpenSpec.ofChange storeTakesSpec)) storeTakesCard

/-- THE SECOND FORM's CARD OF 'aviarylaw.WalAppends'. -/
def walAppendsUptoCard : Claim7 := { stood := { row := walAppendsUptoRow, standIns := [], harness := (true, "d6abe13421cd4fe0c9ce1cac1643881b5359e9a68f8f62985d5ae200d2ae43b6"), looks := false }, kinds := [], alts := [], laidByText := true, laidKinds := [.data, .pinned], laidTests := true, laidLooks := .later }
def WalAppendsUptoCardSaid : Prop := Claim7.holds Tryd.pinned (.plain (OpenSpec.upto walAppendsSpec)) walAppendsUptoCard

/-- THE SECOND FORM's CARD OF 'aviarylaw.WalRecovers'. -/
def walRecoversUptoCard : Claim7 := { stood := { row := walRecoversUptoRow, standIns := [], harness := (true, "d6abe13421cd4fe0c9ce1cac1643881b5359e9a68f8f62985d5ae200d2ae43b6"), looks := false }, kinds := [], alts := [], laidByText := true, laidKinds := [.data, .pinned], laidTests := true, laidLooks := .later }
def WalRecoversUptoCardSaid : Prop := Claim7.holds Tryd.pinned (.plain (OpenSpec.upto walRecoversSpec)) walRecoversUptoCard

/-- THE SECOND FORM's CARD OF 'aviarylaw.SnapWrites'. -/
def snapWritesUptoCard : Claim7 := { stood := { row := snapWritesUptoRow, standIns := [], harness := (true, "d6abe13421cd4fe0c9ce1cac1643881b5359e9a68f8f62985d5ae200d2ae43b6"), looks := false }, kinds := [], alts := [], laidByText := true, laidKinds := [.data, .pinned], laidTests := true, laidLooks := .later }
def SnapWritesUptoCardSaid : Prop := Claim7.holds Tryd.pinned (.plain (OpenSpec.upto snapWritesSpec)) snapWritesUptoCard

/-- THE SECOND FORM's CARD OF 'aviarylaw.SnapReads'. -/
def snapReadsUptoCard : Claim7 := { stood := { row := snapReadsUptoRow, standIns := [], harness := (true, "d6abe13421cd4fe0c9ce1cac1643881b5359e9a68f8f62985d5ae200d2ae43b6"), looks := false }, kinds := [], alts := [], laidByText := true, laidKinds := [.data, .pinned], laidTests := true, laidLooks := .later }
def SnapReadsUptoCardSaid : Prop := Claim7.holds Tryd.pinned (.plain (OpenSpec.upto snapReadsSpec)) snapReadsUptoCard

/-- THE SECOND FORM's CARD OF 'aviarylaw.TreeLooks'. -/
def treeLooksUptoCard : Claim7 := { stood := { row := treeLooksUptoRow, standIns := [], harness := (true, "d6abe13421cd4fe0c9ce1cac1643881b5359e9a68f8f62985d5ae200d2ae43b6"), looks := false }, kinds := [], alts := [], laidByText := true, laidKinds := [.data, .pinned], laidTests := true, laidLooks := .later }
def TreeLooksUptoCardSaid : Prop := Claim7.holds Tryd.pinned (.plain (OpenSpec.upto treeLooksSpec)) treeLooksUptoCard

/-- THE SECOND FORM's CARD OF 'aviarylaw.RecipeReady'. -/
def recipeReadyUptoCard : Claim7 := { stood := { row := recipeReadyUptoRow, standIns := [], harness := (true, "d6abe13421cd4fe0c9ce1cac1643881b5359e9a68f8f62985d5ae200d2ae43b6"), looks := false }, kinds := [], alts := [], laidByText := true, laidKinds := [.data, .pinned], laidTests := true, laidLooks := .later }
def RecipeReadyUptoCardSaid : Prop := Claim7.holds Tryd.pinned (.plain (OpenSpec.upto recipeReadySpec)) recipeReadyUptoCard

/-- THE SECOND FORM's CARD OF 'aviarylaw.RecipeLines'. -/
def recipeLinesUptoCard : Claim7 := { stood := { row := recipeLinesUptoRow, standIns := [], harness := (true, "d6abe13421cd4fe0c9ce1cac1643881b5359e9a68f8f62985d5ae200d2ae43b6"), looks := false }, kinds := [], alts := [], laidByText := true, laidKinds := [.data, .pinned], laidTests := true, laidLooks := .later }
def RecipeLinesUptoCardSaid : Prop := Claim7.holds Tryd.pinned (.plain (OpenSpec.upto recipeLinesSpec)) recipeLinesUptoCard

/-- THE SECOND FORM's CARD OF 'aviarylaw.TreeApplies'. -/
def treeAppliesUptoCard : Claim7 := { stood := { row := treeAppliesUptoRow, standIns := [], harness := (true, "d6abe13421cd4fe0c9ce1cac1643881b5359e9a68f8f62985d5ae200d2ae43b6"), looks := false }, kinds := [], alts := [], laidByText := true, laidKinds := [.data, .pinned], laidTests := true, laidLooks := .later }
def TreeAppliesUptoCardSaid : Prop := Claim7.holds Tryd.pinned (.plain (OpenSpec.upto treeAppliesSpec)) treeAppliesUptoCard

/-- THE SECOND FORM's CARD OF 'aviarylaw.TreePlays'. -/
def treePlaysUptoCard : Claim7 := { stood := { row := treePlaysUptoRow, standIns := [], harness := (true, "d6abe13421cd4fe0c9ce1cac1643881b5359e9a68f8f62985d5ae200d2ae43b6"), looks := false }, kinds := [], alts := [], laidByText := true, laidKinds := [.data, .pinned], laidTests := true, laidLooks := .later }
def TreePlaysUptoCardSaid : Prop := Claim7.holds Tryd.pinned (.plain (OpenSpec.upto treePlaysSpec)) treePlaysUptoCard

/-- THE SECOND FORM's CARD OF 'aviarylaw.PrepMakes'. -/
def prepMakesUptoCard : Claim7 := { stood := { row := prepMakesUptoRow, standIns := [], harness := (true, "d6abe13421cd4fe0c9ce1cac1643881b5359e9a68f8f62985d5ae200d2ae43b6"), looks := false }, kinds := [], alts := [], laidByText := true, laidKinds := [.data, .pinned], laidTests := true, laidLooks := .later }
def PrepMakesUptoCardSaid : Prop := Claim7.holds Tryd.pinned (.plain (OpenSpec.upto prepMakesSpec)) prepMakesUptoCard

/-- THE SECOND FORM's CARD OF 'aviarylaw.StoreTakes'. -/
def storeTakesUptoCard : Claim7 := { stood := { row := storeTakesUptoRow, standIns := [], harness := (true, "d6abe13421cd4fe0c9ce1cac1643881b5359e9a68f8f62985d5ae200d2ae43b6"), looks := false }, kinds := [], alts := [], laidByText := true, laidKinds := [.data, .pinned], laidTests := true, laidLooks := .later }
def StoreTakesUptoCardSaid : Prop := Claim7.holds Tryd.pinned (.plain (OpenSpec.upto storeTakesSpec)) storeTakesUptoCard
end Rows
end Go.Proofs.YtmpfhalheaeibaaDoor
