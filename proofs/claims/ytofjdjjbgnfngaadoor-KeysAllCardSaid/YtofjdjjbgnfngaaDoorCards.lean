/-
  DERIVED. GIVEN WITH THE SEED: THE CARDS: each row of YtofjdjjbgnfngaaDoorRows.lean that lists a variable, with what it lists TIED to the program's text (the seventh form; the later family's looks); each row that meets fmt, with fmt's text TOLD by the authors' own Lean function (tested against real Go, not proved from fmt's source: count such statements apart). THE CARD IS WHAT COUNTS. Prove the row's statement (the work); the ties are given (YtofjdjjbgnfngaaDoorTie.lean); close each card by the builder's one call (the guide's Derived/Test/ToyasCard.lean, 'card_holds'). Laid BY PROGRAM, IN A SANDBOX (cutbox-door.mjs). By AI agents, Wed Nov 11 2026. No macro, syntax, notation, axiom, sorry.
-/
import Derived.Test.YtofjdjjbgnfngaaDoorRows
import GoSem.ClaimSeven
namespace Go.Proofs.YtofjdjjbgnfngaaDoor
namespace Rows

/-- THE TIED CARD OF 'scrollbacklaw49.KeysBytes'. -/
def keysBytesCard : Claim7 := { stood := { row := keysBytesRow, standIns := [], harness := (true, "890afae7ed2c885f344a8cf78685aad67095242f2643ec5516ae53b0677103bb"), looks := false }, kinds := [], alts := [], laidByText := true, laidKinds := [.data, .data, .data, .data, .pinned], laidTests := true, laidLooks := .later }
def KeysBytesCardSaid : Prop := Claim7.holds Tryd.pinned (.plain (OpenSpec.ofChange keysBytesSpec)) keysBytesCard

/-- THE TIED CARD OF 'scrollbacklaw49.KeysRunes'. -/
def keysRunesCard : Claim7 := { stood := { row := keysRunesRow, standIns := [], harness := (true, "890afae7ed2c885f344a8cf78685aad67095242f2643ec5516ae53b0677103bb"), looks := false }, kinds := [], alts := [], laidByText := true, laidKinds := [.data, .data, .data, .data, .pinned], laidTests := true, laidLooks := .later }
def KeysRunesCardSaid : Prop := Claim7.holds Tryd.pinned (.plain (OpenSpec.ofChange keysRunesSpec)) keysRunesCard

/-- THE TIED CARD OF 'scrollbacklaw49.KeysNames'. -/
def keysNamesCard : Claim7 := { stood := { row := keysNamesRow, standIns := [], harness := (true, "890afae7ed2c885f344a8cf78685aad67095242f2643ec5516ae53b0677103bb"), looks := false }, kinds := [], alts := [], laidByText := true, laidKinds := [.data, .data, .data, .data, .pinned], laidTests := true, laidLooks := .later }
def KeysNamesCardSaid : Prop := Claim7.holds Tryd.pinned (.plain (OpenSpec.ofChange keysNamesSpec)) keysNamesCard

/-- THE TIED CARD OF 'scrollbacklaw49.KeysHolds'. -/
def keysHoldsCard : Claim7 := { stood := { row := keysHoldsRow, standIns := [], harness := (true, "890afae7ed2c885f344a8cf78685aad67095242f2643ec5516ae53b0677103bb"), looks := false }, kinds := [], alts := [], laidByText := true, laidKinds := [.data, .data, .data, .data, .pinned], laidTests := true, laidLooks := .later }
def KeysHoldsCardSaid : Prop := Claim7.holds Tryd.pinned (.plain (OpenSpec.ofChange keysHoldsSpec)) keysHoldsCard

/-- THE TIED CARD OF 'scrollbacklaw49.KeysAll'. -/
def keysAllCard : Claim7 := { stood := { row := keysAllRow, standIns := [], harness := (true, "890afae7ed2c885f344a8cf78685aad67095242f2643ec5516ae53b0677103bb"), looks := false }, kinds := [], alts := [], laidByText := true, laidKinds := [.data, .data, .data, .data, .pinned], laidTests := true, laidLooks := .later }
def KeysAllCardSaid : Prop := Claim7.holds Tryd.pinned (.plain (OpenSpec.ofChange keysAllSpec)) keysAllCard

/-- THE SECOND FORM's CARD OF 'scrollbacklaw49.KeysBytes'. -/
def keysBytesUptoCard : Claim7 := { stood := { row := keysBytesUptoRow, standIns := [], harness := (true, "890afae7ed2c885f344a8cf78685aad67095242f2643ec5516ae53b0677103bb"), looks := false }, kinds := [], alts := [], laidByText := true, laidKinds := [.data, .data, .data, .data, .pinned], laidTests := true, laidLooks := .later }
def KeysBytesUptoCardSaid : Prop := Claim7.holds Tryd.pinned (.plain (OpenSpec.upto keysBytesSpec)) keysBytesUptoCard

/-- THE SECOND FORM's CARD OF 'scrollbacklaw49.KeysRunes'. -/
def keysRunesUptoCard : Claim7 := { stood := { row := keysRunesUptoRow, standIns := [], harness := (true, "890afae7ed2c885f344a8cf78685aad67095242f2643ec5516ae53b0677103bb"), looks := false }, kinds := [], alts := [], laidByText := true, laidKinds := [.data, .data, .data, .data, .pinned], laidTests := true, laidLooks := .later }
def KeysRunesUptoCardSaid : Prop := Claim7.holds Tryd.pinned (.plain (OpenSpec.upto keysRunesSpec)) keysRunesUptoCard

/-- THE SECOND FORM's CARD OF 'scrollbacklaw49.KeysNames'. -/
def keysNamesUptoCard : Claim7 := { stood := { row := keysNamesUptoRow, standIns := [], harness := (true, "890afae7ed2c885f344a8cf78685aad67095242f2643ec5516ae53b0677103bb"), looks := false }, kinds := [], alts := [], laidByText := true, laidKinds := [.data, .data, .data, .data, .pinned], laidTests := true, laidLooks := .later }
def KeysNamesUptoCardSaid : Prop := Claim7.holds Tryd.pinned (.plain (OpenSpec.upto keysNamesSpec)) keysNamesUptoCard

/-- THE SECOND FORM's CARD OF 'scrollbacklaw49.KeysHolds'. -/
def keysHoldsUptoCard : Claim7 := { stood := { row := keysHoldsUptoRow, standIns := [], harness := (true, "890afae7ed2c885f344a8cf78685aad67095242f2643ec5516ae53b0677103bb"), looks := false }, kinds := [], alts := [], laidByText := true, laidKinds := [.data, .data, .data, .data, .pinned], laidTests := true, laidLooks := .later }
def KeysHoldsUptoCardSaid : Prop := Claim7.holds Tryd.pinned (.plain (OpenSpec.upto keysHoldsSpec)) keysHoldsUptoCard

/-- THE SECOND FORM's CARD OF 'scrollbacklaw49.KeysAll'. -/
def keysAllUptoCard : Claim7 := { stood := { row := keysAllUptoRow, standIns := [], harness := (true, "890afae7ed2c885f344a8cf78685aad67095242f2643ec5516ae53b0677103bb"), looks := false }, kinds := [], alts := [], laidByText := true, laidKinds := [.data, .data, .data, .data, .pinned], laidTests := true, laidLooks := .later }
def KeysAllUptoCardSaid : Prop := Claim7.holds Tryd.pinned (.plain (OpenSpec.upto keysAllSpec)) keysAllUptoCard
end Rows
end Go.Proofs.YtofjdjjbgnfngaaDoor
