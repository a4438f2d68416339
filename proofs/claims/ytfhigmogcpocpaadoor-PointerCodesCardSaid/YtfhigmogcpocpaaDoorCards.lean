/-
  DERIVED. GIVEN WITH THE SEED: THE CARDS: each row of YtfhigmogcpocpaaDoorRows.lean that lists a variable, with what it lists TIED to the program's text (the seventh form; the later family's looks); each row that meets fmt, with fmt's text TOLD by the authors' own Lean function (tested against real Go, not proved from fmt's source: count such statements apart). THE CARD IS WHAT COUNTS. Prove the row's statement (the work); the ties are given (YtfhigmogcpocpaaDoorTie.lean); close each card by the builder's one call (the guide's Derived/Test/ToyasCard.lean, 'card_holds'). Laid BY PROGRAM, IN A SANDBOX (cutbox-door.mjs). By AI agents, Wed Nov 11 2026. No macro, syntax, notation, axiom, sorry.
-/
import Derived.Test.YtfhigmogcpocpaaDoorRows
import GoSem.ClaimSeven
namespace Go.Proofs.YtfhigmogcpocpaaDoor
namespace Rows

/-- THE TIED CARD OF 'scrollbacklaw50.PointerCodes'. -/
def pointerCodesCard : Claim7 := { stood := { row := pointerCodesRow, standIns := [], harness := (true, "90dd721bd90d809665aaa20713420bf5ee549876cf151f823e6f04bd9bbf0cf1"), looks := false }, kinds := [], alts := [], laidByText := true, laidKinds := [.data, .data, .data], laidTests := true, laidLooks := .later }
def PointerCodesCardSaid : Prop := Claim7.holds Tryd.pinned (.plain (OpenSpec.ofChange pointerCodesSpec)) pointerCodesCard

/-- THE TIED CARD OF 'scrollbacklaw50.PointerHolds'. -/
def pointerHoldsCard : Claim7 := { stood := { row := pointerHoldsRow, standIns := [], harness := (true, "90dd721bd90d809665aaa20713420bf5ee549876cf151f823e6f04bd9bbf0cf1"), looks := false }, kinds := [], alts := [], laidByText := true, laidKinds := [.data, .data, .data], laidTests := true, laidLooks := .later }
def PointerHoldsCardSaid : Prop := Claim7.holds Tryd.pinned (.plain (OpenSpec.ofChange pointerHoldsSpec)) pointerHoldsCard

/-- THE TIED CARD OF 'scrollbacklaw50.PointerPlays'. -/
def pointerPlaysCard : Claim7 := { stood := { row := pointerPlaysRow, standIns := [], harness := (true, "90dd721bd90d809665aaa20713420bf5ee549876cf151f823e6f04bd9bbf0cf1"), looks := false }, kinds := [], alts := [], laidByText := true, laidKinds := [.data, .data, .data], laidTests := true, laidLooks := .later }
def PointerPlaysCardSaid : Prop := Claim7.holds Tryd.pinned (.plain (OpenSpec.ofChange pointerPlaysSpec)) pointerPlaysCard

/-- THE TIED CARD OF 'scrollbacklaw50.PointerNil'. -/
def pointerNilCard : Claim7 := { stood := { row := pointerNilRow, standIns := [], harness := (true, "90dd721bd90d809665aaa20713420bf5ee549876cf151f823e6f04bd9bbf0cf1"), looks := false }, kinds := [], alts := [], laidByText := true, laidKinds := [.data, .data, .data], laidTests := true, laidLooks := .later }
def PointerNilCardSaid : Prop := Claim7.holds Tryd.pinned (.plain (OpenSpec.ofChange pointerNilSpec)) pointerNilCard

/-- THE SECOND FORM's CARD OF 'scrollbacklaw50.PointerCodes'. -/
def pointerCodesUptoCard : Claim7 := { stood := { row := pointerCodesUptoRow, standIns := [], harness := (true, "90dd721bd90d809665aaa20713420bf5ee549876cf151f823e6f04bd9bbf0cf1"), looks := false }, kinds := [], alts := [], laidByText := true, laidKinds := [.data, .data, .data], laidTests := true, laidLooks := .later }
def PointerCodesUptoCardSaid : Prop := Claim7.holds Tryd.pinned (.plain (OpenSpec.upto pointerCodesSpec)) pointerCodesUptoCard

/-- THE SECOND FORM's CARD OF 'scrollbacklaw50.PointerHolds'. -/
def pointerHoldsUptoCard : Claim7 := { stood := { row := pointerHoldsUptoRow, standIns := [], harness := (true, "90dd721bd90d809665aaa20713420bf5ee549876cf151f823e6f04bd9bbf0cf1"), looks := false }, kinds := [], alts := [], laidByText := true, laidKinds := [.data, .data, .data], laidTests := true, laidLooks := .later }
def PointerHoldsUptoCardSaid : Prop := Claim7.holds Tryd.pinned (.plain (OpenSpec.upto pointerHoldsSpec)) pointerHoldsUptoCard

/-- THE SECOND FORM's CARD OF 'scrollbacklaw50.PointerPlays'. -/
def pointerPlaysUptoCard : Claim7 := { stood := { row := pointerPlaysUptoRow, standIns := [], harness := (true, "90dd721bd90d809665aaa20713420bf5ee549876cf151f823e6f04bd9bbf0cf1"), looks := false }, kinds := [], alts := [], laidByText := true, laidKinds := [.data, .data, .data], laidTests := true, laidLooks := .later }
def PointerPlaysUptoCardSaid : Prop := Claim7.holds Tryd.pinned (.plain (OpenSpec.upto pointerPlaysSpec)) pointerPlaysUptoCard

/-- THE SECOND FORM's CARD OF 'scrollbacklaw50.PointerNil'. -/
def pointerNilUptoCard : Claim7 := { stood := { row := pointerNilUptoRow, standIns := [], harness := (true, "90dd721bd90d809665aaa20713420bf5ee549876cf151f823e6f04bd9bbf0cf1"), looks := false }, kinds := [], alts := [], laidByText := true, laidKinds := [.data, .data, .data], laidTests := true, laidLooks := .later }
def PointerNilUptoCardSaid : Prop := Claim7.holds Tryd.pinned (.plain (OpenSpec.upto pointerNilSpec)) pointerNilUptoCard
end Rows
end Go.Proofs.YtfhigmogcpocpaaDoor
