/-
  DERIVED. GIVEN WITH THE SEED: THE CARDS: each row of YtdoeiaekimbecaaDoorRows.lean that lists a variable, with what it lists TIED to the program's text (the seventh form; the later family's looks); each row that meets fmt, with fmt's text TOLD by the authors' own Lean function (tested against real Go, not proved from fmt's source: count such statements apart). THE CARD IS WHAT COUNTS. Prove the row's statement (the work); the ties are given (YtdoeiaekimbecaaDoorTie.lean); close each card by the builder's one call (the guide's Derived/Test/ToyasCard.lean, 'card_holds'). Laid BY PROGRAM, IN A SANDBOX (cutbox-door.mjs). By AI agents, Wed Nov 11 2026. No macro, syntax, notation, axiom, sorry.
-/
import Derived.Test.YtdoeiaekimbecaaDoorRows
import GoSem.ClaimSeven
namespace Go.Proofs.YtdoeiaekimbecaaDoor
namespace Rows

/-- THE TIED CARD OF 'scrollbacklaw21.StyleApplies'. -/
def styleAppliesCard : Claim7 := { stood := { row := styleAppliesRow, standIns := [], harness := (true, "a3470dac668e4131d9f8441a592fc5b44021ebc5f310932b83913053633c592d"), looks := false }, kinds := [], alts := [], laidByText := true, laidKinds := [.data, .data, .data, .data], laidTests := true, laidLooks := .later }
def StyleAppliesCardSaid : Prop := Claim7.holds Tryd.pinned (.plain (OpenSpec.ofChange styleAppliesSpec)) styleAppliesCard

/-- THE TIED CARD OF 'scrollbacklaw21.StyleNumbers'. -/
def styleNumbersCard : Claim7 := { stood := { row := styleNumbersRow, standIns := [], harness := (true, "a3470dac668e4131d9f8441a592fc5b44021ebc5f310932b83913053633c592d"), looks := false }, kinds := [], alts := [], laidByText := true, laidKinds := [.data, .data, .data, .data], laidTests := true, laidLooks := .later }
def StyleNumbersCardSaid : Prop := Claim7.holds Tryd.pinned (.plain (OpenSpec.ofChange styleNumbersSpec)) styleNumbersCard

/-- THE TIED CARD OF 'scrollbacklaw21.StyleCodes'. -/
def styleCodesCard : Claim7 := { stood := { row := styleCodesRow, standIns := [], harness := (true, "a3470dac668e4131d9f8441a592fc5b44021ebc5f310932b83913053633c592d"), looks := false }, kinds := [], alts := [], laidByText := true, laidKinds := [.data, .data, .data, .data], laidTests := true, laidLooks := .later }
def StyleCodesCardSaid : Prop := Claim7.holds Tryd.pinned (.plain (OpenSpec.ofChange styleCodesSpec)) styleCodesCard

/-- THE TIED CARD OF 'scrollbacklaw21.StyleTexts'. -/
def styleTextsCard : Claim7 := { stood := { row := styleTextsRow, standIns := [], harness := (true, "a3470dac668e4131d9f8441a592fc5b44021ebc5f310932b83913053633c592d"), looks := false }, kinds := [], alts := [], laidByText := true, laidKinds := [.data, .data, .data, .data], laidTests := true, laidLooks := .later }
def StyleTextsCardSaid : Prop := Claim7.holds Tryd.pinned (.plain (OpenSpec.ofChange styleTextsSpec)) styleTextsCard

/-- THE TIED CARD OF 'scrollbacklaw21.StyleHolds'. -/
def styleHoldsCard : Claim7 := { stood := { row := styleHoldsRow, standIns := [], harness := (true, "a3470dac668e4131d9f8441a592fc5b44021ebc5f310932b83913053633c592d"), looks := false }, kinds := [], alts := [], laidByText := true, laidKinds := [.data, .data, .data, .data], laidTests := true, laidLooks := .later }
def StyleHoldsCardSaid : Prop := Claim7.holds Tryd.pinned (.plain (OpenSpec.ofChange styleHoldsSpec)) styleHoldsCard

/-- THE SECOND FORM's CARD OF 'scrollbacklaw21.StyleApplies'. -/
def styleAppliesUptoCard : Claim7 := { stood := { row := styleAppliesUptoRow, standIns := [], harness := (true, "a3470dac668e4131d9f8441a592fc5b44021ebc5f310932b83913053633c592d"), looks := false }, kinds := [], alts := [], laidByText := true, laidKinds := [.data, .data, .data, .data], laidTests := true, laidLooks := .later }
def StyleAppliesUptoCardSaid : Prop := Claim7.holds Tryd.pinned (.plain (OpenSpec.upto styleAppliesSpec)) styleAppliesUptoCard

/-- THE SECOND FORM's CARD OF 'scrollbacklaw21.StyleNumbers'. -/
def styleNumbersUptoCard : Claim7 := { stood := { row := styleNumbersUptoRow, standIns := [], harness := (true, "a3470dac668e4131d9f8441a592fc5b44021ebc5f310932b83913053633c592d"), looks := false }, kinds := [], alts := [], laidByText := true, laidKinds := [.data, .data, .data, .data], laidTests := true, laidLooks := .later }
def StyleNumbersUptoCardSaid : Prop := Claim7.holds Tryd.pinned (.plain (OpenSpec.upto styleNumbersSpec)) styleNumbersUptoCard

/-- THE SECOND FORM's CARD OF 'scrollbacklaw21.StyleCodes'. -/
def styleCodesUptoCard : Claim7 := { stood := { row := styleCodesUptoRow, standIns := [], harness := (true, "a3470dac668e4131d9f8441a592fc5b44021ebc5f310932b83913053633c592d"), looks := false }, kinds := [], alts := [], laidByText := true, laidKinds := [.data, .data, .data, .data], laidTests := true, laidLooks := .later }
def StyleCodesUptoCardSaid : Prop := Claim7.holds Tryd.pinned (.plain (OpenSpec.upto styleCodesSpec)) styleCodesUptoCard

/-- THE SECOND FORM's CARD OF 'scrollbacklaw21.StyleTexts'. -/
def styleTextsUptoCard : Claim7 := { stood := { row := styleTextsUptoRow, standIns := [], harness := (true, "a3470dac668e4131d9f8441a592fc5b44021ebc5f310932b83913053633c592d"), looks := false }, kinds := [], alts := [], laidByText := true, laidKinds := [.data, .data, .data, .data], laidTests := true, laidLooks := .later }
def StyleTextsUptoCardSaid : Prop := Claim7.holds Tryd.pinned (.plain (OpenSpec.upto styleTextsSpec)) styleTextsUptoCard

/-- THE SECOND FORM's CARD OF 'scrollbacklaw21.StyleHolds'. -/
def styleHoldsUptoCard : Claim7 := { stood := { row := styleHoldsUptoRow, standIns := [], harness := (true, "a3470dac668e4131d9f8441a592fc5b44021ebc5f310932b83913053633c592d"), looks := false }, kinds := [], alts := [], laidByText := true, laidKinds := [.data, .data, .data, .data], laidTests := true, laidLooks := .later }
def StyleHoldsUptoCardSaid : Prop := Claim7.holds Tryd.pinned (.plain (OpenSpec.upto styleHoldsSpec)) styleHoldsUptoCard
end Rows
end Go.Proofs.YtdoeiaekimbecaaDoor
