/-
  DERIVED. GIVEN WITH THE SEED: THE CARDS: each row of YtcmflmmidipckaaDoorRows.lean that lists a variable, with what it lists TIED to the program's text (the seventh form; the later family's looks); each row that meets fmt, with fmt's text TOLD by the authors' own Lean function (tested against real Go, not proved from fmt's source: count such statements apart). THE CARD IS WHAT COUNTS. Prove the row's statement (the work); the ties are given (YtcmflmmidipckaaDoorTie.lean); close each card by the builder's one call (the guide's Derived/Test/ToyasCard.lean, 'card_holds'). Laid BY PROGRAM, IN A SANDBOX (cutbox-door.mjs). By AI agents, Wed Nov 11 2026. No macro, syntax, notation, axiom, sorry.
-/
import Derived.Test.YtcmflmmidipckaaDoorRows
import GoSem.ClaimSeven
namespace Go.Proofs.YtcmflmmidipckaaDoor
namespace Rows

/-- THE TIED CARD OF 'scrollbacklaw22.ModesSets'. -/
def modesSetsCard : Claim7 := { stood := { row := modesSetsRow, standIns := [], harness := (true, "082af3f8aacec7cf6ea860407a8f5c1359f35139287309ad6771865f650f040d"), looks := false }, kinds := [], alts := [], laidByText := true, laidKinds := [.data, .data, .data, .widerDeep, .widerDeep, .data], laidTests := true, laidLooks := .later }
def ModesSetsCardSaid : Prop := Claim7.holds Tryd.pinned (.plain (OpenSpec.ofChange modesSetsSpec)) modesSetsCard

/-- THE TIED CARD OF 'scrollbacklaw22.ModesApplies'. -/
def modesAppliesCard : Claim7 := { stood := { row := modesAppliesRow, standIns := [], harness := (true, "082af3f8aacec7cf6ea860407a8f5c1359f35139287309ad6771865f650f040d"), looks := false }, kinds := [], alts := [], laidByText := true, laidKinds := [.data, .data, .data, .widerDeep, .widerDeep, .data], laidTests := true, laidLooks := .later }
def ModesAppliesCardSaid : Prop := Claim7.holds Tryd.pinned (.plain (OpenSpec.ofChange modesAppliesSpec)) modesAppliesCard

/-- THE TIED CARD OF 'scrollbacklaw22.ModesTexts'. -/
def modesTextsCard : Claim7 := { stood := { row := modesTextsRow, standIns := [], harness := (true, "082af3f8aacec7cf6ea860407a8f5c1359f35139287309ad6771865f650f040d"), looks := false }, kinds := [], alts := [], laidByText := true, laidKinds := [.data, .data, .data, .widerDeep, .widerDeep, .data], laidTests := true, laidLooks := .later }
def ModesTextsCardSaid : Prop := Claim7.holds Tryd.pinned (.plain (OpenSpec.ofChange modesTextsSpec)) modesTextsCard

/-- THE TIED CARD OF 'scrollbacklaw22.ModesAll'. -/
def modesAllCard : Claim7 := { stood := { row := modesAllRow, standIns := [], harness := (true, "082af3f8aacec7cf6ea860407a8f5c1359f35139287309ad6771865f650f040d"), looks := false }, kinds := [], alts := [], laidByText := true, laidKinds := [.data, .data, .data, .widerDeep, .widerDeep, .data], laidTests := true, laidLooks := .later }
def ModesAllCardSaid : Prop := Claim7.holds Tryd.pinned (.plain (OpenSpec.ofChange modesAllSpec)) modesAllCard

/-- THE TIED CARD OF 'scrollbacklaw22.ModesHolds'. -/
def modesHoldsCard : Claim7 := { stood := { row := modesHoldsRow, standIns := [], harness := (true, "082af3f8aacec7cf6ea860407a8f5c1359f35139287309ad6771865f650f040d"), looks := false }, kinds := [], alts := [], laidByText := true, laidKinds := [.data, .data, .data, .widerDeep, .widerDeep, .data], laidTests := true, laidLooks := .later }
def ModesHoldsCardSaid : Prop := Claim7.holds Tryd.pinned (.plain (OpenSpec.ofChange modesHoldsSpec)) modesHoldsCard

/-- THE SECOND FORM's CARD OF 'scrollbacklaw22.ModesSets'. -/
def modesSetsUptoCard : Claim7 := { stood := { row := modesSetsUptoRow, standIns := [], harness := (true, "082af3f8aacec7cf6ea860407a8f5c1359f35139287309ad6771865f650f040d"), looks := false }, kinds := [], alts := [], laidByText := true, laidKinds := [.data, .data, .data, .widerDeep, .widerDeep, .data], laidTests := true, laidLooks := .later }
def ModesSetsUptoCardSaid : Prop := Claim7.holds Tryd.pinned (.plain (OpenSpec.upto modesSetsSpec)) modesSetsUptoCard

/-- THE SECOND FORM's CARD OF 'scrollbacklaw22.ModesApplies'. -/
def modesAppliesUptoCard : Claim7 := { stood := { row := modesAppliesUptoRow, standIns := [], harness := (true, "082af3f8aacec7cf6ea860407a8f5c1359f35139287309ad6771865f650f040d"), looks := false }, kinds := [], alts := [], laidByText := true, laidKinds := [.data, .data, .data, .widerDeep, .widerDeep, .data], laidTests := true, laidLooks := .later }
def ModesAppliesUptoCardSaid : Prop := Claim7.holds Tryd.pinned (.plain (OpenSpec.upto modesAppliesSpec)) modesAppliesUptoCard

/-- THE SECOND FORM's CARD OF 'scrollbacklaw22.ModesTexts'. -/
def modesTextsUptoCard : Claim7 := { stood := { row := modesTextsUptoRow, standIns := [], harness := (true, "082af3f8aacec7cf6ea860407a8f5c1359f35139287309ad6771865f650f040d"), looks := false }, kinds := [], alts := [], laidByText := true, laidKinds := [.data, .data, .data, .widerDeep, .widerDeep, .data], laidTests := true, laidLooks := .later }
def ModesTextsUptoCardSaid : Prop := Claim7.holds Tryd.pinned (.plain (OpenSpec.upto modesTextsSpec)) modesTextsUptoCard

/-- THE SECOND FORM's CARD OF 'scrollbacklaw22.ModesAll'. -/
def modesAllUptoCard : Claim7 := { stood := { row := modesAllUptoRow, standIns := [], harness := (true, "082af3f8aacec7cf6ea860407a8f5c1359f35139287309ad6771865f650f040d"), looks := false }, kinds := [], alts := [], laidByText := true, laidKinds := [.data, .data, .data, .widerDeep, .widerDeep, .data], laidTests := true, laidLooks := .later }
def ModesAllUptoCardSaid : Prop := Claim7.holds Tryd.pinned (.plain (OpenSpec.upto modesAllSpec)) modesAllUptoCard

/-- THE SECOND FORM's CARD OF 'scrollbacklaw22.ModesHolds'. -/
def modesHoldsUptoCard : Claim7 := { stood := { row := modesHoldsUptoRow, standIns := [], harness := (true, "082af3f8aacec7cf6ea860407a8f5c1359f35139287309ad6771865f650f040d"), looks := false }, kinds := [], alts := [], laidByText := true, laidKinds := [.data, .data, .data, .widerDeep, .widerDeep, .data], laidTests := true, laidLooks := .later }
def ModesHoldsUptoCardSaid : Prop := Claim7.holds Tryd.pinned (.plain (OpenSpec.upto modesHoldsSpec)) modesHoldsUptoCard
end Rows
end Go.Proofs.YtcmflmmidipckaaDoor
