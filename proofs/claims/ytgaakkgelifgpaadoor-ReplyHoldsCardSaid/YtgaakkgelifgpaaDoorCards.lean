/-
  DERIVED. GIVEN WITH THE SEED: THE CARDS: each row of YtgaakkgelifgpaaDoorRows.lean that lists a variable, with what it lists TIED to the program's text (the seventh form; the later family's looks); each row that meets fmt, with fmt's text TOLD by the authors' own Lean function (tested against real Go, not proved from fmt's source: count such statements apart). THE CARD IS WHAT COUNTS. Prove the row's statement (the work); the ties are given (YtgaakkgelifgpaaDoorTie.lean); close each card by the builder's one call (the guide's Derived/Test/ToyasCard.lean, 'card_holds'). Laid BY PROGRAM, IN A SANDBOX (cutbox-door.mjs). By AI agents, Wed Nov 11 2026. No macro, syntax, notation, axiom, sorry.
-/
import Derived.Test.YtgaakkgelifgpaaDoorRows
import GoSem.ClaimSeven
namespace Go.Proofs.YtgaakkgelifgpaaDoor
namespace Rows

/-- THE TIED CARD OF 'scrollbacklaw25.ReplyStates'. -/
def replyStatesCard : Claim7 := { stood := { row := replyStatesRow, standIns := [], harness := (true, "2d3ee795f17876eb2da75f0f920536920ad974c4bcade430eed843988a6c4a77"), looks := false }, kinds := [], alts := [], laidByText := true, laidKinds := [.data, .data, .data, .widerDeep, .widerDeep], laidTests := true, laidLooks := .later }
def ReplyStatesCardSaid : Prop := Claim7.holds Tryd.pinned (.plain (OpenSpec.ofChange replyStatesSpec)) replyStatesCard

/-- THE TIED CARD OF 'scrollbacklaw25.ReplyModes'. -/
def replyModesCard : Claim7 := { stood := { row := replyModesRow, standIns := [], harness := (true, "2d3ee795f17876eb2da75f0f920536920ad974c4bcade430eed843988a6c4a77"), looks := false }, kinds := [], alts := [], laidByText := true, laidKinds := [.data, .data, .data, .widerDeep, .widerDeep], laidTests := true, laidLooks := .later }
def ReplyModesCardSaid : Prop := Claim7.holds Tryd.pinned (.plain (OpenSpec.ofChange replyModesSpec)) replyModesCard

/-- THE TIED CARD OF 'scrollbacklaw25.ReplyHolds'. -/
def replyHoldsCard : Claim7 := { stood := { row := replyHoldsRow, standIns := [], harness := (true, "2d3ee795f17876eb2da75f0f920536920ad974c4bcade430eed843988a6c4a77"), looks := false }, kinds := [], alts := [], laidByText := true, laidKinds := [.data, .data, .data, .widerDeep, .widerDeep], laidTests := true, laidLooks := .later }
def ReplyHoldsCardSaid : Prop := Claim7.holds Tryd.pinned (.plain (OpenSpec.ofChange replyHoldsSpec)) replyHoldsCard

/-- THE SECOND FORM's CARD OF 'scrollbacklaw25.ReplyStates'. -/
def replyStatesUptoCard : Claim7 := { stood := { row := replyStatesUptoRow, standIns := [], harness := (true, "2d3ee795f17876eb2da75f0f920536920ad974c4bcade430eed843988a6c4a77"), looks := false }, kinds := [], alts := [], laidByText := true, laidKinds := [.data, .data, .data, .widerDeep, .widerDeep], laidTests := true, laidLooks := .later }
def ReplyStatesUptoCardSaid : Prop := Claim7.holds Tryd.pinned (.plain (OpenSpec.upto replyStatesSpec)) replyStatesUptoCard

/-- THE SECOND FORM's CARD OF 'scrollbacklaw25.ReplyModes'. -/
def replyModesUptoCard : Claim7 := { stood := { row := replyModesUptoRow, standIns := [], harness := (true, "2d3ee795f17876eb2da75f0f920536920ad974c4bcade430eed843988a6c4a77"), looks := false }, kinds := [], alts := [], laidByText := true, laidKinds := [.data, .data, .data, .widerDeep, .widerDeep], laidTests := true, laidLooks := .later }
def ReplyModesUptoCardSaid : Prop := Claim7.holds Tryd.pinned (.plain (OpenSpec.upto replyModesSpec)) replyModesUptoCard

/-- THE SECOND FORM's CARD OF 'scrollbacklaw25.ReplyHolds'. -/
def replyHoldsUptoCard : Claim7 := { stood := { row := replyHoldsUptoRow, standIns := [], harness := (true, "2d3ee795f17876eb2da75f0f920536920ad974c4bcade430eed843988a6c4a77"), looks := false }, kinds := [], alts := [], laidByText := true, laidKinds := [.data, .data, .data, .widerDeep, .widerDeep], laidTests := true, laidLooks := .later }
def ReplyHoldsUptoCardSaid : Prop := Claim7.holds Tryd.pinned (.plain (OpenSpec.upto replyHoldsSpec)) replyHoldsUptoCard
end Rows
end Go.Proofs.YtgaakkgelifgpaaDoor
