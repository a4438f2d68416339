/-
  DERIVED. GIVEN WITH THE SEED: THE CARDS: each row of YtnihneffgbhjjaaDoorRows.lean that lists a variable, with what it lists TIED to the program's text (the seventh form; the later family's looks); each row that meets fmt, with fmt's text TOLD by the authors' own Lean function (tested against real Go, not proved from fmt's source: count such statements apart). THE CARD IS WHAT COUNTS. Prove the row's statement (the work); the ties are given (YtnihneffgbhjjaaDoorTie.lean); close each card by the builder's one call (the guide's Derived/Test/ToyasCard.lean, 'card_holds'). Laid BY PROGRAM, IN A SANDBOX (cutbox-door.mjs). By AI agents, Wed Nov 11 2026. No macro, syntax, notation, axiom, sorry.
-/
import Derived.Test.YtnihneffgbhjjaaDoorRows
import GoSem.ClaimSeven
namespace Go.Proofs.YtnihneffgbhjjaaDoor
namespace Rows

/-- THE TIED CARD OF 'scrollbacklaw51.PasteBytes'. -/
def pasteBytesCard : Claim7 := { stood := { row := pasteBytesRow, standIns := [], harness := (true, "4865bef8d02670118b7e3de5bc1c7e6eb07ffdb70b2ae0f3df0af0c1c64667ed"), looks := false }, kinds := [], alts := [], laidByText := true, laidKinds := [.data, .pinned], laidTests := true, laidLooks := .later }
def PasteBytesCardSaid : Prop := Claim7.holds Tryd.pinned (.plain (OpenSpec.ofChange pasteBytesSpec)) pasteBytesCard

/-- THE TIED CARD OF 'scrollbacklaw51.PasteRunes'. -/
def pasteRunesCard : Claim7 := { stood := { row := pasteRunesRow, standIns := [], harness := (true, "4865bef8d02670118b7e3de5bc1c7e6eb07ffdb70b2ae0f3df0af0c1c64667ed"), looks := false }, kinds := [], alts := [], laidByText := true, laidKinds := [.data, .pinned], laidTests := true, laidLooks := .later }
def PasteRunesCardSaid : Prop := Claim7.holds Tryd.pinned (.plain (OpenSpec.ofChange pasteRunesSpec)) pasteRunesCard

/-- THE TIED CARD OF 'scrollbacklaw51.PasteOnes'. -/
def pasteOnesCard : Claim7 := { stood := { row := pasteOnesRow, standIns := [], harness := (true, "4865bef8d02670118b7e3de5bc1c7e6eb07ffdb70b2ae0f3df0af0c1c64667ed"), looks := false }, kinds := [], alts := [], laidByText := true, laidKinds := [.data, .pinned], laidTests := true, laidLooks := .later }
def PasteOnesCardSaid : Prop := Claim7.holds Tryd.pinned (.plain (OpenSpec.ofChange pasteOnesSpec)) pasteOnesCard

/-- THE TIED CARD OF 'scrollbacklaw51.PasteLongs'. -/
def pasteLongsCard : Claim7 := { stood := { row := pasteLongsRow, standIns := [], harness := (true, "4865bef8d02670118b7e3de5bc1c7e6eb07ffdb70b2ae0f3df0af0c1c64667ed"), looks := false }, kinds := [], alts := [], laidByText := true, laidKinds := [.data, .pinned], laidTests := true, laidLooks := .later }
def PasteLongsCardSaid : Prop := Claim7.holds Tryd.pinned (.plain (OpenSpec.ofChange pasteLongsSpec)) pasteLongsCard

/-- THE TIED CARD OF 'scrollbacklaw51.PasteHolds'. -/
def pasteHoldsCard : Claim7 := { stood := { row := pasteHoldsRow, standIns := [], harness := (true, "4865bef8d02670118b7e3de5bc1c7e6eb07ffdb70b2ae0f3df0af0c1c64667ed"), looks := false }, kinds := [], alts := [], laidByText := true, laidKinds := [.data, .pinned], laidTests := true, laidLooks := .later }
def PasteHoldsCardSaid : Prop := Claim7.holds Tryd.pinned (.plain (OpenSpec.ofChange pasteHoldsSpec)) pasteHoldsCard

/-- THE SECOND FORM's CARD OF 'scrollbacklaw51.PasteBytes'. -/
def pasteBytesUptoCard : Claim7 := { stood := { row := pasteBytesUptoRow, standIns := [], harness := (true, "4865bef8d02670118b7e3de5bc1c7e6eb07ffdb70b2ae0f3df0af0c1c64667ed"), looks := false }, kinds := [], alts := [], laidByText := true, laidKinds := [.data, .pinned], laidTests := true, laidLooks := .later }
def PasteBytesUptoCardSaid : Prop := Claim7.holds Tryd.pinned (.plain (OpenSpec.upto pasteBytesSpec)) pasteBytesUptoCard

/-- THE SECOND FORM's CARD OF 'scrollbacklaw51.PasteRunes'. -/
def pasteRunesUptoCard : Claim7 := { stood := { row := pasteRunesUptoRow, standIns := [], harness := (true, "4865bef8d02670118b7e3de5bc1c7e6eb07ffdb70b2ae0f3df0af0c1c64667ed"), looks := false }, kinds := [], alts := [], laidByText := true, laidKinds := [.data, .pinned], laidTests := true, laidLooks := .later }
def PasteRunesUptoCardSaid : Prop := Claim7.holds Tryd.pinned (.plain (OpenSpec.upto pasteRunesSpec)) pasteRunesUptoCard

/-- THE SECOND FORM's CARD OF 'scrollbacklaw51.PasteOnes'. -/
def pasteOnesUptoCard : Claim7 := { stood := { row := pasteOnesUptoRow, standIns := [], harness := (true, "4865bef8d02670118b7e3de5bc1c7e6eb07ffdb70b2ae0f3df0af0c1c64667ed"), looks := false }, kinds := [], alts := [], laidByText := true, laidKinds := [.data, .pinned], laidTests := true, laidLooks := .later }
def PasteOnesUptoCardSaid : Prop := Claim7.holds Tryd.pinned (.plain (OpenSpec.upto pasteOnesSpec)) pasteOnesUptoCard

/-- THE SECOND FORM's CARD OF 'scrollbacklaw51.PasteLongs'. -/
def pasteLongsUptoCard : Claim7 := { stood := { row := pasteLongsUptoRow, standIns := [], harness := (true, "4865bef8d02670118b7e3de5bc1c7e6eb07ffdb70b2ae0f3df0af0c1c64667ed"), looks := false }, kinds := [], alts := [], laidByText := true, laidKinds := [.data, .pinned], laidTests := true, laidLooks := .later }
def PasteLongsUptoCardSaid : Prop := Claim7.holds Tryd.pinned (.plain (OpenSpec.upto pasteLongsSpec)) pasteLongsUptoCard

/-- THE SECOND FORM's CARD OF 'scrollbacklaw51.PasteHolds'. -/
def pasteHoldsUptoCard : Claim7 := { stood := { row := pasteHoldsUptoRow, standIns := [], harness := (true, "4865bef8d02670118b7e3de5bc1c7e6eb07ffdb70b2ae0f3df0af0c1c64667ed"), looks := false }, kinds := [], alts := [], laidByText := true, laidKinds := [.data, .pinned], laidTests := true, laidLooks := .later }
def PasteHoldsUptoCardSaid : Prop := Claim7.holds Tryd.pinned (.plain (OpenSpec.upto pasteHoldsSpec)) pasteHoldsUptoCard
end Rows
end Go.Proofs.YtnihneffgbhjjaaDoor
