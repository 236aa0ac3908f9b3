/-
  DERIVED. GIVEN WITH THE SEED: THE CARDS: each row of YtjjgmkfkmckkoabGreatDoorRows.lean that lists a variable, with what it lists TIED to the program's text (the seventh form; the later family's looks); each row that meets fmt, with fmt's text TOLD by the authors' own Lean function (tested against real Go, not proved from fmt's source: count such statements apart). THE CARD IS WHAT COUNTS. Prove the row's statement (the work); the ties are given (YtjjgmkfkmckkoabGreatDoorTie.lean); close each card by the builder's one call (the guide's Derived/Test/ToyasCard.lean, 'card_holds'). Laid BY PROGRAM, IN A SANDBOX (cutbox-door.mjs). By AI agents, Wed Nov 11 2026. No macro, syntax, notation, axiom, sorry.
-/
import Derived.Test.YtjjgmkfkmckkoabGreatDoorRows
import GoSem.ClaimSeven
namespace Go.Proofs.YtjjgmkfkmckkoabGreatDoor
namespace Rows

/-- THE TIED CARD OF 'wapentakelaw02.CodecBlocks'. -/
def codecBlocksCard : Claim7 := { stood := { row := codecBlocksRow, standIns := [], harness := (true, "34a4672b4d337ceead0711f8a310b82ce83a347925c00ba7534a47c54b7d4636"), looks := true }, kinds := [], alts := [], laidByText := true, laidKinds := [.handle, .sentinel, .sentinel], laidTests := true, laidLooks := .later }
def CodecBlocksCardSaid : Prop := Claim7.holds Tryz.pinned (.plain (OpenSpec.ofChange codecBlocksSpec)) codecBlocksCard

/-- THE TIED CARD OF 'wapentakelaw02.CodecMessages'. -/
def codecMessagesCard : Claim7 := { stood := { row := codecMessagesRow, standIns := [], harness := (true, "34a4672b4d337ceead0711f8a310b82ce83a347925c00ba7534a47c54b7d4636"), looks := true }, kinds := [], alts := [], laidByText := true, laidKinds := [.handle, .sentinel, .sentinel], laidTests := true, laidLooks := .later }
def CodecMessagesCardSaid : Prop := Claim7.holds Tryz.pinned (.plain (OpenSpec.ofChange codecMessagesSpec)) codecMessagesCard

/-- THE TIED CARD OF 'wapentakelaw02.CodecBack'. -/
def codecBackCard : Claim7 := { stood := { row := codecBackRow, standIns := [], harness := (true, "34a4672b4d337ceead0711f8a310b82ce83a347925c00ba7534a47c54b7d4636"), looks := true }, kinds := [], alts := [], laidByText := true, laidKinds := [.handle, .sentinel, .sentinel], laidTests := true, laidLooks := .later }
def CodecBackCardSaid : Prop := Claim7.holds Tryz.pinned (.plain (OpenSpec.ofChange codecBackSpec)) codecBackCard

/-- THE SECOND FORM's CARD OF 'wapentakelaw02.CodecBlocks'. -/
def codecBlocksUptoCard : Claim7 := { stood := { row := codecBlocksUptoRow, standIns := [], harness := (true, "34a4672b4d337ceead0711f8a310b82ce83a347925c00ba7534a47c54b7d4636"), looks := true }, kinds := [], alts := [], laidByText := true, laidKinds := [.handle, .sentinel, .sentinel], laidTests := true, laidLooks := .later }
def CodecBlocksUptoCardSaid : Prop := Claim7.holds Tryz.pinned (.plain (OpenSpec.upto codecBlocksSpec)) codecBlocksUptoCard

/-- THE SECOND FORM's CARD OF 'wapentakelaw02.CodecMessages'. -/
def codecMessagesUptoCard : Claim7 := { stood := { row := codecMessagesUptoRow, standIns := [], harness := (true, "34a4672b4d337ceead0711f8a310b82ce83a347925c00ba7534a47c54b7d4636"), looks := true }, kinds := [], alts := [], laidByText := true, laidKinds := [.handle, .sentinel, .sentinel], laidTests := true, laidLooks := .later }
def CodecMessagesUptoCardSaid : Prop := Claim7.holds Tryz.pinned (.plain (OpenSpec.upto codecMessagesSpec)) codecMessagesUptoCard

/-- THE SECOND FORM's CARD OF 'wapentakelaw02.CodecBack'. -/
def codecBackUptoCard : Claim7 := { stood := { row := codecBackUptoRow, standIns := [], harness := (true, "34a4672b4d337ceead0711f8a310b82ce83a347925c00ba7534a47c54b7d4636"), looks := true }, kinds := [], alts := [], laidByText := true, laidKinds := [.handle, .sentinel, .sentinel], laidTests := true, laidLooks := .later }
def CodecBackUptoCardSaid : Prop := Claim7.holds Tryz.pinned (.plain (OpenSpec.upto codecBackSpec)) codecBackUptoCard
end Rows
end Go.Proofs.YtjjgmkfkmckkoabGreatDoor
