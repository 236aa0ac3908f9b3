/-
  DERIVED. GIVEN WITH THE SEED: THE CARDS: each row of YtkclkmjlodomkaaGreatDoorRows.lean that lists a variable, with what it lists TIED to the program's text (the seventh form; the later family's looks); each row that meets fmt, with fmt's text TOLD by the authors' own Lean function (tested against real Go, not proved from fmt's source: count such statements apart). THE CARD IS WHAT COUNTS. Prove the row's statement (the work); the ties are given (YtkclkmjlodomkaaGreatDoorTie.lean); close each card by the builder's one call (the guide's Derived/Test/ToyasCard.lean, 'card_holds'). Laid BY PROGRAM, IN A SANDBOX (cutbox-door.mjs). By AI agents, Wed Nov 11 2026. No macro, syntax, notation, axiom, sorry.
-/
import Derived.Test.YtkclkmjlodomkaaGreatDoorRows
import GoSem.ClaimSeven
namespace Go.Proofs.YtkclkmjlodomkaaGreatDoor
namespace Rows

/-- THE TIED CARD OF 'wapentakelaw17.PoolDoes'. -/
def poolDoesCard : Claim7 := { stood := { row := poolDoesRow, standIns := [], harness := (true, "4aa9f5e6e9235ff5bab318d627fab4f918708ffda5a69cbdbf286caa606a53e6"), looks := true }, kinds := [], alts := [], laidByText := true, laidKinds := [.handle, .sentinel, .sentinel], laidTests := true, laidLooks := .later }
def PoolDoesCardSaid : Prop := Claim7.holds Tryz.pinned (.plain (OpenSpec.ofChange poolDoesSpec)) poolDoesCard

/-- THE TIED CARD OF 'wapentakelaw17.PoolNext'. -/
def poolNextCard : Claim7 := { stood := { row := poolNextRow, standIns := [], harness := (true, "4aa9f5e6e9235ff5bab318d627fab4f918708ffda5a69cbdbf286caa606a53e6"), looks := true }, kinds := [], alts := [], laidByText := true, laidKinds := [.handle, .sentinel, .sentinel], laidTests := true, laidLooks := .later }
def PoolNextCardSaid : Prop := Claim7.holds Tryz.pinned (.plain (OpenSpec.ofChange poolNextSpec)) poolNextCard

/-- THE TIED CARD OF 'wapentakelaw17.PoolWhole'. -/
def poolWholeCard : Claim7 := { stood := { row := poolWholeRow, standIns := [], harness := (true, "4aa9f5e6e9235ff5bab318d627fab4f918708ffda5a69cbdbf286caa606a53e6"), looks := true }, kinds := [], alts := [], laidByText := true, laidKinds := [.handle, .sentinel, .sentinel], laidTests := true, laidLooks := .later }
def PoolWholeCardSaid : Prop := Claim7.holds Tryz.pinned (.plain (OpenSpec.ofChange poolWholeSpec)) poolWholeCard

/-- THE TIED CARD OF 'wapentakelaw17.PoolDone'. -/
def poolDoneCard : Claim7 := { stood := { row := poolDoneRow, standIns := [], harness := (true, "4aa9f5e6e9235ff5bab318d627fab4f918708ffda5a69cbdbf286caa606a53e6"), looks := true }, kinds := [], alts := [], laidByText := true, laidKinds := [.handle, .sentinel, .sentinel], laidTests := true, laidLooks := .later }
def PoolDoneCardSaid : Prop := Claim7.holds Tryz.pinned (.plain (OpenSpec.ofChange poolDoneSpec)) poolDoneCard

/-- THE TIED CARD OF 'wapentakelaw17.PoolOnce'. -/
def poolOnceCard : Claim7 := { stood := { row := poolOnceRow, standIns := [], harness := (true, "4aa9f5e6e9235ff5bab318d627fab4f918708ffda5a69cbdbf286caa606a53e6"), looks := true }, kinds := [], alts := [], laidByText := true, laidKinds := [.handle, .sentinel, .sentinel], laidTests := true, laidLooks := .later }
def PoolOnceCardSaid : Prop := Claim7.holds Tryz.pinned (.plain (OpenSpec.ofChange poolOnceSpec)) poolOnceCard

/-- THE TIED CARD OF 'wapentakelaw17.PoolOrder'. -/
def poolOrderCard : Claim7 := { stood := { row := poolOrderRow, standIns := [], harness := (true, "4aa9f5e6e9235ff5bab318d627fab4f918708ffda5a69cbdbf286caa606a53e6"), looks := true }, kinds := [], alts := [], laidByText := true, laidKinds := [.handle, .sentinel, .sentinel], laidTests := true, laidLooks := .later }
def PoolOrderCardSaid : Prop := Claim7.holds Tryz.pinned (.plain (OpenSpec.ofChange poolOrderSpec)) poolOrderCard

/-- THE SECOND FORM's CARD OF 'wapentakelaw17.PoolDoes'. -/
def poolDoesUptoCard : Claim7 := { stood := { row := poolDoesUptoRow, standIns := [], harness := (true, "4aa9f5e6e9235ff5bab318d627fab4f918708ffda5a69cbdbf286caa606a53e6"), looks := true }, kinds := [], alts := [], laidByText := true, laidKinds := [.handle, .sentinel, .sentinel], laidTests := true, laidLooks := .later }
def PoolDoesUptoCardSaid : Prop := Claim7.holds Tryz.pinned (.plain (OpenSpec.upto poolDoesSpec)) poolDoesUptoCard

/-- THE SECOND FORM's CARD OF 'wapentakelaw17.PoolNext'. -/
def poolNextUptoCard : Claim7 := { stood := { row := poolNextUptoRow, standIns := [], harness := (true, "4aa9f5e6e9235ff5bab318d627fab4f918708ffda5a69cbdbf286caa606a53e6"), looks := true }, kinds := [], alts := [], laidByText := true, laidKinds := [.handle, .sentinel, .sentinel], laidTests := true, laidLooks := .later }
def PoolNextUptoCardSaid : Prop := Claim7.holds Tryz.pinned (.plain (OpenSpec.upto poolNextSpec)) poolNextUptoCard

/-- THE SECOND FORM's CARD OF 'wapentakelaw17.PoolWhole'. -/
def poolWholeUptoCard : Claim7 := { stood := { row := poolWholeUptoRow, standIns := [], harness := (true, "4aa9f5e6e9235ff5bab318d627fab4f918708ffda5a69cbdbf286caa606a53e6"), looks := true }, kinds := [], alts := [], laidByText := true, laidKinds := [.handle, .sentinel, .sentinel], laidTests := true, laidLooks := .later }
def PoolWholeUptoCardSaid : Prop := Claim7.holds Tryz.pinned (.plain (OpenSpec.upto poolWholeSpec)) poolWholeUptoCard

/-- THE SECOND FORM's CARD OF 'wapentakelaw17.PoolDone'. -/
def poolDoneUptoCard : Claim7 := { stood := { row := poolDoneUptoRow, standIns := [], harness := (true, "4aa9f5e6e9235ff5bab318d627fab4f918708ffda5a69cbdbf286caa606a53e6"), looks := true }, kinds := [], alts := [], laidByText := true, laidKinds := [.handle, .sentinel, .sentinel], laidTests := true, laidLooks := .later }
def PoolDoneUptoCardSaid : Prop := Claim7.holds Tryz.pinned (.plain (OpenSpec.upto poolDoneSpec)) poolDoneUptoCard

/-- THE SECOND FORM's CARD OF 'wapentakelaw17.PoolOnce'. -/
def poolOnceUptoCard : Claim7 := { stood := { row := poolOnceUptoRow, standIns := [], harness := (true, "4aa9f5e6e9235ff5bab318d627fab4f918708ffda5a69cbdbf286caa606a53e6"), looks := true }, kinds := [], alts := [], laidByText := true, laidKinds := [.handle, .sentinel, .sentinel], laidTests := true, laidLooks := .later }
def PoolOnceUptoCardSaid : Prop := Claim7.holds Tryz.pinned (.plain (OpenSpec.upto poolOnceSpec)) poolOnceUptoCard

/-- THE SECOND FORM's CARD OF 'wapentakelaw17.PoolOrder'. -/
def poolOrderUptoCard : Claim7 := { stood := { row := poolOrderUptoRow, standIns := [], harness := (true, "4aa9f5e6e9235ff5bab318d627fab4f918708ffda5a69cbdbf286caa606a53e6"), looks := true }, kinds := [], alts := [], laidByText := true, laidKinds := [.handle, .sentinel, .sentinel], laidTests := true, laidLooks := .later }
def PoolOrderUptoCardSaid : Prop := Claim7.holds Tryz.pinned (.plain (OpenSpec.upto poolOrderSpec)) poolOrderUptoCard
end Rows
end Go.Proofs.YtkclkmjlodomkaaGreatDoor
