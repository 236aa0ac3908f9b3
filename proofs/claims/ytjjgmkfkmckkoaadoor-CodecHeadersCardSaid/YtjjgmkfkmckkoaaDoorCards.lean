/-
  DERIVED. GIVEN WITH THE SEED: THE CARDS: each row of YtjjgmkfkmckkoaaDoorRows.lean that lists a variable, with what it lists TIED to the program's text (the seventh form; the later family's looks); each row that meets fmt, with fmt's text TOLD by the authors' own Lean function (tested against real Go, not proved from fmt's source: count such statements apart). THE CARD IS WHAT COUNTS. Prove the row's statement (the work); the ties are given (YtjjgmkfkmckkoaaDoorTie.lean); close each card by the builder's one call (the guide's Derived/Test/ToyasCard.lean, 'card_holds'). Laid BY PROGRAM, IN A SANDBOX (cutbox-door.mjs). By AI agents, Wed Nov 11 2026. No macro, syntax, notation, axiom, sorry.
-/
import Derived.Test.YtjjgmkfkmckkoaaDoorRows
import GoSem.ClaimSeven
namespace Go.Proofs.YtjjgmkfkmckkoaaDoor
namespace Rows

/-- THE TIED CARD OF 'wapentakelaw02.CodecHeaders'. -/
def codecHeadersCard : Claim7 := { stood := { row := codecHeadersRow, standIns := [], harness := (true, "80d2415b3608ce1f7416c9d9477a2500f33db69fdfa4f49f582abddbf7d80535"), looks := true }, kinds := [], alts := [], laidByText := true, laidKinds := [.handle, .sentinel, .sentinel], laidTests := true, laidLooks := .later }
def CodecHeadersCardSaid : Prop := Claim7.holds Tryd.pinned (.plain (OpenSpec.ofChange codecHeadersSpec)) codecHeadersCard

/-- THE TIED CARD OF 'wapentakelaw02.CodecApart'. -/
def codecApartCard : Claim7 := { stood := { row := codecApartRow, standIns := [], harness := (true, "80d2415b3608ce1f7416c9d9477a2500f33db69fdfa4f49f582abddbf7d80535"), looks := true }, kinds := [], alts := [], laidByText := true, laidKinds := [.handle, .sentinel, .sentinel], laidTests := true, laidLooks := .later }
def CodecApartCardSaid : Prop := Claim7.holds Tryd.pinned (.plain (OpenSpec.ofChange codecApartSpec)) codecApartCard

/-- THE TIED CARD OF 'wapentakelaw02.CodecCertificates'. -/
def codecCertificatesCard : Claim7 := { stood := { row := codecCertificatesRow, standIns := [], harness := (true, "80d2415b3608ce1f7416c9d9477a2500f33db69fdfa4f49f582abddbf7d80535"), looks := true }, kinds := [], alts := [], laidByText := true, laidKinds := [.handle, .sentinel, .sentinel], laidTests := true, laidLooks := .later }
def CodecCertificatesCardSaid : Prop := Claim7.holds Tryd.pinned (.plain (OpenSpec.ofChange codecCertificatesSpec)) codecCertificatesCard

/-- THE TIED CARD OF 'wapentakelaw02.CodecVotes'. -/
def codecVotesCard : Claim7 := { stood := { row := codecVotesRow, standIns := [], harness := (true, "80d2415b3608ce1f7416c9d9477a2500f33db69fdfa4f49f582abddbf7d80535"), looks := true }, kinds := [], alts := [], laidByText := true, laidKinds := [.handle, .sentinel, .sentinel], laidTests := true, laidLooks := .later }
def CodecVotesCardSaid : Prop := Claim7.holds Tryd.pinned (.plain (OpenSpec.ofChange codecVotesSpec)) codecVotesCard

/-- THE TIED CARD OF 'wapentakelaw02.CodecFacts'. -/
def codecFactsCard : Claim7 := { stood := { row := codecFactsRow, standIns := [], harness := (true, "80d2415b3608ce1f7416c9d9477a2500f33db69fdfa4f49f582abddbf7d80535"), looks := true }, kinds := [], alts := [], laidByText := true, laidKinds := [.handle, .sentinel, .sentinel], laidTests := true, laidLooks := .later }
def CodecFactsCardSaid : Prop := Claim7.holds Tryd.pinned (.plain (OpenSpec.ofChange codecFactsSpec)) codecFactsCard

/-- THE SECOND FORM's CARD OF 'wapentakelaw02.CodecHeaders'. -/
def codecHeadersUptoCard : Claim7 := { stood := { row := codecHeadersUptoRow, standIns := [], harness := (true, "80d2415b3608ce1f7416c9d9477a2500f33db69fdfa4f49f582abddbf7d80535"), looks := true }, kinds := [], alts := [], laidByText := true, laidKinds := [.handle, .sentinel, .sentinel], laidTests := true, laidLooks := .later }
def CodecHeadersUptoCardSaid : Prop := Claim7.holds Tryd.pinned (.plain (OpenSpec.upto codecHeadersSpec)) codecHeadersUptoCard

/-- THE SECOND FORM's CARD OF 'wapentakelaw02.CodecApart'. -/
def codecApartUptoCard : Claim7 := { stood := { row := codecApartUptoRow, standIns := [], harness := (true, "80d2415b3608ce1f7416c9d9477a2500f33db69fdfa4f49f582abddbf7d80535"), looks := true }, kinds := [], alts := [], laidByText := true, laidKinds := [.handle, .sentinel, .sentinel], laidTests := true, laidLooks := .later }
def CodecApartUptoCardSaid : Prop := Claim7.holds Tryd.pinned (.plain (OpenSpec.upto codecApartSpec)) codecApartUptoCard

/-- THE SECOND FORM's CARD OF 'wapentakelaw02.CodecCertificates'. -/
def codecCertificatesUptoCard : Claim7 := { stood := { row := codecCertificatesUptoRow, standIns := [], harness := (true, "80d2415b3608ce1f7416c9d9477a2500f33db69fdfa4f49f582abddbf7d80535"), looks := true }, kinds := [], alts := [], laidByText := true, laidKinds := [.handle, .sentinel, .sentinel], laidTests := true, laidLooks := .later }
def CodecCertificatesUptoCardSaid : Prop := Claim7.holds Tryd.pinned (.plain (OpenSpec.upto codecCertificatesSpec)) codecCertificatesUptoCard

/-- THE SECOND FORM's CARD OF 'wapentakelaw02.CodecVotes'. -/
def codecVotesUptoCard : Claim7 := { stood := { row := codecVotesUptoRow, standIns := [], harness := (true, "80d2415b3608ce1f7416c9d9477a2500f33db69fdfa4f49f582abddbf7d80535"), looks := true }, kinds := [], alts := [], laidByText := true, laidKinds := [.handle, .sentinel, .sentinel], laidTests := true, laidLooks := .later }
def CodecVotesUptoCardSaid : Prop := Claim7.holds Tryd.pinned (.plain (OpenSpec.upto codecVotesSpec)) codecVotesUptoCard

/-- THE SECOND FORM's CARD OF 'wapentakelaw02.CodecFacts'. -/
def codecFactsUptoCard : Claim7 := { stood := { row := codecFactsUptoRow, standIns := [], harness := (true, "80d2415b3608ce1f7416c9d9477a2500f33db69fdfa4f49f582abddbf7d80535"), looks := true }, kinds := [], alts := [], laidByText := true, laidKinds := [.handle, .sentinel, .sentinel], laidTests := true, laidLooks := .later }
def CodecFactsUptoCardSaid : Prop := Claim7.holds Tryd.pinned (.plain (OpenSpec.upto codecFactsSpec)) codecFactsUptoCard
end Rows
end Go.Proofs.YtjjgmkfkmckkoaaDoor
