/-
  DERIVED. GIVEN WITH THE SEED: THE CARDS: each row of YtbncjjobdipmgaaDoorRows.lean that lists a variable, with what it lists TIED to the program's text (the seventh form; the later family's looks); each row that meets fmt, with fmt's text TOLD by the authors' own Lean function (tested against real Go, not proved from fmt's source: count such statements apart). THE CARD IS WHAT COUNTS. Prove the row's statement (the work); the ties are given (YtbncjjobdipmgaaDoorTie.lean); close each card by the builder's one call (the guide's Derived/Test/ToyasCard.lean, 'card_holds'). Laid BY PROGRAM, IN A SANDBOX (cutbox-door.mjs). By AI agents, Wed Nov 11 2026. No macro, syntax, notation, axiom, sorry.
-/
import Derived.Test.YtbncjjobdipmgaaDoorRows
import GoSem.ClaimSeven
namespace Go.Proofs.YtbncjjobdipmgaaDoor
namespace Rows

/-- THE TIED CARD OF 'vidimuslaw10.TimesCheck'. -/
def timesCheckCard : Claim7 := { stood := { row := timesCheckRow, standIns := [], harness := (true, "49114932585340edf7175d6d9a49025744bdf42badd0bf224eda05216d4131e8"), looks := false }, kinds := [], alts := [], laidByText := true, laidKinds := [.data, .data, .data, .data], laidTests := true, laidLooks := .later }
def TimesCheckCardSaid : Prop := Claim7.holds Tryd.pinned (.plain (OpenSpec.ofChange timesCheckSpec)) timesCheckCard

/-- THE TIED CARD OF 'vidimuslaw10.TimesBack'. -/
def timesBackCard : Claim7 := { stood := { row := timesBackRow, standIns := [], harness := (true, "49114932585340edf7175d6d9a49025744bdf42badd0bf224eda05216d4131e8"), looks := false }, kinds := [], alts := [], laidByText := true, laidKinds := [.data, .data, .data, .data], laidTests := true, laidLooks := .later }
def TimesBackCardSaid : Prop := Claim7.holds Tryd.pinned (.plain (OpenSpec.ofChange timesBackSpec)) timesBackCard

/-- THE TIED CARD OF 'vidimuslaw10.TimesOf'. -/
def timesOfCard : Claim7 := { stood := { row := timesOfRow, standIns := [], harness := (true, "49114932585340edf7175d6d9a49025744bdf42badd0bf224eda05216d4131e8"), looks := false }, kinds := [], alts := [], laidByText := true, laidKinds := [.data, .data, .data, .data], laidTests := true, laidLooks := .later }
def TimesOfCardSaid : Prop := Claim7.holds Tryd.pinned (.plain (OpenSpec.ofChange timesOfSpec)) timesOfCard

/-- THE TIED CARD OF 'vidimuslaw10.TimesParse'. -/
def timesParseCard : Claim7 := { stood := { row := timesParseRow, standIns := [], harness := (true, "49114932585340edf7175d6d9a49025744bdf42badd0bf224eda05216d4131e8"), looks := false }, kinds := [], alts := [], laidByText := true, laidKinds := [.data, .data, .data, .data], laidTests := true, laidLooks := .later }
def TimesParseCardSaid : Prop := Claim7.holds Tryd.pinned (.plain (OpenSpec.ofChange timesParseSpec)) timesParseCard

/-- THE TIED CARD OF 'vidimuslaw10.TimesSeconds'. -/
def timesSecondsCard : Claim7 := { stood := { row := timesSecondsRow, standIns := [], harness := (true, "49114932585340edf7175d6d9a49025744bdf42badd0bf224eda05216d4131e8"), looks := false }, kinds := [], alts := [], laidByText := true, laidKinds := [.data, .data, .data, .data], laidTests := true, laidLooks := .later }
def TimesSecondsCardSaid : Prop := Claim7.holds Tryd.pinned (.plain (OpenSpec.ofChange timesSecondsSpec)) timesSecondsCard

/-- THE TIED CARD OF 'vidimuslaw10.TimesKnown'. -/
def timesKnownCard : Claim7 := { stood := { row := timesKnownRow, standIns := [], harness := (true, "49114932585340edf7175d6d9a49025744bdf42badd0bf224eda05216d4131e8"), looks := false }, kinds := [], alts := [], laidByText := true, laidKinds := [.data, .data, .data, .data], laidTests := true, laidLooks := .later }
def TimesKnownCardSaid : Prop := Claim7.holds Tryd.pinned (.plain (OpenSpec.ofChange timesKnownSpec)) timesKnownCard

/-- THE TIED CARD OF 'vidimuslaw10.TimesOrder'. -/
def timesOrderCard : Claim7 := { stood := { row := timesOrderRow, standIns := [], harness := (true, "49114932585340edf7175d6d9a49025744bdf42badd0bf224eda05216d4131e8"), looks := false }, kinds := [], alts := [], laidByText := true, laidKinds := [.data, .data, .data, .data], laidTests := true, laidLooks := .later }
def TimesOrderCardSaid : Prop := Claim7.holds Tryd.pinned (.plain (OpenSpec.ofChange timesOrderSpec)) timesOrderCard

/-- THE SECOND FORM's CARD OF 'vidimuslaw10.TimesCheck'. -/
def timesCheckUptoCard : Claim7 := { stood := { row := timesCheckUptoRow, standIns := [], harness := (true, "49114932585340edf7175d6d9a49025744bdf42badd0bf224eda05216d4131e8"), looks := false }, kinds := [], alts := [], laidByText := true, laidKinds := [.data, .data, .data, .data], laidTests := true, laidLooks := .later }
def TimesCheckUptoCardSaid : Prop := Claim7.holds Tryd.pinned (.plain (OpenSpec.upto timesCheckSpec)) timesCheckUptoCard

/-- THE SECOND FORM's CARD OF 'vidimuslaw10.TimesBack'. -/
def timesBackUptoCard : Claim7 := { stood := { row := timesBackUptoRow, standIns := [], harness := (true, "49114932585340edf7175d6d9a49025744bdf42badd0bf224eda05216d4131e8"), looks := false }, kinds := [], alts := [], laidByText := true, laidKinds := [.data, .data, .data, .data], laidTests := true, laidLooks := .later }
def TimesBackUptoCardSaid : Prop := Claim7.holds Tryd.pinned (.plain (OpenSpec.upto timesBackSpec)) timesBackUptoCard

/-- THE SECOND FORM's CARD OF 'vidimuslaw10.TimesOf'. -/
def timesOfUptoCard : Claim7 := { stood := { row := timesOfUptoRow, standIns := [], harness := (true, "49114932585340edf7175d6d9a49025744bdf42badd0bf224eda05216d4131e8"), looks := false }, kinds := [], alts := [], laidByText := true, laidKinds := [.data, .data, .data, .data], laidTests := true, laidLooks := .later }
def TimesOfUptoCardSaid : Prop := Claim7.holds Tryd.pinned (.plain (OpenSpec.upto timesOfSpec)) timesOfUptoCard

/-- THE SECOND FORM's CARD OF 'vidimuslaw10.TimesParse'. -/
def timesParseUptoCard : Claim7 := { stood := { row := timesParseUptoRow, standIns := [], harness := (true, "49114932585340edf7175d6d9a49025744bdf42badd0bf224eda05216d4131e8"), looks := false }, kinds := [], alts := [], laidByText := true, laidKinds := [.data, .data, .data, .data], laidTests := true, laidLooks := .later }
def TimesParseUptoCardSaid : Prop := Claim7.holds Tryd.pinned (.plain (OpenSpec.upto timesParseSpec)) timesParseUptoCard

/-- THE SECOND FORM's CARD OF 'vidimuslaw10.TimesSeconds'. -/
def timesSecondsUptoCard : Claim7 := { stood := { row := timesSecondsUptoRow, standIns := [], harness := (true, "49114932585340edf7175d6d9a49025744bdf42badd0bf224eda05216d4131e8"), looks := false }, kinds := [], alts := [], laidByText := true, laidKinds := [.data, .data, .data, .data], laidTests := true, laidLooks := .later }
def TimesSecondsUptoCardSaid : Prop := Claim7.holds Tryd.pinned (.plain (OpenSpec.upto timesSecondsSpec)) timesSecondsUptoCard

/-- THE SECOND FORM's CARD OF 'vidimuslaw10.TimesKnown'. -/
def timesKnownUptoCard : Claim7 := { stood := { row := timesKnownUptoRow, standIns := [], harness := (true, "49114932585340edf7175d6d9a49025744bdf42badd0bf224eda05216d4131e8"), looks := false }, kinds := [], alts := [], laidByText := true, laidKinds := [.data, .data, .data, .data], laidTests := true, laidLooks := .later }
def TimesKnownUptoCardSaid : Prop := Claim7.holds Tryd.pinned (.plain (OpenSpec.upto timesKnownSpec)) timesKnownUptoCard

/-- THE SECOND FORM's CARD OF 'vidimuslaw10.TimesOrder'. -/
def timesOrderUptoCard : Claim7 := { stood := { row := timesOrderUptoRow, standIns := [], harness := (true, "49114932585340edf7175d6d9a49025744bdf42badd0bf224eda05216d4131e8"), looks := false }, kinds := [], alts := [], laidByText := true, laidKinds := [.data, .data, .data, .data], laidTests := true, laidLooks := .later }
def TimesOrderUptoCardSaid : Prop := Claim7.holds Tryd.pinned (.plain (OpenSpec.upto timesOrderSpec)) timesOrderUptoCard
end Rows
end Go.Proofs.YtbncjjobdipmgaaDoor
