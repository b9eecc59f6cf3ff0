/-
  DERIVED. GIVEN WITH THE SEED: THE CARDS: each row of YtacpcagijfacnaaDoorRows.lean that lists a variable, with what it lists TIED to the program's text (the seventh form; the later family's looks); each row that meets fmt, with fmt's text TOLD by the authors' own Lean function (tested against real Go, not proved from fmt's source: count such statements apart). THE CARD IS WHAT COUNTS. Prove the row's statement (the work); the ties are given (YtacpcagijfacnaaDoorTie.lean); close each card by the builder's one call (the guide's Derived/Test/ToyasCard.lean, 'card_holds'). Laid BY PROGRAM, IN A SANDBOX (cutbox-door.mjs). By AI agents, Wed Nov 11 2026. No macro, syntax, notation, axiom, sorry.
-/
import Derived.Test.YtacpcagijfacnaaDoorRows
import GoSem.ClaimSeven
namespace Go.Proofs.YtacpcagijfacnaaDoor
namespace Rows

/-- THE TIED CARD OF 'vidimuslaw06.OidsGet'. -/
def oidsGetCard : Claim7 := { stood := { row := oidsGetRow, standIns := [], harness := (true, "cbc982b087061a98bf6d2ac1020a3acfb059f071825392af771441caf02aacde"), looks := true }, kinds := [], alts := [], laidByText := true, laidKinds := [.data, .data, .data, .data, .sentinel, .sentinel, .pinned], laidTests := true, laidLooks := .later }
def OidsGetCardSaid : Prop := Claim7.holds Tryd.pinned (.plain (OpenSpec.ofChange oidsGetSpec)) oidsGetCard

/-- THE TIED CARD OF 'vidimuslaw06.OidsParse'. -/
def oidsParseCard : Claim7 := { stood := { row := oidsParseRow, standIns := [], harness := (true, "cbc982b087061a98bf6d2ac1020a3acfb059f071825392af771441caf02aacde"), looks := true }, kinds := [], alts := [], laidByText := true, laidKinds := [.data, .data, .data, .data, .sentinel, .sentinel, .pinned], laidTests := true, laidLooks := .later }
def OidsParseCardSaid : Prop := Claim7.holds Tryd.pinned (.plain (OpenSpec.ofChange oidsParseSpec)) oidsParseCard

/-- THE TIED CARD OF 'vidimuslaw06.OidsCompare'. -/
def oidsCompareCard : Claim7 := { stood := { row := oidsCompareRow, standIns := [], harness := (true, "cbc982b087061a98bf6d2ac1020a3acfb059f071825392af771441caf02aacde"), looks := true }, kinds := [], alts := [], laidByText := true, laidKinds := [.data, .data, .data, .data, .sentinel, .sentinel, .pinned], laidTests := true, laidLooks := .later }
def OidsCompareCardSaid : Prop := Claim7.holds Tryd.pinned (.plain (OpenSpec.ofChange oidsCompareSpec)) oidsCompareCard

/-- THE TIED CARD OF 'vidimuslaw06.OidsOrder'. -/
def oidsOrderCard : Claim7 := { stood := { row := oidsOrderRow, standIns := [], harness := (true, "cbc982b087061a98bf6d2ac1020a3acfb059f071825392af771441caf02aacde"), looks := true }, kinds := [], alts := [], laidByText := true, laidKinds := [.data, .data, .data, .data, .sentinel, .sentinel, .pinned], laidTests := true, laidLooks := .later }
def OidsOrderCardSaid : Prop := Claim7.holds Tryd.pinned (.plain (OpenSpec.ofChange oidsOrderSpec)) oidsOrderCard

/-- THE TIED CARD OF 'vidimuslaw06.OidsKnown'. -/
def oidsKnownCard : Claim7 := { stood := { row := oidsKnownRow, standIns := [], harness := (true, "cbc982b087061a98bf6d2ac1020a3acfb059f071825392af771441caf02aacde"), looks := true }, kinds := [], alts := [], laidByText := true, laidKinds := [.data, .data, .data, .data, .sentinel, .sentinel, .pinned], laidTests := true, laidLooks := .later }
def OidsKnownCardSaid : Prop := Claim7.holds Tryd.pinned (.plain (OpenSpec.ofChange oidsKnownSpec)) oidsKnownCard

/-- THE SECOND FORM's CARD OF 'vidimuslaw06.OidsGet'. -/
def oidsGetUptoCard : Claim7 := { stood := { row := oidsGetUptoRow, standIns := [], harness := (true, "cbc982b087061a98bf6d2ac1020a3acfb059f071825392af771441caf02aacde"), looks := true }, kinds := [], alts := [], laidByText := true, laidKinds := [.data, .data, .data, .data, .sentinel, .sentinel, .pinned], laidTests := true, laidLooks := .later }
def OidsGetUptoCardSaid : Prop := Claim7.holds Tryd.pinned (.plain (OpenSpec.upto oidsGetSpec)) oidsGetUptoCard

/-- THE SECOND FORM's CARD OF 'vidimuslaw06.OidsParse'. -/
def oidsParseUptoCard : Claim7 := { stood := { row := oidsParseUptoRow, standIns := [], harness := (true, "cbc982b087061a98bf6d2ac1020a3acfb059f071825392af771441caf02aacde"), looks := true }, kinds := [], alts := [], laidByText := true, laidKinds := [.data, .data, .data, .data, .sentinel, .sentinel, .pinned], laidTests := true, laidLooks := .later }
def OidsParseUptoCardSaid : Prop := Claim7.holds Tryd.pinned (.plain (OpenSpec.upto oidsParseSpec)) oidsParseUptoCard

/-- THE SECOND FORM's CARD OF 'vidimuslaw06.OidsCompare'. -/
def oidsCompareUptoCard : Claim7 := { stood := { row := oidsCompareUptoRow, standIns := [], harness := (true, "cbc982b087061a98bf6d2ac1020a3acfb059f071825392af771441caf02aacde"), looks := true }, kinds := [], alts := [], laidByText := true, laidKinds := [.data, .data, .data, .data, .sentinel, .sentinel, .pinned], laidTests := true, laidLooks := .later }
def OidsCompareUptoCardSaid : Prop := Claim7.holds Tryd.pinned (.plain (OpenSpec.upto oidsCompareSpec)) oidsCompareUptoCard

/-- THE SECOND FORM's CARD OF 'vidimuslaw06.OidsOrder'. -/
def oidsOrderUptoCard : Claim7 := { stood := { row := oidsOrderUptoRow, standIns := [], harness := (true, "cbc982b087061a98bf6d2ac1020a3acfb059f071825392af771441caf02aacde"), looks := true }, kinds := [], alts := [], laidByText := true, laidKinds := [.data, .data, .data, .data, .sentinel, .sentinel, .pinned], laidTests := true, laidLooks := .later }
def OidsOrderUptoCardSaid : Prop := Claim7.holds Tryd.pinned (.plain (OpenSpec.upto oidsOrderSpec)) oidsOrderUptoCard

/-- THE SECOND FORM's CARD OF 'vidimuslaw06.OidsKnown'. -/
def oidsKnownUptoCard : Claim7 := { stood := { row := oidsKnownUptoRow, standIns := [], harness := (true, "cbc982b087061a98bf6d2ac1020a3acfb059f071825392af771441caf02aacde"), looks := true }, kinds := [], alts := [], laidByText := true, laidKinds := [.data, .data, .data, .data, .sentinel, .sentinel, .pinned], laidTests := true, laidLooks := .later }
def OidsKnownUptoCardSaid : Prop := Claim7.holds Tryd.pinned (.plain (OpenSpec.upto oidsKnownSpec)) oidsKnownUptoCard
end Rows
end Go.Proofs.YtacpcagijfacnaaDoor
