/-
  DERIVED. GIVEN WITH THE SEED: THE CARDS: each row of YtpdomckacfeffaaDoorRows.lean that lists a variable, with what it lists TIED to the program's text (the seventh form; the later family's looks); each row that meets fmt, with fmt's text TOLD by the authors' own Lean function (tested against real Go, not proved from fmt's source: count such statements apart). THE CARD IS WHAT COUNTS. Prove the row's statement (the work); the ties are given (YtpdomckacfeffaaDoorTie.lean); close each card by the builder's one call (the guide's Derived/Test/ToyasCard.lean, 'card_holds'). Laid BY PROGRAM, IN A SANDBOX (cutbox-door.mjs). By AI agents, Wed Nov 11 2026. No macro, syntax, notation, axiom, sorry.
-/
import Derived.Test.YtpdomckacfeffaaDoorRows
import GoSem.ClaimSeven
namespace Go.Proofs.YtpdomckacfeffaaDoor
namespace Rows

/-- THE TIED CARD OF 'vidimuslaw02.TagsGet'. -/
def tagsGetCard : Claim7 := { stood := { row := tagsGetRow, standIns := [], harness := (true, "5a6267435efc830c948776926dcdf1342f7fcb800bc8683d7ef155baf2232b72"), looks := true }, kinds := [], alts := [], laidByText := true, laidKinds := [.data, .data, .data, .sentinel, .sentinel, .widerDeep], laidTests := true, laidLooks := .later }
def TagsGetCardSaid : Prop := Claim7.holds Tryd.pinned (.plain (OpenSpec.ofChange tagsGetSpec)) tagsGetCard

/-- THE TIED CARD OF 'vidimuslaw02.TagsPrefix'. -/
def tagsPrefixCard : Claim7 := { stood := { row := tagsPrefixRow, standIns := [], harness := (true, "5a6267435efc830c948776926dcdf1342f7fcb800bc8683d7ef155baf2232b72"), looks := true }, kinds := [], alts := [], laidByText := true, laidKinds := [.data, .data, .data, .sentinel, .sentinel, .widerDeep], laidTests := true, laidLooks := .later }
def TagsPrefixCardSaid : Prop := Claim7.holds Tryd.pinned (.plain (OpenSpec.ofChange tagsPrefixSpec)) tagsPrefixCard

/-- THE TIED CARD OF 'vidimuslaw02.TagsText'. -/
def tagsTextCard : Claim7 := { stood := { row := tagsTextRow, standIns := [], harness := (true, "5a6267435efc830c948776926dcdf1342f7fcb800bc8683d7ef155baf2232b72"), looks := true }, kinds := [], alts := [], laidByText := true, laidKinds := [.data, .data, .data, .sentinel, .sentinel, .widerDeep], laidTests := true, laidLooks := .later }
def TagsTextCardSaid : Prop := Claim7.holds Tryd.pinned (.plain (OpenSpec.ofChange tagsTextSpec)) tagsTextCard

/-- THE TIED CARD OF 'vidimuslaw02.TagsCheck'. -/
def tagsCheckCard : Claim7 := { stood := { row := tagsCheckRow, standIns := [], harness := (true, "5a6267435efc830c948776926dcdf1342f7fcb800bc8683d7ef155baf2232b72"), looks := true }, kinds := [], alts := [], laidByText := true, laidKinds := [.data, .data, .data, .sentinel, .sentinel, .widerDeep], laidTests := true, laidLooks := .later }
def TagsCheckCardSaid : Prop := Claim7.holds Tryd.pinned (.plain (OpenSpec.ofChange tagsCheckSpec)) tagsCheckCard

/-- THE TIED CARD OF 'vidimuslaw02.TagsBack'. -/
def tagsBackCard : Claim7 := { stood := { row := tagsBackRow, standIns := [], harness := (true, "5a6267435efc830c948776926dcdf1342f7fcb800bc8683d7ef155baf2232b72"), looks := true }, kinds := [], alts := [], laidByText := true, laidKinds := [.data, .data, .data, .sentinel, .sentinel, .widerDeep], laidTests := true, laidLooks := .later }
def TagsBackCardSaid : Prop := Claim7.holds Tryd.pinned (.plain (OpenSpec.ofChange tagsBackSpec)) tagsBackCard

/-- THE TIED CARD OF 'vidimuslaw02.TagsKnown'. -/
def tagsKnownCard : Claim7 := { stood := { row := tagsKnownRow, standIns := [], harness := (true, "5a6267435efc830c948776926dcdf1342f7fcb800bc8683d7ef155baf2232b72"), looks := true }, kinds := [], alts := [], laidByText := true, laidKinds := [.data, .data, .data, .sentinel, .sentinel, .widerDeep], laidTests := true, laidLooks := .later }
def TagsKnownCardSaid : Prop := Claim7.holds Tryd.pinned (.plain (OpenSpec.ofChange tagsKnownSpec)) tagsKnownCard

/-- THE TIED CARD OF 'vidimuslaw02.TagsOrder'. -/
def tagsOrderCard : Claim7 := { stood := { row := tagsOrderRow, standIns := [], harness := (true, "5a6267435efc830c948776926dcdf1342f7fcb800bc8683d7ef155baf2232b72"), looks := true }, kinds := [], alts := [], laidByText := true, laidKinds := [.data, .data, .data, .sentinel, .sentinel, .widerDeep], laidTests := true, laidLooks := .later }
def TagsOrderCardSaid : Prop := Claim7.holds Tryd.pinned (.plain (OpenSpec.ofChange tagsOrderSpec)) tagsOrderCard

/-- THE SECOND FORM's CARD OF 'vidimuslaw02.TagsGet'. -/
def tagsGetUptoCard : Claim7 := { stood := { row := tagsGetUptoRow, standIns := [], harness := (true, "5a6267435efc830c948776926dcdf1342f7fcb800bc8683d7ef155baf2232b72"), looks := true }, kinds := [], alts := [], laidByText := true, laidKinds := [.data, .data, .data, .sentinel, .sentinel, .widerDeep], laidTests := true, laidLooks := .later }
def TagsGetUptoCardSaid : Prop := Claim7.holds Tryd.pinned (.plain (OpenSpec.upto tagsGetSpec)) tagsGetUptoCard

/-- THE SECOND FORM's CARD OF 'vidimuslaw02.TagsPrefix'. -/
def tagsPrefixUptoCard : Claim7 := { stood := { row := tagsPrefixUptoRow, standIns := [], harness := (true, "5a6267435efc830c948776926dcdf1342f7fcb800bc8683d7ef155baf2232b72"), looks := true }, kinds := [], alts := [], laidByText := true, laidKinds := [.data, .data, .data, .sentinel, .sentinel, .widerDeep], laidTests := true, laidLooks := .later }
def TagsPrefixUptoCardSaid : Prop := Claim7.holds Tryd.pinned (.plain (OpenSpec.upto tagsPrefixSpec)) tagsPrefixUptoCard

/-- THE SECOND FORM's CARD OF 'vidimuslaw02.TagsText'. -/
def tagsTextUptoCard : Claim7 := { stood := { row := tagsTextUptoRow, standIns := [], harness := (true, "5a6267435efc830c948776926dcdf1342f7fcb800bc8683d7ef155baf2232b72"), looks := true }, kinds := [], alts := [], laidByText := true, laidKinds := [.data, .data, .data, .sentinel, .sentinel, .widerDeep], laidTests := true, laidLooks := .later }
def TagsTextUptoCardSaid : Prop := Claim7.holds Tryd.pinned (.plain (OpenSpec.upto tagsTextSpec)) tagsTextUptoCard

/-- THE SECOND FORM's CARD OF 'vidimuslaw02.TagsCheck'. -/
def tagsCheckUptoCard : Claim7 := { stood := { row := tagsCheckUptoRow, standIns := [], harness := (true, "5a6267435efc830c948776926dcdf1342f7fcb800bc8683d7ef155baf2232b72"), looks := true }, kinds := [], alts := [], laidByText := true, laidKinds := [.data, .data, .data, .sentinel, .sentinel, .widerDeep], laidTests := true, laidLooks := .later }
def TagsCheckUptoCardSaid : Prop := Claim7.holds Tryd.pinned (.plain (OpenSpec.upto tagsCheckSpec)) tagsCheckUptoCard

/-- THE SECOND FORM's CARD OF 'vidimuslaw02.TagsBack'. -/
def tagsBackUptoCard : Claim7 := { stood := { row := tagsBackUptoRow, standIns := [], harness := (true, "5a6267435efc830c948776926dcdf1342f7fcb800bc8683d7ef155baf2232b72"), looks := true }, kinds := [], alts := [], laidByText := true, laidKinds := [.data, .data, .data, .sentinel, .sentinel, .widerDeep], laidTests := true, laidLooks := .later }
def TagsBackUptoCardSaid : Prop := Claim7.holds Tryd.pinned (.plain (OpenSpec.upto tagsBackSpec)) tagsBackUptoCard

/-- THE SECOND FORM's CARD OF 'vidimuslaw02.TagsKnown'. -/
def tagsKnownUptoCard : Claim7 := { stood := { row := tagsKnownUptoRow, standIns := [], harness := (true, "5a6267435efc830c948776926dcdf1342f7fcb800bc8683d7ef155baf2232b72"), looks := true }, kinds := [], alts := [], laidByText := true, laidKinds := [.data, .data, .data, .sentinel, .sentinel, .widerDeep], laidTests := true, laidLooks := .later }
def TagsKnownUptoCardSaid : Prop := Claim7.holds Tryd.pinned (.plain (OpenSpec.upto tagsKnownSpec)) tagsKnownUptoCard

/-- THE SECOND FORM's CARD OF 'vidimuslaw02.TagsOrder'. -/
def tagsOrderUptoCard : Claim7 := { stood := { row := tagsOrderUptoRow, standIns := [], harness := (true, "5a6267435efc830c948776926dcdf1342f7fcb800bc8683d7ef155baf2232b72"), looks := true }, kinds := [], alts := [], laidByText := true, laidKinds := [.data, .data, .data, .sentinel, .sentinel, .widerDeep], laidTests := true, laidLooks := .later }
def TagsOrderUptoCardSaid : Prop := Claim7.holds Tryd.pinned (.plain (OpenSpec.upto tagsOrderSpec)) tagsOrderUptoCard
end Rows
end Go.Proofs.YtpdomckacfeffaaDoor
