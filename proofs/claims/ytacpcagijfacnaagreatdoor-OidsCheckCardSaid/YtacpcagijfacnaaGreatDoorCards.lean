/-
  DERIVED. GIVEN WITH THE SEED: THE CARDS: each row of YtacpcagijfacnaaGreatDoorRows.lean that lists a variable, with what it lists TIED to the program's text (the seventh form; the later family's looks); each row that meets fmt, with fmt's text TOLD by the authors' own Lean function (tested against real Go, not proved from fmt's source: count such statements apart). THE CARD IS WHAT COUNTS. Prove the row's statement (the work); the ties are given (YtacpcagijfacnaaGreatDoorTie.lean); close each card by the builder's one call (the guide's Derived/Test/ToyasCard.lean, 'card_holds'). Laid BY PROGRAM, IN A SANDBOX (cutbox-door.mjs). By AI agents, Wed Nov 11 2026. No macro, syntax, notation, axiom, sorry.
-/
import Derived.Test.YtacpcagijfacnaaGreatDoorRows
import GoSem.ClaimSeven
namespace Go.Proofs.YtacpcagijfacnaaGreatDoor
namespace Rows

/-- THE TIED CARD OF 'vidimuslaw06.OidsBack'. -/
def oidsBackCard : Claim7 := { stood := { row := oidsBackRow, standIns := [], harness := (true, "77068a0a8cafefbfd8b0f8385f6c24910e4d997c18ee7be5af8b62ff10d12654"), looks := true }, kinds := [], alts := [], laidByText := true, laidKinds := [.data, .data, .data, .data, .sentinel, .sentinel, .pinned], laidTests := true, laidLooks := .later }
def OidsBackCardSaid : Prop := Claim7.holds Tryz.pinned (.plain (OpenSpec.ofChange oidsBackSpec)) oidsBackCard

/-- THE TIED CARD OF 'vidimuslaw06.OidsCheck'. -/
def oidsCheckCard : Claim7 := { stood := { row := oidsCheckRow, standIns := [], harness := (true, "77068a0a8cafefbfd8b0f8385f6c24910e4d997c18ee7be5af8b62ff10d12654"), looks := true }, kinds := [], alts := [], laidByText := true, laidKinds := [.data, .data, .data, .data, .sentinel, .sentinel, .pinned], laidTests := true, laidLooks := .later }
def OidsCheckCardSaid : Prop := Claim7.holds Tryz.pinned (.plain (OpenSpec.ofChange oidsCheckSpec)) oidsCheckCard

/-- THE TIED CARD OF 'vidimuslaw07.OidsetsCheck'. -/
def oidsetsCheckCard : Claim7 := { stood := { row := oidsetsCheckRow, standIns := [], harness := (true, "77068a0a8cafefbfd8b0f8385f6c24910e4d997c18ee7be5af8b62ff10d12654"), looks := true }, kinds := [], alts := [], laidByText := true, laidKinds := [.data, .data, .data, .data, .sentinel, .sentinel, .pinned], laidTests := true, laidLooks := .later }
def OidsetsCheckCardSaid : Prop := Claim7.holds Tryz.pinned (.plain (OpenSpec.ofChange oidsetsCheckSpec)) oidsetsCheckCard

/-- THE TIED CARD OF 'vidimuslaw07.OidsetsOf'. -/
def oidsetsOfCard : Claim7 := { stood := { row := oidsetsOfRow, standIns := [], harness := (true, "77068a0a8cafefbfd8b0f8385f6c24910e4d997c18ee7be5af8b62ff10d12654"), looks := true }, kinds := [], alts := [], laidByText := true, laidKinds := [.data, .data, .data, .data, .sentinel, .sentinel, .pinned], laidTests := true, laidLooks := .later }
def OidsetsOfCardSaid : Prop := Claim7.holds Tryz.pinned (.plain (OpenSpec.ofChange oidsetsOfSpec)) oidsetsOfCard

/-- THE TIED CARD OF 'vidimuslaw07.OidsetsCombine'. -/
def oidsetsCombineCard : Claim7 := { stood := { row := oidsetsCombineRow, standIns := [], harness := (true, "77068a0a8cafefbfd8b0f8385f6c24910e4d997c18ee7be5af8b62ff10d12654"), looks := true }, kinds := [], alts := [], laidByText := true, laidKinds := [.data, .data, .data, .data, .sentinel, .sentinel, .pinned], laidTests := true, laidLooks := .later }
def OidsetsCombineCardSaid : Prop := Claim7.holds Tryz.pinned (.plain (OpenSpec.ofChange oidsetsCombineSpec)) oidsetsCombineCard

/-- THE TIED CARD OF 'vidimuslaw07.OidsetsLattice'. -/
def oidsetsLatticeCard : Claim7 := { stood := { row := oidsetsLatticeRow, standIns := [], harness := (true, "77068a0a8cafefbfd8b0f8385f6c24910e4d997c18ee7be5af8b62ff10d12654"), looks := true }, kinds := [], alts := [], laidByText := true, laidKinds := [.data, .data, .data, .data, .sentinel, .sentinel, .pinned], laidTests := true, laidLooks := .later }
def OidsetsLatticeCardSaid : Prop := Claim7.holds Tryz.pinned (.plain (OpenSpec.ofChange oidsetsLatticeSpec)) oidsetsLatticeCard

/-- THE TIED CARD OF 'vidimuslaw07.OidsetsText'. -/
def oidsetsTextCard : Claim7 := { stood := { row := oidsetsTextRow, standIns := [], harness := (true, "77068a0a8cafefbfd8b0f8385f6c24910e4d997c18ee7be5af8b62ff10d12654"), looks := true }, kinds := [], alts := [], laidByText := true, laidKinds := [.data, .data, .data, .data, .sentinel, .sentinel, .pinned], laidTests := true, laidLooks := .later }
def OidsetsTextCardSaid : Prop := Claim7.holds Tryz.pinned (.plain (OpenSpec.ofChange oidsetsTextSpec)) oidsetsTextCard

/-- THE SECOND FORM's CARD OF 'vidimuslaw06.OidsBack'. -/
def oidsBackUptoCard : Claim7 := { stood := { row := oidsBackUptoRow, standIns := [], harness := (true, "77068a0a8cafefbfd8b0f8385f6c24910e4d997c18ee7be5af8b62ff10d12654"), looks := true }, kinds := [], alts := [], laidByText := true, laidKinds := [.data, .data, .data, .data, .sentinel, .sentinel, .pinned], laidTests := true, laidLooks := .later }
def OidsBackUptoCardSaid : Prop := Claim7.holds Tryz.pinned (.plain (OpenSpec.upto oidsBackSpec)) oidsBackUptoCard

/-- THE SECOND FORM's CARD OF 'vidimuslaw06.OidsCheck'. -/
def oidsCheckUptoCard : Claim7 := { stood := { row := oidsCheckUptoRow, standIns := [], harness := (true, "77068a0a8cafefbfd8b0f8385f6c24910e4d997c18ee7be5af8b62ff10d12654"), looks := true }, kinds := [], alts := [], laidByText := true, laidKinds := [.data, .data, .data, .data, .sentinel, .sentinel, .pinned], laidTests := true, laidLooks := .later }
def OidsCheckUptoCardSaid : Prop := Claim7.holds Tryz.pinned (.plain (OpenSpec.upto oidsCheckSpec)) oidsCheckUptoCard

/-- THE SECOND FORM's CARD OF 'vidimuslaw07.OidsetsCheck'. -/
def oidsetsCheckUptoCard : Claim7 := { stood := { row := oidsetsCheckUptoRow, standIns := [], harness := (true, "77068a0a8cafefbfd8b0f8385f6c24910e4d997c18ee7be5af8b62ff10d12654"), looks := true }, kinds := [], alts := [], laidByText := true, laidKinds := [.data, .data, .data, .data, .sentinel, .sentinel, .pinned], laidTests := true, laidLooks := .later }
def OidsetsCheckUptoCardSaid : Prop := Claim7.holds Tryz.pinned (.plain (OpenSpec.upto oidsetsCheckSpec)) oidsetsCheckUptoCard

/-- THE SECOND FORM's CARD OF 'vidimuslaw07.OidsetsOf'. -/
def oidsetsOfUptoCard : Claim7 := { stood := { row := oidsetsOfUptoRow, standIns := [], harness := (true, "77068a0a8cafefbfd8b0f8385f6c24910e4d997c18ee7be5af8b62ff10d12654"), looks := true }, kinds := [], alts := [], laidByText := true, laidKinds := [.data, .data, .data, .data, .sentinel, .sentinel, .pinned], laidTests := true, laidLooks := .later }
def OidsetsOfUptoCardSaid : Prop := Claim7.holds Tryz.pinned (.plain (OpenSpec.upto oidsetsOfSpec)) oidsetsOfUptoCard

/-- THE SECOND FORM's CARD OF 'vidimuslaw07.OidsetsCombine'. -/
def oidsetsCombineUptoCard : Claim7 := { stood := { row := oidsetsCombineUptoRow, standIns := [], harness := (true, "77068a0a8cafefbfd8b0f8385f6c24910e4d997c18ee7be5af8b62ff10d12654"), looks := true }, kinds := [], alts := [], laidByText := true, laidKinds := [.data, .data, .data, .data, .sentinel, .sentinel, .pinned], laidTests := true, laidLooks := .later }
def OidsetsCombineUptoCardSaid : Prop := Claim7.holds Tryz.pinned (.plain (OpenSpec.upto oidsetsCombineSpec)) oidsetsCombineUptoCard

/-- THE SECOND FORM's CARD OF 'vidimuslaw07.OidsetsLattice'. -/
def oidsetsLatticeUptoCard : Claim7 := { stood := { row := oidsetsLatticeUptoRow, standIns := [], harness := (true, "77068a0a8cafefbfd8b0f8385f6c24910e4d997c18ee7be5af8b62ff10d12654"), looks := true }, kinds := [], alts := [], laidByText := true, laidKinds := [.data, .data, .data, .data, .sentinel, .sentinel, .pinned], laidTests := true, laidLooks := .later }
def OidsetsLatticeUptoCardSaid : Prop := Claim7.holds Tryz.pinned (.plain (OpenSpec.upto oidsetsLatticeSpec)) oidsetsLatticeUptoCard

/-- THE SECOND FORM's CARD OF 'vidimuslaw07.OidsetsText'. -/
def oidsetsTextUptoCard : Claim7 := { stood := { row := oidsetsTextUptoRow, standIns := [], harness := (true, "77068a0a8cafefbfd8b0f8385f6c24910e4d997c18ee7be5af8b62ff10d12654"), looks := true }, kinds := [], alts := [], laidByText := true, laidKinds := [.data, .data, .data, .data, .sentinel, .sentinel, .pinned], laidTests := true, laidLooks := .later }
def OidsetsTextUptoCardSaid : Prop := Claim7.holds Tryz.pinned (.plain (OpenSpec.upto oidsetsTextSpec)) oidsetsTextUptoCard
end Rows
end Go.Proofs.YtacpcagijfacnaaGreatDoor
