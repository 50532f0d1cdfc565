/-
  DERIVED. GIVEN WITH THE SEED: THE CARDS: each row of YtolkjijnodejlaaDoorRows.lean that lists a variable, with what it lists TIED to the program's text (the seventh form; the later family's looks); each row that meets fmt, with fmt's text TOLD by the authors' own Lean function (tested against real Go, not proved from fmt's source: count such statements apart). THE CARD IS WHAT COUNTS. Prove the row's statement (the work); the ties are given (YtolkjijnodejlaaDoorTie.lean); close each card by the builder's one call (the guide's Derived/Test/ToyasCard.lean, 'card_holds'). Laid BY PROGRAM, IN A SANDBOX (cutbox-door.mjs). By AI agents, Wed Nov 11 2026. No macro, syntax, notation, axiom, sorry.
-/
import Derived.Test.YtolkjijnodejlaaDoorRows
import GoSem.ClaimSeven
namespace Go.Proofs.YtolkjijnodejlaaDoor
namespace Rows

/-- THE TIED CARD OF 'wirelesslaw41.UuidShorts'. -/
def uuidShortsCard : Claim7 := { stood := { row := uuidShortsRow, standIns := [], harness := (true, "df7a72d615aca22cf89c1a93d5d31a0885810a6b91b20126d2dba86cac06c8aa"), looks := false }, kinds := [], alts := [], laidByText := true, laidKinds := [.data, .pinned], laidTests := true, laidLooks := .later }
def UuidShortsCardSaid : Prop := Claim7.holds Tryd.pinned (.plain (OpenSpec.ofChange uuidShortsSpec)) uuidShortsCard

/-- THE TIED CARD OF 'wirelesslaw41.UuidTexts'. -/
def uuidTextsCard : Claim7 := { stood := { row := uuidTextsRow, standIns := [], harness := (true, "df7a72d615aca22cf89c1a93d5d31a0885810a6b91b20126d2dba86cac06c8aa"), looks := false }, kinds := [], alts := [], laidByText := true, laidKinds := [.data, .pinned], laidTests := true, laidLooks := .later }
def UuidTextsCardSaid : Prop := Claim7.holds Tryd.pinned (.plain (OpenSpec.ofChange uuidTextsSpec)) uuidTextsCard

/-- THE TIED CARD OF 'wirelesslaw41.UuidDecodes'. -/
def uuidDecodesCard : Claim7 := { stood := { row := uuidDecodesRow, standIns := [], harness := (true, "df7a72d615aca22cf89c1a93d5d31a0885810a6b91b20126d2dba86cac06c8aa"), looks := false }, kinds := [], alts := [], laidByText := true, laidKinds := [.data, .pinned], laidTests := true, laidLooks := .later }
def UuidDecodesCardSaid : Prop := Claim7.holds Tryd.pinned (.plain (OpenSpec.ofChange uuidDecodesSpec)) uuidDecodesCard

/-- THE TIED CARD OF 'wirelesslaw41.UuidBack'. -/
def uuidBackCard : Claim7 := { stood := { row := uuidBackRow, standIns := [], harness := (true, "df7a72d615aca22cf89c1a93d5d31a0885810a6b91b20126d2dba86cac06c8aa"), looks := false }, kinds := [], alts := [], laidByText := true, laidKinds := [.data, .pinned], laidTests := true, laidLooks := .later }
def UuidBackCardSaid : Prop := Claim7.holds Tryd.pinned (.plain (OpenSpec.ofChange uuidBackSpec)) uuidBackCard

/-- THE TIED CARD OF 'wirelesslaw41.UuidCompares'. -/
def uuidComparesCard : Claim7 := { stood := { row := uuidComparesRow, standIns := [], harness := (true, "df7a72d615aca22cf89c1a93d5d31a0885810a6b91b20126d2dba86cac06c8aa"), looks := false }, kinds := [], alts := [], laidByText := true, laidKinds := [.data, .pinned], laidTests := true, laidLooks := .later }
def UuidComparesCardSaid : Prop := Claim7.holds Tryd.pinned (.plain (OpenSpec.ofChange uuidComparesSpec)) uuidComparesCard

/-- THE TIED CARD OF 'wirelesslaw41.UuidOrder'. -/
def uuidOrderCard : Claim7 := { stood := { row := uuidOrderRow, standIns := [], harness := (true, "df7a72d615aca22cf89c1a93d5d31a0885810a6b91b20126d2dba86cac06c8aa"), looks := false }, kinds := [], alts := [], laidByText := true, laidKinds := [.data, .pinned], laidTests := true, laidLooks := .later }
def UuidOrderCardSaid : Prop := Claim7.holds Tryd.pinned (.plain (OpenSpec.ofChange uuidOrderSpec)) uuidOrderCard

/-- THE SECOND FORM's CARD OF 'wirelesslaw41.UuidShorts'. -/
def uuidShortsUptoCard : Claim7 := { stood := { row := uuidShortsUptoRow, standIns := [], harness := (true, "df7a72d615aca22cf89c1a93d5d31a0885810a6b91b20126d2dba86cac06c8aa"), looks := false }, kinds := [], alts := [], laidByText := true, laidKinds := [.data, .pinned], laidTests := true, laidLooks := .later }
def UuidShortsUptoCardSaid : Prop := Claim7.holds Tryd.pinned (.plain (OpenSpec.upto uuidShortsSpec)) uuidShortsUptoCard

/-- THE SECOND FORM's CARD OF 'wirelesslaw41.UuidTexts'. -/
def uuidTextsUptoCard : Claim7 := { stood := { row := uuidTextsUptoRow, standIns := [], harness := (true, "df7a72d615aca22cf89c1a93d5d31a0885810a6b91b20126d2dba86cac06c8aa"), looks := false }, kinds := [], alts := [], laidByText := true, laidKinds := [.data, .pinned], laidTests := true, laidLooks := .later }
def UuidTextsUptoCardSaid : Prop := Claim7.holds Tryd.pinned (.plain (OpenSpec.upto uuidTextsSpec)) uuidTextsUptoCard

/-- THE SECOND FORM's CARD OF 'wirelesslaw41.UuidDecodes'. -/
def uuidDecodesUptoCard : Claim7 := { stood := { row := uuidDecodesUptoRow, standIns := [], harness := (true, "df7a72d615aca22cf89c1a93d5d31a0885810a6b91b20126d2dba86cac06c8aa"), looks := false }, kinds := [], alts := [], laidByText := true, laidKinds := [.data, .pinned], laidTests := true, laidLooks := .later }
def UuidDecodesUptoCardSaid : Prop := Claim7.holds Tryd.pinned (.plain (OpenSpec.upto uuidDecodesSpec)) uuidDecodesUptoCard

/-- THE SECOND FORM's CARD OF 'wirelesslaw41.UuidBack'. -/
def uuidBackUptoCard : Claim7 := { stood := { row := uuidBackUptoRow, standIns := [], harness := (true, "df7a72d615aca22cf89c1a93d5d31a0885810a6b91b20126d2dba86cac06c8aa"), looks := false }, kinds := [], alts := [], laidByText := true, laidKinds := [.data, .pinned], laidTests := true, laidLooks := .later }
def UuidBackUptoCardSaid : Prop := Claim7.holds Tryd.pinned (.plain (OpenSpec.upto uuidBackSpec)) uuidBackUptoCard

/-- THE SECOND FORM's CARD OF 'wirelesslaw41.UuidCompares'. -/
def uuidComparesUptoCard : Claim7 := { stood := { row := uuidComparesUptoRow, standIns := [], harness := (true, "df7a72d615aca22cf89c1a93d5d31a0885810a6b91b20126d2dba86cac06c8aa"), looks := false }, kinds := [], alts := [], laidByText := true, laidKinds := [.data, .pinned], laidTests := true, laidLooks := .later }
def UuidComparesUptoCardSaid : Prop := Claim7.holds Tryd.pinned (.plain (OpenSpec.upto uuidComparesSpec)) uuidComparesUptoCard

/-- THE SECOND FORM's CARD OF 'wirelesslaw41.UuidOrder'. -/
def uuidOrderUptoCard : Claim7 := { stood := { row := uuidOrderUptoRow, standIns := [], harness := (true, "df7a72d615aca22cf89c1a93d5d31a0885810a6b91b20126d2dba86cac06c8aa"), looks := false }, kinds := [], alts := [], laidByText := true, laidKinds := [.data, .pinned], laidTests := true, laidLooks := .later }
def UuidOrderUptoCardSaid : Prop := Claim7.holds Tryd.pinned (.plain (OpenSpec.upto uuidOrderSpec)) uuidOrderUptoCard
end Rows
end Go.Proofs.YtolkjijnodejlaaDoor
