/-
  DERIVED. GIVEN WITH THE SEED: THE CARDS: each row of YtoaiiceglfmfcaaDoorRows.lean that lists a variable, with what it lists TIED to the program's text (the seventh form; the later family's looks); each row that meets fmt, with fmt's text TOLD by the authors' own Lean function (tested against real Go, not proved from fmt's source: count such statements apart). THE CARD IS WHAT COUNTS. Prove the row's statement (the work); the ties are given (YtoaiiceglfmfcaaDoorTie.lean); close each card by the builder's one call (the guide's Derived/Test/ToyasCard.lean, 'card_holds'). Laid BY PROGRAM, IN A SANDBOX (cutbox-door.mjs). By AI agents, Wed Nov 11 2026. No macro, syntax, notation, axiom, sorry.
-/
import Derived.Test.YtoaiiceglfmfcaaDoorRows
import GoSem.ClaimSeven
namespace Go.Proofs.YtoaiiceglfmfcaaDoor
namespace Rows

/-- THE TIED CARD OF 'wirelesslaw12.ChanmapChecks'. -/
def chanmapChecksCard : Claim7 := { stood := { row := chanmapChecksRow, standIns := [], harness := (true, "79653d36339d71a6413a874c0352711f224e1ab523ff55c49012d5ef23403685"), looks := true }, kinds := [], alts := [], laidByText := true, laidKinds := [.data, .data, .data, .data, .sentinel, .sentinel, .pinned], laidTests := true, laidLooks := .later }
def ChanmapChecksCardSaid : Prop := Claim7.holds Tryd.pinned (.plain (OpenSpec.ofChange chanmapChecksSpec)) chanmapChecksCard

/-- THE TIED CARD OF 'wirelesslaw12.ChanmapSets'. -/
def chanmapSetsCard : Claim7 := { stood := { row := chanmapSetsRow, standIns := [], harness := (true, "79653d36339d71a6413a874c0352711f224e1ab523ff55c49012d5ef23403685"), looks := true }, kinds := [], alts := [], laidByText := true, laidKinds := [.data, .data, .data, .data, .sentinel, .sentinel, .pinned], laidTests := true, laidLooks := .later }
def ChanmapSetsCardSaid : Prop := Claim7.holds Tryd.pinned (.plain (OpenSpec.ofChange chanmapSetsSpec)) chanmapSetsCard

/-- THE TIED CARD OF 'wirelesslaw12.ChanmapRemaps'. -/
def chanmapRemapsCard : Claim7 := { stood := { row := chanmapRemapsRow, standIns := [], harness := (true, "79653d36339d71a6413a874c0352711f224e1ab523ff55c49012d5ef23403685"), looks := true }, kinds := [], alts := [], laidByText := true, laidKinds := [.data, .data, .data, .data, .sentinel, .sentinel, .pinned], laidTests := true, laidLooks := .later }
def ChanmapRemapsCardSaid : Prop := Claim7.holds Tryd.pinned (.plain (OpenSpec.ofChange chanmapRemapsSpec)) chanmapRemapsCard

/-- THE TIED CARD OF 'wirelesslaw12.ChanmapBytes'. -/
def chanmapBytesCard : Claim7 := { stood := { row := chanmapBytesRow, standIns := [], harness := (true, "79653d36339d71a6413a874c0352711f224e1ab523ff55c49012d5ef23403685"), looks := true }, kinds := [], alts := [], laidByText := true, laidKinds := [.data, .data, .data, .data, .sentinel, .sentinel, .pinned], laidTests := true, laidLooks := .later }
def ChanmapBytesCardSaid : Prop := Claim7.holds Tryd.pinned (.plain (OpenSpec.ofChange chanmapBytesSpec)) chanmapBytesCard

/-- THE TIED CARD OF 'wirelesslaw12.ChanmapTexts'. -/
def chanmapTextsCard : Claim7 := { stood := { row := chanmapTextsRow, standIns := [], harness := (true, "79653d36339d71a6413a874c0352711f224e1ab523ff55c49012d5ef23403685"), looks := true }, kinds := [], alts := [], laidByText := true, laidKinds := [.data, .data, .data, .data, .sentinel, .sentinel, .pinned], laidTests := true, laidLooks := .later }
def ChanmapTextsCardSaid : Prop := Claim7.holds Tryd.pinned (.plain (OpenSpec.ofChange chanmapTextsSpec)) chanmapTextsCard

/-- THE TIED CARD OF 'wirelesslaw12.ChanmapList'. -/
def chanmapListCard : Claim7 := { stood := { row := chanmapListRow, standIns := [], harness := (true, "79653d36339d71a6413a874c0352711f224e1ab523ff55c49012d5ef23403685"), looks := true }, kinds := [], alts := [], laidByText := true, laidKinds := [.data, .data, .data, .data, .sentinel, .sentinel, .pinned], laidTests := true, laidLooks := .later }
def ChanmapListCardSaid : Prop := Claim7.holds Tryd.pinned (.plain (OpenSpec.ofChange chanmapListSpec)) chanmapListCard

/-- THE TIED CARD OF 'wirelesslaw12.ChanmapBack'. -/
def chanmapBackCard : Claim7 := { stood := { row := chanmapBackRow, standIns := [], harness := (true, "79653d36339d71a6413a874c0352711f224e1ab523ff55c49012d5ef23403685"), looks := true }, kinds := [], alts := [], laidByText := true, laidKinds := [.data, .data, .data, .data, .sentinel, .sentinel, .pinned], laidTests := true, laidLooks := .later }
def ChanmapBackCardSaid : Prop := Claim7.holds Tryd.pinned (.plain (OpenSpec.ofChange chanmapBackSpec)) chanmapBackCard

/-- THE TIED CARD OF 'wirelesslaw12.ChanmapSpectrum'. -/
def chanmapSpectrumCard : Claim7 := { stood := { row := chanmapSpectrumRow, standIns := [], harness := (true, "79653d36339d71a6413a874c0352711f224e1ab523ff55c49012d5ef23403685"), looks := true }, kinds := [], alts := [], laidByText := true, laidKinds := [.data, .data, .data, .data, .sentinel, .sentinel, .pinned], laidTests := true, laidLooks := .later }
def ChanmapSpectrumCardSaid : Prop := Claim7.holds Tryd.pinned (.plain (OpenSpec.ofChange chanmapSpectrumSpec)) chanmapSpectrumCard

/-- THE SECOND FORM's CARD OF 'wirelesslaw12.ChanmapChecks'. -/
def chanmapChecksUptoCard : Claim7 := { stood := { row := chanmapChecksUptoRow, standIns := [], harness := (true, "79653d36339d71a6413a874c0352711f224e1ab523ff55c49012d5ef23403685"), looks := true }, kinds := [], alts := [], laidByText := true, laidKinds := [.data, .data, .data, .data, .sentinel, .sentinel, .pinned], laidTests := true, laidLooks := .later }
def ChanmapChecksUptoCardSaid : Prop := Claim7.holds Tryd.pinned (.plain (OpenSpec.upto chanmapChecksSpec)) chanmapChecksUptoCard

/-- THE SECOND FORM's CARD OF 'wirelesslaw12.ChanmapSets'. -/
def chanmapSetsUptoCard : Claim7 := { stood := { row := chanmapSetsUptoRow, standIns := [], harness := (true, "79653d36339d71a6413a874c0352711f224e1ab523ff55c49012d5ef23403685"), looks := true }, kinds := [], alts := [], laidByText := true, laidKinds := [.data, .data, .data, .data, .sentinel, .sentinel, .pinned], laidTests := true, laidLooks := .later }
def ChanmapSetsUptoCardSaid : Prop := Claim7.holds Tryd.pinned (.plain (OpenSpec.upto chanmapSetsSpec)) chanmapSetsUptoCard

/-- THE SECOND FORM's CARD OF 'wirelesslaw12.ChanmapRemaps'. -/
def chanmapRemapsUptoCard : Claim7 := { stood := { row := chanmapRemapsUptoRow, standIns := [], harness := (true, "79653d36339d71a6413a874c0352711f224e1ab523ff55c49012d5ef23403685"), looks := true }, kinds := [], alts := [], laidByText := true, laidKinds := [.data, .data, .data, .data, .sentinel, .sentinel, .pinned], laidTests := true, laidLooks := .later }
def ChanmapRemapsUptoCardSaid : Prop := Claim7.holds Tryd.pinned (.plain (OpenSpec.upto chanmapRemapsSpec)) chanmapRemapsUptoCard

/-- THE SECOND FORM's CARD OF 'wirelesslaw12.ChanmapBytes'. -/
def chanmapBytesUptoCard : Claim7 := { stood := { row := chanmapBytesUptoRow, standIns := [], harness := (true, "79653d36339d71a6413a874c0352711f224e1ab523ff55c49012d5ef23403685"), looks := true }, kinds := [], alts := [], laidByText := true, laidKinds := [.data, .data, .data, .data, .sentinel, .sentinel, .pinned], laidTests := true, laidLooks := .later }
def ChanmapBytesUptoCardSaid : Prop := Claim7.holds Tryd.pinned (.plain (OpenSpec.upto chanmapBytesSpec)) chanmapBytesUptoCard

/-- THE SECOND FORM's CARD OF 'wirelesslaw12.ChanmapTexts'. -/
def chanmapTextsUptoCard : Claim7 := { stood := { row := chanmapTextsUptoRow, standIns := [], harness := (true, "79653d36339d71a6413a874c0352711f224e1ab523ff55c49012d5ef23403685"), looks := true }, kinds := [], alts := [], laidByText := true, laidKinds := [.data, .data, .data, .data, .sentinel, .sentinel, .pinned], laidTests := true, laidLooks := .later }
def ChanmapTextsUptoCardSaid : Prop := Claim7.holds Tryd.pinned (.plain (OpenSpec.upto chanmapTextsSpec)) chanmapTextsUptoCard

/-- THE SECOND FORM's CARD OF 'wirelesslaw12.ChanmapList'. -/
def chanmapListUptoCard : Claim7 := { stood := { row := chanmapListUptoRow, standIns := [], harness := (true, "79653d36339d71a6413a874c0352711f224e1ab523ff55c49012d5ef23403685"), looks := true }, kinds := [], alts := [], laidByText := true, laidKinds := [.data, .data, .data, .data, .sentinel, .sentinel, .pinned], laidTests := true, laidLooks := .later }
def ChanmapListUptoCardSaid : Prop := Claim7.holds Tryd.pinned (.plain (OpenSpec.upto chanmapListSpec)) chanmapListUptoCard

/-- THE SECOND FORM's CARD OF 'wirelesslaw12.ChanmapBack'. -/
def chanmapBackUptoCard : Claim7 := { stood := { row := chanmapBackUptoRow, standIns := [], harness := (true, "79653d36339d71a6413a874c0352711f224e1ab523ff55c49012d5ef23403685"), looks := true }, kinds := [], alts := [], laidByText := true, laidKinds := [.data, .data, .data, .data, .sentinel, .sentinel, .pinned], laidTests := true, laidLooks := .later }
def ChanmapBackUptoCardSaid : Prop := Claim7.holds Tryd.pinned (.plain (OpenSpec.upto chanmapBackSpec)) chanmapBackUptoCard

/-- THE SECOND FORM's CARD OF 'wirelesslaw12.ChanmapSpectrum'. -/
def chanmapSpectrumUptoCard : Claim7 := { stood := { row := chanmapSpectrumUptoRow, standIns := [], harness := (true, "79653d36339d71a6413a874c0352711f224e1ab523ff55c49012d5ef23403685"), looks := true }, kinds := [], alts := [], laidByText := true, laidKinds := [.data, .data, .data, .data, .sentinel, .sentinel, .pinned], laidTests := true, laidLooks := .later }
def ChanmapSpectrumUptoCardSaid : Prop := Claim7.holds Tryd.pinned (.plain (OpenSpec.upto chanmapSpectrumSpec)) chanmapSpectrumUptoCard
end Rows
end Go.Proofs.YtoaiiceglfmfcaaDoor
