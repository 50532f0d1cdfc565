/-
  DERIVED. GIVEN WITH THE SEED: THE CARDS: each row of YtccknpdnapoboaaDoorRows.lean that lists a variable, with what it lists TIED to the program's text (the seventh form; the later family's looks); each row that meets fmt, with fmt's text TOLD by the authors' own Lean function (tested against real Go, not proved from fmt's source: count such statements apart). THE CARD IS WHAT COUNTS. Prove the row's statement (the work); the ties are given (YtccknpdnapoboaaDoorTie.lean); close each card by the builder's one call (the guide's Derived/Test/ToyasCard.lean, 'card_holds'). Laid BY PROGRAM, IN A SANDBOX (cutbox-door.mjs). By AI agents, Wed Nov 11 2026. No macro, syntax, notation, axiom, sorry.
-/
import Derived.Test.YtccknpdnapoboaaDoorRows
import GoSem.ClaimSeven
namespace Go.Proofs.YtccknpdnapoboaaDoor
namespace Rows

/-- THE TIED CARD OF 'wirelesslaw16.CaptureWrites'. -/
def captureWritesCard : Claim7 := { stood := { row := captureWritesRow, standIns := [], harness := (true, "6e0d1b108865162e4ad23be4437ee77f221b49644b5f6394a732a74752e08e1c"), looks := true }, kinds := [], alts := [], laidByText := true, laidKinds := [.data, .data, .data, .data], laidTests := true, laidLooks := .later }
def CaptureWritesCardSaid : Prop := Claim7.holds Tryd.pinned (.plain (OpenSpec.ofChange captureWritesSpec)) captureWritesCard

/-- THE TIED CARD OF 'wirelesslaw16.CaptureReads'. -/
def captureReadsCard : Claim7 := { stood := { row := captureReadsRow, standIns := [], harness := (true, "6e0d1b108865162e4ad23be4437ee77f221b49644b5f6394a732a74752e08e1c"), looks := true }, kinds := [], alts := [], laidByText := true, laidKinds := [.data, .data, .data, .data], laidTests := true, laidLooks := .later }
def CaptureReadsCardSaid : Prop := Claim7.holds Tryd.pinned (.plain (OpenSpec.ofChange captureReadsSpec)) captureReadsCard

/-- THE TIED CARD OF 'wirelesslaw16.CaptureWhole'. -/
def captureWholeCard : Claim7 := { stood := { row := captureWholeRow, standIns := [], harness := (true, "6e0d1b108865162e4ad23be4437ee77f221b49644b5f6394a732a74752e08e1c"), looks := true }, kinds := [], alts := [], laidByText := true, laidKinds := [.data, .data, .data, .data], laidTests := true, laidLooks := .later }
def CaptureWholeCardSaid : Prop := Claim7.holds Tryd.pinned (.plain (OpenSpec.ofChange captureWholeSpec)) captureWholeCard

/-- THE TIED CARD OF 'wirelesslaw16.CaptureFlips'. -/
def captureFlipsCard : Claim7 := { stood := { row := captureFlipsRow, standIns := [], harness := (true, "6e0d1b108865162e4ad23be4437ee77f221b49644b5f6394a732a74752e08e1c"), looks := true }, kinds := [], alts := [], laidByText := true, laidKinds := [.data, .data, .data, .data], laidTests := true, laidLooks := .later }
def CaptureFlipsCardSaid : Prop := Claim7.holds Tryd.pinned (.plain (OpenSpec.ofChange captureFlipsSpec)) captureFlipsCard

/-- THE TIED CARD OF 'wirelesslaw16.CaptureSelects'. -/
def captureSelectsCard : Claim7 := { stood := { row := captureSelectsRow, standIns := [], harness := (true, "6e0d1b108865162e4ad23be4437ee77f221b49644b5f6394a732a74752e08e1c"), looks := true }, kinds := [], alts := [], laidByText := true, laidKinds := [.data, .data, .data, .data], laidTests := true, laidLooks := .later }
def CaptureSelectsCardSaid : Prop := Claim7.holds Tryd.pinned (.plain (OpenSpec.ofChange captureSelectsSpec)) captureSelectsCard

/-- THE TIED CARD OF 'wirelesslaw16.CaptureMakes'. -/
def captureMakesCard : Claim7 := { stood := { row := captureMakesRow, standIns := [], harness := (true, "6e0d1b108865162e4ad23be4437ee77f221b49644b5f6394a732a74752e08e1c"), looks := true }, kinds := [], alts := [], laidByText := true, laidKinds := [.data, .data, .data, .data], laidTests := true, laidLooks := .later }
def CaptureMakesCardSaid : Prop := Claim7.holds Tryd.pinned (.plain (OpenSpec.ofChange captureMakesSpec)) captureMakesCard

/-- THE SECOND FORM's CARD OF 'wirelesslaw16.CaptureWrites'. -/
def captureWritesUptoCard : Claim7 := { stood := { row := captureWritesUptoRow, standIns := [], harness := (true, "6e0d1b108865162e4ad23be4437ee77f221b49644b5f6394a732a74752e08e1c"), looks := true }, kinds := [], alts := [], laidByText := true, laidKinds := [.data, .data, .data, .data], laidTests := true, laidLooks := .later }
def CaptureWritesUptoCardSaid : Prop := Claim7.holds Tryd.pinned (.plain (OpenSpec.upto captureWritesSpec)) captureWritesUptoCard

/-- THE SECOND FORM's CARD OF 'wirelesslaw16.CaptureReads'. -/
def captureReadsUptoCard : Claim7 := { stood := { row := captureReadsUptoRow, standIns := [], harness := (true, "6e0d1b108865162e4ad23be4437ee77f221b49644b5f6394a732a74752e08e1c"), looks := true }, kinds := [], alts := [], laidByText := true, laidKinds := [.data, .data, .data, .data], laidTests := true, laidLooks := .later }
def CaptureReadsUptoCardSaid : Prop := Claim7.holds Tryd.pinned (.plain (OpenSpec.upto captureReadsSpec)) captureReadsUptoCard

/-- THE SECOND FORM's CARD OF 'wirelesslaw16.CaptureWhole'. -/
def captureWholeUptoCard : Claim7 := { stood := { row := captureWholeUptoRow, standIns := [], harness := (true, "6e0d1b108865162e4ad23be4437ee77f221b49644b5f6394a732a74752e08e1c"), looks := true }, kinds := [], alts := [], laidByText := true, laidKinds := [.data, .data, .data, .data], laidTests := true, laidLooks := .later }
def CaptureWholeUptoCardSaid : Prop := Claim7.holds Tryd.pinned (.plain (OpenSpec.upto captureWholeSpec)) captureWholeUptoCard

/-- THE SECOND FORM's CARD OF 'wirelesslaw16.CaptureFlips'. -/
def captureFlipsUptoCard : Claim7 := { stood := { row := captureFlipsUptoRow, standIns := [], harness := (true, "6e0d1b108865162e4ad23be4437ee77f221b49644b5f6394a732a74752e08e1c"), looks := true }, kinds := [], alts := [], laidByText := true, laidKinds := [.data, .data, .data, .data], laidTests := true, laidLooks := .later }
def CaptureFlipsUptoCardSaid : Prop := Claim7.holds Tryd.pinned (.plain (OpenSpec.upto captureFlipsSpec)) captureFlipsUptoCard

/-- THE SECOND FORM's CARD OF 'wirelesslaw16.CaptureSelects'. -/
def captureSelectsUptoCard : Claim7 := { stood := { row := captureSelectsUptoRow, standIns := [], harness := (true, "6e0d1b108865162e4ad23be4437ee77f221b49644b5f6394a732a74752e08e1c"), looks := true }, kinds := [], alts := [], laidByText := true, laidKinds := [.data, .data, .data, .data], laidTests := true, laidLooks := .later }
def CaptureSelectsUptoCardSaid : Prop := Claim7.holds Tryd.pinned (.plain (OpenSpec.upto captureSelectsSpec)) captureSelectsUptoCard

/-- THE SECOND FORM's CARD OF 'wirelesslaw16.CaptureMakes'. -/
def captureMakesUptoCard : Claim7 := { stood := { row := captureMakesUptoRow, standIns := [], harness := (true, "6e0d1b108865162e4ad23be4437ee77f221b49644b5f6394a732a74752e08e1c"), looks := true }, kinds := [], alts := [], laidByText := true, laidKinds := [.data, .data, .data, .data], laidTests := true, laidLooks := .later }
def CaptureMakesUptoCardSaid : Prop := Claim7.holds Tryd.pinned (.plain (OpenSpec.upto captureMakesSpec)) captureMakesUptoCard
end Rows
end Go.Proofs.YtccknpdnapoboaaDoor
