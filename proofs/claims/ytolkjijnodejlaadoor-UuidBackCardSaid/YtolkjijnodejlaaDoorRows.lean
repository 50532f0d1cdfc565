/-
  NARROWER THAN 'FOR EVERY INPUT', by the rows' own cells (each row's printed sentence says how): UuidShorts: laid · UuidTexts: laid · UuidDecodes: laid · UuidBack: laid · UuidCompares: laid · UuidOrder: laid.
  DERIVED. THE GIVEN ROWS OF THIS SEAT. 6 by the template 'for every input the law returns true; each argument reads behind the call as it read before'; 0 by the template 'total and deterministic' (their statements: YtolkjijnodejlaaDoorTotals.lean).
  GIVEN WITH THE SEED: the statements are not yours to turn. If you find one false, say at which input.
  Laid BY PROGRAM, IN A SANDBOX (cutbox-rows.mjs): the forced cells as the released guide's own fill.sh prints them over the translation 0a141419fd65fb26… (all of the seat's roots in one cut). By AI agents, Wed Nov 11 2026. No macro, syntax, notation, axiom, sorry.
-/
import Derived.Test.YtolkjijnodejlaaDoorChecked
import GoSem.PinnedTables
import GoSem.Claim
import GoSem.ClaimJoined
import GoSem.ClaimMapViews
import Derived.JoinedTies
import Derived.KernelRfl
namespace Go.Proofs.YtolkjijnodejlaaDoor
/- THE CELL 'sum', in the pinned program and in every row, IS THE sha256 OF THE DUMP (.gsa) THAT YtolkjijnodejlaaDoorProg.lean LOADS. Nothing in Lean hashes anything: it is a label: what it is worth is what the hold of that sum in a sandbox is worth. -/
noncomputable def Tryd.pinned : Pinned := { name := "ytolkjijnodejlaadoor", sum := "0a141419fd65fb26a953104b11a30714a723ac832f5068c908fa4fc1a3891f2e", checked := Tryd.checked }
namespace Rows
def none {H : Type} : Left H := { results := [], args := [] }

/- WHAT THE LISTED PACKAGE-LEVEL VARIABLES READ AS WHEN THE CALL BEGINS. Each datum BY PROGRAM (the guide's laid-datum.mjs) off the statement by which the dump's own 'gosem.cut.vars' lays the variable. In a bare row this is a premise. The card (YtolkjijnodejlaaDoorCards.lean) ties it to the program's text. -/
def laid_unicode_utf8_acceptRanges {H : Type} : DataW H := .agg [.agg [.lit (.int .u8 128), .lit (.int .u8 191)], .agg [.lit (.int .u8 160), .lit (.int .u8 191)], .agg [.lit (.int .u8 128), .lit (.int .u8 159)], .agg [.lit (.int .u8 144), .lit (.int .u8 191)], .agg [.lit (.int .u8 128), .lit (.int .u8 143)], .agg [.lit (.int .u8 0), .lit (.int .u8 0)], .agg [.lit (.int .u8 0), .lit (.int .u8 0)], .agg [.lit (.int .u8 0), .lit (.int .u8 0)], .agg [.lit (.int .u8 0), .lit (.int .u8 0)], .agg [.lit (.int .u8 0), .lit (.int .u8 0)], .agg [.lit (.int .u8 0), .lit (.int .u8 0)], .agg [.lit (.int .u8 0), .lit (.int .u8 0)], .agg [.lit (.int .u8 0), .lit (.int .u8 0)], .agg [.lit (.int .u8 0), .lit (.int .u8 0)], .agg [.lit (.int .u8 0), .lit (.int .u8 0)], .agg [.lit (.int .u8 0), .lit (.int .u8 0)]]
/-- One of Go's own tables, pinned by name: the form's constant. -/
def laid_unicode_utf8_first : DataW Unit := Go.Pinned.utf8First

/-- 'wirelesslaw41.UuidShorts': WHATEVER THE INPUT: true; the input reads as it did. -/
def uuidShortsSpec : ChangeSpec := { name := "uuidShorts", fn := fun _ => fun
  | [d1, d2] => { results := [.lit (.bool true)], args := [d1, d2] }
  | _ => none }
def uuidShortsRow : OpenClaim := { program := "ytolkjijnodejlaadoor", sum := "0a141419fd65fb26a953104b11a30714a723ac832f5068c908fa4fc1a3891f2e", func := "wireless/wirelesslaw41.UuidShorts", spec := "uuidShorts", inPlace := ["internal/bytealg.CountString", "internal/bytealg.IndexByteString", "internal/bytealg.IndexString", "internal/abi.NoEscape", "internal/bytealg.MakeNoZero"], named := ["internal/bytealg.MaxLen", "unicode/utf8.first", "unicode/utf8.acceptRanges"], apart := false, laid := [("unicode/utf8.acceptRanges", laid_unicode_utf8_acceptRanges), ("unicode/utf8.first", laid_unicode_utf8_first)] }
def UuidShortsSaid : Prop := uuidShortsRow.holds Tryd.pinned (OpenSpec.ofChange uuidShortsSpec)

/-- ITS FALSE NEIGHBOUR: 'it returns false'. Refute it at one input. -/
def uuidShortsWrong : ChangeSpec := { name := "uuidShorts", fn := fun _ => fun
  | [d1, d2] => { results := [.lit (.bool false)], args := [d1, d2] }
  | _ => none }
def UuidShortsWrongFalsely : Prop := uuidShortsRow.holds Tryd.pinned (OpenSpec.ofChange uuidShortsWrong)

/-- 'wirelesslaw41.UuidTexts': WHATEVER THE INPUT: true; the input reads as it did. -/
def uuidTextsSpec : ChangeSpec := { name := "uuidTexts", fn := fun _ => fun
  | [d1, d2] => { results := [.lit (.bool true)], args := [d1, d2] }
  | _ => none }
def uuidTextsRow : OpenClaim := { program := "ytolkjijnodejlaadoor", sum := "0a141419fd65fb26a953104b11a30714a723ac832f5068c908fa4fc1a3891f2e", func := "wireless/wirelesslaw41.UuidTexts", spec := "uuidTexts", inPlace := ["internal/bytealg.CountString", "internal/bytealg.IndexByteString", "internal/bytealg.IndexString", "internal/abi.NoEscape", "internal/bytealg.MakeNoZero"], named := ["internal/bytealg.MaxLen", "unicode/utf8.first", "unicode/utf8.acceptRanges"], apart := false, laid := [("unicode/utf8.acceptRanges", laid_unicode_utf8_acceptRanges), ("unicode/utf8.first", laid_unicode_utf8_first)] }
def UuidTextsSaid : Prop := uuidTextsRow.holds Tryd.pinned (OpenSpec.ofChange uuidTextsSpec)

/-- ITS FALSE NEIGHBOUR: 'it returns false'. Refute it at one input. -/
def uuidTextsWrong : ChangeSpec := { name := "uuidTexts", fn := fun _ => fun
  | [d1, d2] => { results := [.lit (.bool false)], args := [d1, d2] }
  | _ => none }
def UuidTextsWrongFalsely : Prop := uuidTextsRow.holds Tryd.pinned (OpenSpec.ofChange uuidTextsWrong)

/-- 'wirelesslaw41.UuidDecodes': WHATEVER THE INPUT: true; the input reads as it did. -/
def uuidDecodesSpec : ChangeSpec := { name := "uuidDecodes", fn := fun _ => fun
  | [d1, d2] => { results := [.lit (.bool true)], args := [d1, d2] }
  | _ => none }
def uuidDecodesRow : OpenClaim := { program := "ytolkjijnodejlaadoor", sum := "0a141419fd65fb26a953104b11a30714a723ac832f5068c908fa4fc1a3891f2e", func := "wireless/wirelesslaw41.UuidDecodes", spec := "uuidDecodes", inPlace := ["internal/bytealg.CountString", "internal/bytealg.IndexByteString", "internal/bytealg.IndexString", "internal/abi.NoEscape", "internal/bytealg.MakeNoZero"], named := ["internal/bytealg.MaxLen", "unicode/utf8.first", "unicode/utf8.acceptRanges"], apart := false, laid := [("unicode/utf8.acceptRanges", laid_unicode_utf8_acceptRanges), ("unicode/utf8.first", laid_unicode_utf8_first)] }
def UuidDecodesSaid : Prop := uuidDecodesRow.holds Tryd.pinned (OpenSpec.ofChange uuidDecodesSpec)

/-- ITS FALSE NEIGHBOUR: 'it returns false'. Refute it at one input. -/
def uuidDecodesWrong : ChangeSpec := { name := "uuidDecodes", fn := fun _ => fun
  | [d1, d2] => { results := [.lit (.bool false)], args := [d1, d2] }
  | _ => none }
def UuidDecodesWrongFalsely : Prop := uuidDecodesRow.holds Tryd.pinned (OpenSpec.ofChange uuidDecodesWrong)

/-- 'wirelesslaw41.UuidBack': WHATEVER THE INPUT: true; the input reads as it did. -/
def uuidBackSpec : ChangeSpec := { name := "uuidBack", fn := fun _ => fun
  | [d1, d2, d3] => { results := [.lit (.bool true)], args := [d1, d2, d3] }
  | _ => none }
def uuidBackRow : OpenClaim := { program := "ytolkjijnodejlaadoor", sum := "0a141419fd65fb26a953104b11a30714a723ac832f5068c908fa4fc1a3891f2e", func := "wireless/wirelesslaw41.UuidBack", spec := "uuidBack", inPlace := ["internal/bytealg.CountString", "internal/bytealg.IndexByteString", "internal/bytealg.IndexString", "internal/abi.NoEscape", "internal/bytealg.MakeNoZero"], named := ["internal/bytealg.MaxLen", "unicode/utf8.first", "unicode/utf8.acceptRanges"], apart := false, laid := [("unicode/utf8.acceptRanges", laid_unicode_utf8_acceptRanges), ("unicode/utf8.first", laid_unicode_utf8_first)] }
def UuidBackSaid : Prop := uuidBackRow.holds Tryd.pinned (OpenSpec.ofChange uuidBackSpec)

/-- ITS FALSE NEIGHBOUR: 'it returns false'. Refute it at one input. -/
def uuidBackWrong : ChangeSpec := { name := "uuidBack", fn := fun _ => fun
  | [d1, d2, d3] => { results := [.lit (.bool false)], args := [d1, d2, d3] }
  | _ => none }
def UuidBackWrongFalsely : Prop := uuidBackRow.holds Tryd.pinned (OpenSpec.ofChange uuidBackWrong)

/-- 'wirelesslaw41.UuidCompares': WHATEVER THE INPUT: true; the input reads as it did. -/
def uuidComparesSpec : ChangeSpec := { name := "uuidCompares", fn := fun _ => fun
  | [d1, d2] => { results := [.lit (.bool true)], args := [d1, d2] }
  | _ => none }
def uuidComparesRow : OpenClaim := { program := "ytolkjijnodejlaadoor", sum := "0a141419fd65fb26a953104b11a30714a723ac832f5068c908fa4fc1a3891f2e", func := "wireless/wirelesslaw41.UuidCompares", spec := "uuidCompares", inPlace := ["internal/bytealg.CountString", "internal/bytealg.IndexByteString", "internal/bytealg.IndexString", "internal/abi.NoEscape", "internal/bytealg.MakeNoZero"], named := ["internal/bytealg.MaxLen", "unicode/utf8.first", "unicode/utf8.acceptRanges"], apart := false, laid := [("unicode/utf8.acceptRanges", laid_unicode_utf8_acceptRanges), ("unicode/utf8.first", laid_unicode_utf8_first)] }
def UuidComparesSaid : Prop := uuidComparesRow.holds Tryd.pinned (OpenSpec.ofChange uuidComparesSpec)

/-- ITS FALSE NEIGHBOUR: 'it returns false'. Refute it at one input. -/
def uuidComparesWrong : ChangeSpec := { name := "uuidCompares", fn := fun _ => fun
  | [d1, d2] => { results := [.lit (.bool false)], args := [d1, d2] }
  | _ => none }
def UuidComparesWrongFalsely : Prop := uuidComparesRow.holds Tryd.pinned (OpenSpec.ofChange uuidComparesWrong)

/-- 'wirelesslaw41.UuidOrder': WHATEVER THE INPUT: true; the input reads as it did. -/
def uuidOrderSpec : ChangeSpec := { name := "uuidOrder", fn := fun _ => fun
  | [d1, d2, d3, d4, d5] => { results := [.lit (.bool true)], args := [d1, d2, d3, d4, d5] }
  | _ => none }
def uuidOrderRow : OpenClaim := { program := "ytolkjijnodejlaadoor", sum := "0a141419fd65fb26a953104b11a30714a723ac832f5068c908fa4fc1a3891f2e", func := "wireless/wirelesslaw41.UuidOrder", spec := "uuidOrder", inPlace := ["internal/bytealg.CountString", "internal/bytealg.IndexByteString", "internal/bytealg.IndexString", "internal/abi.NoEscape", "internal/bytealg.MakeNoZero"], named := ["internal/bytealg.MaxLen", "unicode/utf8.first", "unicode/utf8.acceptRanges"], apart := false, laid := [("unicode/utf8.acceptRanges", laid_unicode_utf8_acceptRanges), ("unicode/utf8.first", laid_unicode_utf8_first)] }
def UuidOrderSaid : Prop := uuidOrderRow.holds Tryd.pinned (OpenSpec.ofChange uuidOrderSpec)

/-- ITS FALSE NEIGHBOUR: 'it returns false'. Refute it at one input. -/
def uuidOrderWrong : ChangeSpec := { name := "uuidOrder", fn := fun _ => fun
  | [d1, d2, d3, d4, d5] => { results := [.lit (.bool false)], args := [d1, d2, d3, d4, d5] }
  | _ => none }
def UuidOrderWrongFalsely : Prop := uuidOrderRow.holds Tryd.pinned (OpenSpec.ofChange uuidOrderWrong)

/- THE SECOND FORM. 'bulk': how many values and letters a reading holds, each counted each time it is reached (what is shared counts as often as it is met; a slice's spare places count too). A statement '..UptoSaid' is the law's where the arguments, and the package variables that the reading takes, are together of bulk at most 1048576: NARROWER than '..Said'. Prove '..Said' where nothing that the law and all that it calls make is longer than what came in: it says more and counts as full. Else prove '..UptoSaid'. A law counts once. -/
mutual
def uptoBulk {H : Type} : DataW H → Nat
  | .lit (.string bytes) => bytes.length + 1
  | .lit _ => 1
  | .nil => 1
  | .ptr d => uptoBulk d + 1
  | .slice elems spare => uptoBulkAll elems + uptoBulkAll spare + 1
  | .agg parts => uptoBulkAll parts + 1
  | .iface _ d => uptoBulk d + 1
  | .map entries => uptoBulkEntries entries + 1
  | .held _ => 1
def uptoBulkAll {H : Type} : List (DataW H) → Nat
  | [] => 0
  | d :: r => uptoBulk d + uptoBulkAll r
def uptoBulkEntries {H : Type} : List (Lit × DataW H) → Nat
  | [] => 0
  | x :: r => uptoBulkEntry x + uptoBulkEntries r
def uptoBulkEntry {H : Type} : Lit × DataW H → Nat
  | (.string bytes, d) => bytes.length + uptoBulk d + 1
  | (_, d) => uptoBulk d + 1
 end
def uptoSmall : (H : Type) → List (DataW H) → Bool := fun _ ds => decide (uptoBulkAll ds ≤ 1048576)
def OpenSpec.upto (s : _root_.Go.ChangeSpec) : _root_.Go.OpenSpec := { _root_.Go.OpenSpec.ofChange s with cond := some uptoSmall }

/-- 'wirelesslaw41.UuidShorts', WHERE WHAT IT READS IS OF BULK AT MOST 1048576: true; the input reads as it did. -/
def uuidShortsUptoRow : OpenClaim := { program := "ytolkjijnodejlaadoor", sum := "0a141419fd65fb26a953104b11a30714a723ac832f5068c908fa4fc1a3891f2e", func := "wireless/wirelesslaw41.UuidShorts", spec := "uuidShorts", inPlace := ["internal/bytealg.CountString", "internal/bytealg.IndexByteString", "internal/bytealg.IndexString", "internal/abi.NoEscape", "internal/bytealg.MakeNoZero"], named := ["internal/bytealg.MaxLen", "unicode/utf8.first", "unicode/utf8.acceptRanges"], apart := false, laid := [("unicode/utf8.acceptRanges", laid_unicode_utf8_acceptRanges), ("unicode/utf8.first", laid_unicode_utf8_first)], narrowed := true }
def UuidShortsUptoSaid : Prop := uuidShortsUptoRow.holds Tryd.pinned (OpenSpec.upto uuidShortsSpec)

/-- 'wirelesslaw41.UuidTexts', WHERE WHAT IT READS IS OF BULK AT MOST 1048576: true; the input reads as it did. -/
def uuidTextsUptoRow : OpenClaim := { program := "ytolkjijnodejlaadoor", sum := "0a141419fd65fb26a953104b11a30714a723ac832f5068c908fa4fc1a3891f2e", func := "wireless/wirelesslaw41.UuidTexts", spec := "uuidTexts", inPlace := ["internal/bytealg.CountString", "internal/bytealg.IndexByteString", "internal/bytealg.IndexString", "internal/abi.NoEscape", "internal/bytealg.MakeNoZero"], named := ["internal/bytealg.MaxLen", "unicode/utf8.first", "unicode/utf8.acceptRanges"], apart := false, laid := [("unicode/utf8.acceptRanges", laid_unicode_utf8_acceptRanges), ("unicode/utf8.first", laid_unicode_utf8_first)], narrowed := true }
def UuidTextsUptoSaid : Prop := uuidTextsUptoRow.holds Tryd.pinned (OpenSpec.upto uuidTextsSpec)

/-- 'wirelesslaw41.UuidDecodes', WHERE WHAT IT READS IS OF BULK AT MOST 1048576: true; the input reads as it did. -/
def uuidDecodesUptoRow : OpenClaim := { program := "ytolkjijnodejlaadoor", sum := "0a141419fd65fb26a953104b11a30714a723ac832f5068c908fa4fc1a3891f2e", func := "wireless/wirelesslaw41.UuidDecodes", spec := "uuidDecodes", inPlace := ["internal/bytealg.CountString", "internal/bytealg.IndexByteString", "internal/bytealg.IndexString", "internal/abi.NoEscape", "internal/bytealg.MakeNoZero"], named := ["internal/bytealg.MaxLen", "unicode/utf8.first", "unicode/utf8.acceptRanges"], apart := false, laid := [("unicode/utf8.acceptRanges", laid_unicode_utf8_acceptRanges), ("unicode/utf8.first", laid_unicode_utf8_first)], narrowed := true }
def UuidDecodesUptoSaid : Prop := uuidDecodesUptoRow.holds Tryd.pinned (OpenSpec.upto uuidDecodesSpec)

/-- 'wirelesslaw41.UuidBack', WHERE WHAT IT READS IS OF BULK AT MOST 1048576: true; the input reads as it did. -/
def uuidBackUptoRow : OpenClaim := { program := "ytolkjijnodejlaadoor", sum := "0a141419fd65fb26a953104b11a30714a723ac832f5068c908fa4fc1a3891f2e", func := "wireless/wirelesslaw41.UuidBack", spec := "uuidBack", inPlace := ["internal/bytealg.CountString", "internal/bytealg.IndexByteString", "internal/bytealg.IndexString", "internal/abi.NoEscape", "internal/bytealg.MakeNoZero"], named := ["internal/bytealg.MaxLen", "unicode/utf8.first", "unicode/utf8.acceptRanges"], apart := false, laid := [("unicode/utf8.acceptRanges", laid_unicode_utf8_acceptRanges), ("unicode/utf8.first", laid_unicode_utf8_first)], narrowed := true }
def UuidBackUptoSaid : Prop := uuidBackUptoRow.holds Tryd.pinned (OpenSpec.upto uuidBackSpec)

/-- 'wirelesslaw41.UuidCompares', WHERE WHAT IT READS IS OF BULK AT MOST 1048576: true; the input reads as it did. -/
def uuidComparesUptoRow : OpenClaim := { program := "ytolkjijnodejlaadoor", sum := "0a141419fd65fb26a953104b11a30714a723ac832f5068c908fa4fc1a3891f2e", func := "wireless/wirelesslaw41.UuidCompares", spec := "uuidCompares", inPlace := ["internal/bytealg.CountString", "internal/bytealg.IndexByteString", "internal/bytealg.IndexString", "internal/abi.NoEscape", "internal/bytealg.MakeNoZero"], named := ["internal/bytealg.MaxLen", "unicode/utf8.first", "unicode/utf8.acceptRanges"], apart := false, laid := [("unicode/utf8.acceptRanges", laid_unicode_utf8_acceptRanges), ("unicode/utf8.first", laid_unicode_utf8_first)], narrowed := true }
def UuidComparesUptoSaid : Prop := uuidComparesUptoRow.holds Tryd.pinned (OpenSpec.upto uuidComparesSpec)

/-- 'wirelesslaw41.UuidOrder', WHERE WHAT IT READS IS OF BULK AT MOST 1048576: true; the input reads as it did. -/
def uuidOrderUptoRow : OpenClaim := { program := "ytolkjijnodejlaadoor", sum := "0a141419fd65fb26a953104b11a30714a723ac832f5068c908fa4fc1a3891f2e", func := "wireless/wirelesslaw41.UuidOrder", spec := "uuidOrder", inPlace := ["internal/bytealg.CountString", "internal/bytealg.IndexByteString", "internal/bytealg.IndexString", "internal/abi.NoEscape", "internal/bytealg.MakeNoZero"], named := ["internal/bytealg.MaxLen", "unicode/utf8.first", "unicode/utf8.acceptRanges"], apart := false, laid := [("unicode/utf8.acceptRanges", laid_unicode_utf8_acceptRanges), ("unicode/utf8.first", laid_unicode_utf8_first)], narrowed := true }
def UuidOrderUptoSaid : Prop := uuidOrderUptoRow.holds Tryd.pinned (OpenSpec.upto uuidOrderSpec)

end Rows
end Go.Proofs.YtolkjijnodejlaaDoor
