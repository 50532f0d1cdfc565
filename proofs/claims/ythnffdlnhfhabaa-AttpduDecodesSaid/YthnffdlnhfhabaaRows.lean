/-
  No cell of these rows narrows 'for every input' (looked for: loops, veiled, ifaces, maps, wideKeys, modest, calm, conditions, laid).
  DERIVED. THE GIVEN ROWS OF THIS SEAT. 7 by the template 'for every input the law returns true; each argument reads behind the call as it read before'; 0 by the template 'total and deterministic' (their statements: YthnffdlnhfhabaaTotals.lean).
  GIVEN WITH THE SEED: the statements are not yours to turn. If you find one false, say at which input.
  Laid BY PROGRAM, IN A SANDBOX (cutbox-rows.mjs): the forced cells as the released guide's own fill.sh prints them over the translation 690fd62eea28df69… (all of the seat's roots in one cut). By AI agents, Wed Nov 11 2026. No macro, syntax, notation, axiom, sorry.
-/
import Derived.Test.YthnffdlnhfhabaaChecked
import GoSem.Claim
import GoSem.ClaimJoined
import GoSem.ClaimMapViews
import Derived.JoinedTies
import Derived.KernelRfl
namespace Go.Proofs.Ythnffdlnhfhabaa
/- THE CELL 'sum', in the pinned program and in every row, IS THE sha256 OF THE DUMP (.gsa) THAT YthnffdlnhfhabaaProg.lean LOADS. Nothing in Lean hashes anything: it is a label: what it is worth is what the hold of that sum in a sandbox is worth. -/
noncomputable def Try.pinned : Pinned := { name := "ythnffdlnhfhabaa", sum := "690fd62eea28df69bd3882082cfa6d2568dd5ad2772e089e9aff32bafd5ae013", checked := Try.checked }
namespace Rows
def none {H : Type} : Left H := { results := [], args := [] }

/-- 'wirelesslaw42.AttpduChecks': WHATEVER THE INPUT: true; the input reads as it did. -/
def attpduChecksSpec : ChangeSpec := { name := "attpduChecks", fn := fun _ => fun
  | [d] => { results := [.lit (.bool true)], args := [d] }
  | _ => none }
def attpduChecksRow : OpenClaim := { program := "ythnffdlnhfhabaa", sum := "690fd62eea28df69bd3882082cfa6d2568dd5ad2772e089e9aff32bafd5ae013", func := "wireless/wirelesslaw42.AttpduChecks", spec := "attpduChecks", inPlace := ["internal/bytealg.IndexByteString", "internal/bytealg.IndexString"], unfollowed := true, recurses := true, named := ["internal/bytealg.MaxLen"], apart := false }
def AttpduChecksSaid : Prop := attpduChecksRow.holds Try.pinned (OpenSpec.ofChange attpduChecksSpec)

/-- ITS FALSE NEIGHBOUR: 'it returns false'. Refute it at one input. -/
def attpduChecksWrong : ChangeSpec := { name := "attpduChecks", fn := fun _ => fun
  | [d] => { results := [.lit (.bool false)], args := [d] }
  | _ => none }
def AttpduChecksWrongFalsely : Prop := attpduChecksRow.holds Try.pinned (OpenSpec.ofChange attpduChecksWrong)

/-- 'wirelesslaw42.AttpduEncodes': WHATEVER THE INPUT: true; the input reads as it did. -/
def attpduEncodesSpec : ChangeSpec := { name := "attpduEncodes", fn := fun _ => fun
  | [d] => { results := [.lit (.bool true)], args := [d] }
  | _ => none }
def attpduEncodesRow : OpenClaim := { program := "ythnffdlnhfhabaa", sum := "690fd62eea28df69bd3882082cfa6d2568dd5ad2772e089e9aff32bafd5ae013", func := "wireless/wirelesslaw42.AttpduEncodes", spec := "attpduEncodes", inPlace := ["internal/bytealg.IndexByteString", "internal/bytealg.IndexString"], unfollowed := true, recurses := true, named := ["internal/bytealg.MaxLen"], apart := false }
def AttpduEncodesSaid : Prop := attpduEncodesRow.holds Try.pinned (OpenSpec.ofChange attpduEncodesSpec)

/-- ITS FALSE NEIGHBOUR: 'it returns false'. Refute it at one input. -/
def attpduEncodesWrong : ChangeSpec := { name := "attpduEncodes", fn := fun _ => fun
  | [d] => { results := [.lit (.bool false)], args := [d] }
  | _ => none }
def AttpduEncodesWrongFalsely : Prop := attpduEncodesRow.holds Try.pinned (OpenSpec.ofChange attpduEncodesWrong)

/-- 'wirelesslaw42.AttpduDecodes': WHATEVER THE INPUT: true; the input reads as it did. -/
def attpduDecodesSpec : ChangeSpec := { name := "attpduDecodes", fn := fun _ => fun
  | [d] => { results := [.lit (.bool true)], args := [d] }
  | _ => none }
def attpduDecodesRow : OpenClaim := { program := "ythnffdlnhfhabaa", sum := "690fd62eea28df69bd3882082cfa6d2568dd5ad2772e089e9aff32bafd5ae013", func := "wireless/wirelesslaw42.AttpduDecodes", spec := "attpduDecodes", inPlace := ["internal/bytealg.IndexByteString", "internal/bytealg.IndexString"], unfollowed := true, recurses := true, named := ["internal/bytealg.MaxLen"], apart := false }
def AttpduDecodesSaid : Prop := attpduDecodesRow.holds Try.pinned (OpenSpec.ofChange attpduDecodesSpec)

/-- ITS FALSE NEIGHBOUR: 'it returns false'. Refute it at one input. -/
def attpduDecodesWrong : ChangeSpec := { name := "attpduDecodes", fn := fun _ => fun
  | [d] => { results := [.lit (.bool false)], args := [d] }
  | _ => none }
def AttpduDecodesWrongFalsely : Prop := attpduDecodesRow.holds Try.pinned (OpenSpec.ofChange attpduDecodesWrong)

/-- 'wirelesslaw42.AttpduBack': WHATEVER THE INPUT: true; the input reads as it did. -/
def attpduBackSpec : ChangeSpec := { name := "attpduBack", fn := fun _ => fun
  | [d] => { results := [.lit (.bool true)], args := [d] }
  | _ => none }
def attpduBackRow : OpenClaim := { program := "ythnffdlnhfhabaa", sum := "690fd62eea28df69bd3882082cfa6d2568dd5ad2772e089e9aff32bafd5ae013", func := "wireless/wirelesslaw42.AttpduBack", spec := "attpduBack", inPlace := ["internal/bytealg.IndexByteString", "internal/bytealg.IndexString"], unfollowed := true, recurses := true, named := ["internal/bytealg.MaxLen"], apart := false }
def AttpduBackSaid : Prop := attpduBackRow.holds Try.pinned (OpenSpec.ofChange attpduBackSpec)

/-- ITS FALSE NEIGHBOUR: 'it returns false'. Refute it at one input. -/
def attpduBackWrong : ChangeSpec := { name := "attpduBack", fn := fun _ => fun
  | [d] => { results := [.lit (.bool false)], args := [d] }
  | _ => none }
def AttpduBackWrongFalsely : Prop := attpduBackRow.holds Try.pinned (OpenSpec.ofChange attpduBackWrong)

/-- 'wirelesslaw42.AttpduUnique': WHATEVER THE INPUT: true; the input reads as it did. -/
def attpduUniqueSpec : ChangeSpec := { name := "attpduUnique", fn := fun _ => fun
  | [d] => { results := [.lit (.bool true)], args := [d] }
  | _ => none }
def attpduUniqueRow : OpenClaim := { program := "ythnffdlnhfhabaa", sum := "690fd62eea28df69bd3882082cfa6d2568dd5ad2772e089e9aff32bafd5ae013", func := "wireless/wirelesslaw42.AttpduUnique", spec := "attpduUnique", inPlace := ["internal/bytealg.IndexByteString", "internal/bytealg.IndexString"], unfollowed := true, recurses := true, named := ["internal/bytealg.MaxLen"], apart := false }
def AttpduUniqueSaid : Prop := attpduUniqueRow.holds Try.pinned (OpenSpec.ofChange attpduUniqueSpec)

/-- ITS FALSE NEIGHBOUR: 'it returns false'. Refute it at one input. -/
def attpduUniqueWrong : ChangeSpec := { name := "attpduUnique", fn := fun _ => fun
  | [d] => { results := [.lit (.bool false)], args := [d] }
  | _ => none }
def AttpduUniqueWrongFalsely : Prop := attpduUniqueRow.holds Try.pinned (OpenSpec.ofChange attpduUniqueWrong)

/-- 'wirelesslaw42.AttpduFits': WHATEVER THE INPUT: true; the input reads as it did. -/
def attpduFitsSpec : ChangeSpec := { name := "attpduFits", fn := fun _ => fun
  | [d1, d2] => { results := [.lit (.bool true)], args := [d1, d2] }
  | _ => none }
def attpduFitsRow : OpenClaim := { program := "ythnffdlnhfhabaa", sum := "690fd62eea28df69bd3882082cfa6d2568dd5ad2772e089e9aff32bafd5ae013", func := "wireless/wirelesslaw42.AttpduFits", spec := "attpduFits", inPlace := ["internal/bytealg.IndexByteString", "internal/bytealg.IndexString"], unfollowed := true, recurses := true, named := ["internal/bytealg.MaxLen"], apart := false }
def AttpduFitsSaid : Prop := attpduFitsRow.holds Try.pinned (OpenSpec.ofChange attpduFitsSpec)

/-- ITS FALSE NEIGHBOUR: 'it returns false'. Refute it at one input. -/
def attpduFitsWrong : ChangeSpec := { name := "attpduFits", fn := fun _ => fun
  | [d1, d2] => { results := [.lit (.bool false)], args := [d1, d2] }
  | _ => none }
def AttpduFitsWrongFalsely : Prop := attpduFitsRow.holds Try.pinned (OpenSpec.ofChange attpduFitsWrong)

/-- 'wirelesslaw42.AttpduKinds': WHATEVER THE INPUT: true; the input reads as it did. -/
def attpduKindsSpec : ChangeSpec := { name := "attpduKinds", fn := fun _ => fun
  | [d1, d2] => { results := [.lit (.bool true)], args := [d1, d2] }
  | _ => none }
def attpduKindsRow : OpenClaim := { program := "ythnffdlnhfhabaa", sum := "690fd62eea28df69bd3882082cfa6d2568dd5ad2772e089e9aff32bafd5ae013", func := "wireless/wirelesslaw42.AttpduKinds", spec := "attpduKinds", inPlace := ["internal/bytealg.IndexByteString", "internal/bytealg.IndexString"], unfollowed := true, recurses := true, named := ["internal/bytealg.MaxLen"], apart := false }
def AttpduKindsSaid : Prop := attpduKindsRow.holds Try.pinned (OpenSpec.ofChange attpduKindsSpec)

/-- ITS FALSE NEIGHBOUR: 'it returns false'. Refute it at one input. -/
def attpduKindsWrong : ChangeSpec := { name := "attpduKinds", fn := fun _ => fun
  | [d1, d2] => { results := [.lit (.bool false)], args := [d1, d2] }
  | _ => none }
def AttpduKindsWrongFalsely : Prop := attpduKindsRow.holds Try.pinned (OpenSpec.ofChange attpduKindsWrong)

/- THE SECOND FORM. 'bulk': how many values and letters a reading holds, each counted each time it is reached (what is shared counts as often as it is met; a slice's spare places count too). A statement '..UptoSaid' is the law's where the arguments, and the package variables that the reading takes, are together of bulk at most 1048576: NARROWER than '..Said'. Prove '..Said' where nothing that the law and all that it calls make is longer than what came in: it says more and counts as full. Else prove '..UptoSaid'. A law counts once. -/
mutual
def uptoBulk {H : Type} : DataW H → Nat
  | .lit (.string bytes) => bytes.length + 1
  | .lit _ => 1
  | .nil => 1
  | .ptr d => uptoBulk d + 1
  | .slice elems spare => uptoBulkAll elems + uptoBulkAll spare + 1
  | .agg parts => uptoBulkAll parts + 1
  | .iface _ d => uptoBulk d + 1
  | .map entries => uptoBulkEntries entries + 1
  | .held _ => 1
def uptoBulkAll {H : Type} : List (DataW H) → Nat
  | [] => 0
  | d :: r => uptoBulk d + uptoBulkAll r
def uptoBulkEntries {H : Type} : List (Lit × DataW H) → Nat
  | [] => 0
  | x :: r => uptoBulkEntry x + uptoBulkEntries r
def uptoBulkEntry {H : Type} : Lit × DataW H → Nat
  | (.string bytes, d) => bytes.length + uptoBulk d + 1
  | (_, d) => uptoBulk d + 1
 end
def uptoSmall : (H : Type) → List (DataW H) → Bool := fun _ ds => decide (uptoBulkAll ds ≤ 1048576)
def OpenSpec.upto (s : _root_.Go.ChangeSpec) : _root_.Go.OpenSpec := { _root_.Go.OpenSpec.ofChange s with cond := some uptoSmall }

/-- 'wirelesslaw42.AttpduChecks', WHERE WHAT IT READS IS OF BULK AT MOST 1048576: true; the input reads as it did. -/
def attpduChecksUptoRow : OpenClaim := { program := "ythnffdlnhfhabaa", sum := "690fd62eea28df69bd3882082cfa6d2568dd5ad2772e089e9aff32bafd5ae013", func := "wireless/wirelesslaw42.AttpduChecks", spec := "attpduChecks", inPlace := ["internal/bytealg.IndexByteString", "internal/bytealg.IndexString"], unfollowed := true, recurses := true, named := ["internal/bytealg.MaxLen"], apart := false, narrowed := true }
def AttpduChecksUptoSaid : Prop := attpduChecksUptoRow.holds Try.pinned (OpenSpec.upto attpduChecksSpec)

/-- 'wirelesslaw42.AttpduEncodes', WHERE WHAT IT READS IS OF BULK AT MOST 1048576: true; the input reads as it did. -/
def attpduEncodesUptoRow : OpenClaim := { program := "ythnffdlnhfhabaa", sum := "690fd62eea28df69bd3882082cfa6d2568dd5ad2772e089e9aff32bafd5ae013", func := "wireless/wirelesslaw42.AttpduEncodes", spec := "attpduEncodes", inPlace := ["internal/bytealg.IndexByteString", "internal/bytealg.IndexString"], unfollowed := true, recurses := true, named := ["internal/bytealg.MaxLen"], apart := false, narrowed := true }
def AttpduEncodesUptoSaid : Prop := attpduEncodesUptoRow.holds Try.pinned (OpenSpec.upto attpduEncodesSpec)

/-- 'wirelesslaw42.AttpduDecodes', WHERE WHAT IT READS IS OF BULK AT MOST 1048576: true; the input reads as it did. -/
def attpduDecodesUptoRow : OpenClaim := { program := "ythnffdlnhfhabaa", sum := "690fd62eea28df69bd3882082cfa6d2568dd5ad2772e089e9aff32bafd5ae013", func := "wireless/wirelesslaw42.AttpduDecodes", spec := "attpduDecodes", inPlace := ["internal/bytealg.IndexByteString", "internal/bytealg.IndexString"], unfollowed := true, recurses := true, named := ["internal/bytealg.MaxLen"], apart := false, narrowed := true }
def AttpduDecodesUptoSaid : Prop := attpduDecodesUptoRow.holds Try.pinned (OpenSpec.upto attpduDecodesSpec)

/-- 'wirelesslaw42.AttpduBack', WHERE WHAT IT READS IS OF BULK AT MOST 1048576: true; the input reads as it did. -/
def attpduBackUptoRow : OpenClaim := { program := "ythnffdlnhfhabaa", sum := "690fd62eea28df69bd3882082cfa6d2568dd5ad2772e089e9aff32bafd5ae013", func := "wireless/wirelesslaw42.AttpduBack", spec := "attpduBack", inPlace := ["internal/bytealg.IndexByteString", "internal/bytealg.IndexString"], unfollowed := true, recurses := true, named := ["internal/bytealg.MaxLen"], apart := false, narrowed := true }
def AttpduBackUptoSaid : Prop := attpduBackUptoRow.holds Try.pinned (OpenSpec.upto attpduBackSpec)

/-- 'wirelesslaw42.AttpduUnique', WHERE WHAT IT READS IS OF BULK AT MOST 1048576: true; the input reads as it did. -/
def attpduUniqueUptoRow : OpenClaim := { program := "ythnffdlnhfhabaa", sum := "690fd62eea28df69bd3882082cfa6d2568dd5ad2772e089e9aff32bafd5ae013", func := "wireless/wirelesslaw42.AttpduUnique", spec := "attpduUnique", inPlace := ["internal/bytealg.IndexByteString", "internal/bytealg.IndexString"], unfollowed := true, recurses := true, named := ["internal/bytealg.MaxLen"], apart := false, narrowed := true }
def AttpduUniqueUptoSaid : Prop := attpduUniqueUptoRow.holds Try.pinned (OpenSpec.upto attpduUniqueSpec)

/-- 'wirelesslaw42.AttpduFits', WHERE WHAT IT READS IS OF BULK AT MOST 1048576: true; the input reads as it did. -/
def attpduFitsUptoRow : OpenClaim := { program := "ythnffdlnhfhabaa", sum := "690fd62eea28df69bd3882082cfa6d2568dd5ad2772e089e9aff32bafd5ae013", func := "wireless/wirelesslaw42.AttpduFits", spec := "attpduFits", inPlace := ["internal/bytealg.IndexByteString", "internal/bytealg.IndexString"], unfollowed := true, recurses := true, named := ["internal/bytealg.MaxLen"], apart := false, narrowed := true }
def AttpduFitsUptoSaid : Prop := attpduFitsUptoRow.holds Try.pinned (OpenSpec.upto attpduFitsSpec)

/-- 'wirelesslaw42.AttpduKinds', WHERE WHAT IT READS IS OF BULK AT MOST 1048576: true; the input reads as it did. -/
def attpduKindsUptoRow : OpenClaim := { program := "ythnffdlnhfhabaa", sum := "690fd62eea28df69bd3882082cfa6d2568dd5ad2772e089e9aff32bafd5ae013", func := "wireless/wirelesslaw42.AttpduKinds", spec := "attpduKinds", inPlace := ["internal/bytealg.IndexByteString", "internal/bytealg.IndexString"], unfollowed := true, recurses := true, named := ["internal/bytealg.MaxLen"], apart := false, narrowed := true }
def AttpduKindsUptoSaid : Prop := attpduKindsUptoRow.holds Try.pinned (OpenSpec.upto attpduKindsSpec)

end Rows
end Go.Proofs.Ythnffdlnhfhabaa
