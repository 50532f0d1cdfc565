/-
  No cell of these rows narrows 'for every input' (looked for: loops, veiled, ifaces, maps, wideKeys, modest, calm, conditions, laid).
  DERIVED. THE GIVEN ROWS OF THIS SEAT. 5 by the template 'for every input the law returns true; each argument reads behind the call as it read before'; 0 by the template 'total and deterministic' (their statements: YteblimdbkiiaaaaTotals.lean).
  GIVEN WITH THE SEED: the statements are not yours to turn. If you find one false, say at which input.
  Laid BY PROGRAM, IN A SANDBOX (cutbox-rows.mjs): the forced cells as the released guide's own fill.sh prints them over the translation 6be47b416d7cd3e2… (all of the seat's roots in one cut). By AI agents, Wed Nov 11 2026. No macro, syntax, notation, axiom, sorry.
-/
import Derived.Test.YteblimdbkiiaaaaChecked
import GoSem.Claim
import GoSem.ClaimJoined
import GoSem.ClaimMapViews
import Derived.JoinedTies
import Derived.KernelRfl
namespace Go.Proofs.Yteblimdbkiiaaaa
/- THE CELL 'sum', in the pinned program and in every row, IS THE sha256 OF THE DUMP (.gsa) THAT YteblimdbkiiaaaaProg.lean LOADS. Nothing in Lean hashes anything: it is a label: what it is worth is what the hold of that sum in a sandbox is worth. -/
noncomputable def Try.pinned : Pinned := { name := "yteblimdbkiiaaaa", sum := "6be47b416d7cd3e22605bb97d3382f5680fb7e0e20c4358fa1a338b780555688", checked := Try.checked }
namespace Rows
def none {H : Type} : Left H := { results := [], args := [] }

/-- 'wirelesslaw44.CacheLearns': WHATEVER THE INPUT: true; the input reads as it did. -/
def cacheLearnsSpec : ChangeSpec := { name := "cacheLearns", fn := fun _ => fun
  | [d1, d2, d3] => { results := [.lit (.bool true)], args := [d1, d2, d3] }
  | _ => none }
def cacheLearnsRow : OpenClaim := { program := "yteblimdbkiiaaaa", sum := "6be47b416d7cd3e22605bb97d3382f5680fb7e0e20c4358fa1a338b780555688", func := "wireless/wirelesslaw44.CacheLearns", spec := "cacheLearns", unfollowed := true, recurses := true, apart := false }
def CacheLearnsSaid : Prop := cacheLearnsRow.holds Try.pinned (OpenSpec.ofChange cacheLearnsSpec)

/-- ITS FALSE NEIGHBOUR: 'it returns false'. Refute it at one input. -/
def cacheLearnsWrong : ChangeSpec := { name := "cacheLearns", fn := fun _ => fun
  | [d1, d2, d3] => { results := [.lit (.bool false)], args := [d1, d2, d3] }
  | _ => none }
def CacheLearnsWrongFalsely : Prop := cacheLearnsRow.holds Try.pinned (OpenSpec.ofChange cacheLearnsWrong)

/-- 'wirelesslaw44.CacheUses': WHATEVER THE INPUT: true; the input reads as it did. -/
def cacheUsesSpec : ChangeSpec := { name := "cacheUses", fn := fun _ => fun
  | [d1, d2, d3, d4] => { results := [.lit (.bool true)], args := [d1, d2, d3, d4] }
  | _ => none }
def cacheUsesRow : OpenClaim := { program := "yteblimdbkiiaaaa", sum := "6be47b416d7cd3e22605bb97d3382f5680fb7e0e20c4358fa1a338b780555688", func := "wireless/wirelesslaw44.CacheUses", spec := "cacheUses", unfollowed := true, recurses := true, apart := false }
def CacheUsesSaid : Prop := cacheUsesRow.holds Try.pinned (OpenSpec.ofChange cacheUsesSpec)

/-- ITS FALSE NEIGHBOUR: 'it returns false'. Refute it at one input. -/
def cacheUsesWrong : ChangeSpec := { name := "cacheUses", fn := fun _ => fun
  | [d1, d2, d3, d4] => { results := [.lit (.bool false)], args := [d1, d2, d3, d4] }
  | _ => none }
def CacheUsesWrongFalsely : Prop := cacheUsesRow.holds Try.pinned (OpenSpec.ofChange cacheUsesWrong)

/-- 'wirelesslaw44.CacheAware': WHATEVER THE INPUT: true; the input reads as it did. -/
def cacheAwareSpec : ChangeSpec := { name := "cacheAware", fn := fun _ => fun
  | [d1, d2, d3] => { results := [.lit (.bool true)], args := [d1, d2, d3] }
  | _ => none }
def cacheAwareRow : OpenClaim := { program := "yteblimdbkiiaaaa", sum := "6be47b416d7cd3e22605bb97d3382f5680fb7e0e20c4358fa1a338b780555688", func := "wireless/wirelesslaw44.CacheAware", spec := "cacheAware", unfollowed := true, recurses := true, apart := false }
def CacheAwareSaid : Prop := cacheAwareRow.holds Try.pinned (OpenSpec.ofChange cacheAwareSpec)

/-- ITS FALSE NEIGHBOUR: 'it returns false'. Refute it at one input. -/
def cacheAwareWrong : ChangeSpec := { name := "cacheAware", fn := fun _ => fun
  | [d1, d2, d3] => { results := [.lit (.bool false)], args := [d1, d2, d3] }
  | _ => none }
def CacheAwareWrongFalsely : Prop := cacheAwareRow.holds Try.pinned (OpenSpec.ofChange cacheAwareWrong)

/-- 'wirelesslaw44.CacheNever': WHATEVER THE INPUT: true; the input reads as it did. -/
def cacheNeverSpec : ChangeSpec := { name := "cacheNever", fn := fun _ => fun
  | [d1, d2, d3, d4] => { results := [.lit (.bool true)], args := [d1, d2, d3, d4] }
  | _ => none }
def cacheNeverRow : OpenClaim := { program := "yteblimdbkiiaaaa", sum := "6be47b416d7cd3e22605bb97d3382f5680fb7e0e20c4358fa1a338b780555688", func := "wireless/wirelesslaw44.CacheNever", spec := "cacheNever", unfollowed := true, recurses := true, apart := false }
def CacheNeverSaid : Prop := cacheNeverRow.holds Try.pinned (OpenSpec.ofChange cacheNeverSpec)

/-- ITS FALSE NEIGHBOUR: 'it returns false'. Refute it at one input. -/
def cacheNeverWrong : ChangeSpec := { name := "cacheNever", fn := fun _ => fun
  | [d1, d2, d3, d4] => { results := [.lit (.bool false)], args := [d1, d2, d3, d4] }
  | _ => none }
def CacheNeverWrongFalsely : Prop := cacheNeverRow.holds Try.pinned (OpenSpec.ofChange cacheNeverWrong)

/-- 'wirelesslaw44.CacheTrue': WHATEVER THE INPUT: true; the input reads as it did. -/
def cacheTrueSpec : ChangeSpec := { name := "cacheTrue", fn := fun _ => fun
  | [d1, d2, d3, d4] => { results := [.lit (.bool true)], args := [d1, d2, d3, d4] }
  | _ => none }
def cacheTrueRow : OpenClaim := { program := "yteblimdbkiiaaaa", sum := "6be47b416d7cd3e22605bb97d3382f5680fb7e0e20c4358fa1a338b780555688", func := "wireless/wirelesslaw44.CacheTrue", spec := "cacheTrue", unfollowed := true, recurses := true, apart := false }
def CacheTrueSaid : Prop := cacheTrueRow.holds Try.pinned (OpenSpec.ofChange cacheTrueSpec)

/-- ITS FALSE NEIGHBOUR: 'it returns false'. Refute it at one input. -/
def cacheTrueWrong : ChangeSpec := { name := "cacheTrue", fn := fun _ => fun
  | [d1, d2, d3, d4] => { results := [.lit (.bool false)], args := [d1, d2, d3, d4] }
  | _ => none }
def CacheTrueWrongFalsely : Prop := cacheTrueRow.holds Try.pinned (OpenSpec.ofChange cacheTrueWrong)

/- THE SECOND FORM. 'bulk': how many values and letters a reading holds, each counted each time it is reached (what is shared counts as often as it is met; a slice's spare places count too). A statement '..UptoSaid' is the law's where the arguments, and the package variables that the reading takes, are together of bulk at most 1048576: NARROWER than '..Said'. Prove '..Said' where nothing that the law and all that it calls make is longer than what came in: it says more and counts as full. Else prove '..UptoSaid'. A law counts once. -/
mutual
def uptoBulk {H : Type} : DataW H → Nat
  | .lit (.string bytes) => bytes.length + 1
  | .lit _ => 1
  | .nil => 1
  | .ptr d => uptoBulk d + 1
  | .slice elems spare => uptoBulkAll elems + uptoBulkAll spare + 1
  | .agg parts => uptoBulkAll parts + 1
  | .iface _ d => uptoBulk d + 1
  | .map entries => uptoBulkEntries entries + 1
  | .held _ => 1
def uptoBulkAll {H : Type} : List (DataW H) → Nat
  | [] => 0
  | d :: r => uptoBulk d + uptoBulkAll r
def uptoBulkEntries {H : Type} : List (Lit × DataW H) → Nat
  | [] => 0
  | x :: r => uptoBulkEntry x + uptoBulkEntries r
def uptoBulkEntry {H : Type} : Lit × DataW H → Nat
  | (.string bytes, d) => bytes.length + uptoBulk d + 1
  | (_, d) => uptoBulk d + 1
 end
def uptoSmall : (H : Type) → List (DataW H) → Bool := fun _ ds => decide (uptoBulkAll ds ≤ 1048576)
def OpenSpec.upto (s : _root_.Go.ChangeSpec) : _root_.Go.OpenSpec := { _root_.Go.OpenSpec.ofChange s with cond := some uptoSmall }

/-- 'wirelesslaw44.CacheLearns', WHERE WHAT IT READS IS OF BULK AT MOST 1048576: true; the input reads as it did. -/
def cacheLearnsUptoRow : OpenClaim := { program := "yteblimdbkiiaaaa", sum := "6be47b416d7cd3e22605bb97d3382f5680fb7e0e20c4358fa1a338b780555688", func := "wireless/wirelesslaw44.CacheLearns", spec := "cacheLearns", unfollowed := true, recurses := true, apart := false, narrowed := true }
def CacheLearnsUptoSaid : Prop := cacheLearnsUptoRow.holds Try.pinned (OpenSpec.upto cacheLearnsSpec)

/-- 'wirelesslaw44.CacheUses', WHERE WHAT IT READS IS OF BULK AT MOST 1048576: true; the input reads as it did. -/
def cacheUsesUptoRow : OpenClaim := { program := "yteblimdbkiiaaaa", sum := "6be47b416d7cd3e22605bb97d3382f5680fb7e0e20c4358fa1a338b780555688", func := "wireless/wirelesslaw44.CacheUses", spec := "cacheUses", unfollowed := true, recurses := true, apart := false, narrowed := true }
def CacheUsesUptoSaid : Prop := cacheUsesUptoRow.holds Try.pinned (OpenSpec.upto cacheUsesSpec)

/-- 'wirelesslaw44.CacheAware', WHERE WHAT IT READS IS OF BULK AT MOST 1048576: true; the input reads as it did. -/
def cacheAwareUptoRow : OpenClaim := { program := "yteblimdbkiiaaaa", sum := "6be47b416d7cd3e22605bb97d3382f5680fb7e0e20c4358fa1a338b780555688", func := "wireless/wirelesslaw44.CacheAware", spec := "cacheAware", unfollowed := true, recurses := true, apart := false, narrowed := true }
def CacheAwareUptoSaid : Prop := cacheAwareUptoRow.holds Try.pinned (OpenSpec.upto cacheAwareSpec)

/-- 'wirelesslaw44.CacheNever', WHERE WHAT IT READS IS OF BULK AT MOST 1048576: true; the input reads as it did. -/
def cacheNeverUptoRow : OpenClaim := { program := "yteblimdbkiiaaaa", sum := "6be47b416d7cd3e22605bb97d3382f5680fb7e0e20c4358fa1a338b780555688", func := "wireless/wirelesslaw44.CacheNever", spec := "cacheNever", unfollowed := true, recurses := true, apart := false, narrowed := true }
def CacheNeverUptoSaid : Prop := cacheNeverUptoRow.holds Try.pinned (OpenSpec.upto cacheNeverSpec)

/-- 'wirelesslaw44.CacheTrue', WHERE WHAT IT READS IS OF BULK AT MOST 1048576: true; the input reads as it did. -/
def cacheTrueUptoRow : OpenClaim := { program := "yteblimdbkiiaaaa", sum := "6be47b416d7cd3e22605bb97d3382f5680fb7e0e20c4358fa1a338b780555688", func := "wireless/wirelesslaw44.CacheTrue", spec := "cacheTrue", unfollowed := true, recurses := true, apart := false, narrowed := true }
def CacheTrueUptoSaid : Prop := cacheTrueUptoRow.holds Try.pinned (OpenSpec.upto cacheTrueSpec)

end Rows
end Go.Proofs.Yteblimdbkiiaaaa
