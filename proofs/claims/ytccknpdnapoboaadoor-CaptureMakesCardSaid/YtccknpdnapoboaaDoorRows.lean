/-
  NARROWER THAN 'FOR EVERY INPUT', by the rows' own cells (each row's printed sentence says how): CaptureWrites: laid · CaptureReads: laid · CaptureWhole: laid · CaptureFlips: laid · CaptureSelects: laid · CaptureMakes: laid.
  DERIVED. THE GIVEN ROWS OF THIS SEAT. 6 by the template 'for every input the law returns true; each argument reads behind the call as it read before'; 0 by the template 'total and deterministic' (their statements: YtccknpdnapoboaaDoorTotals.lean).
  GIVEN WITH THE SEED: the statements are not yours to turn. If you find one false, say at which input.
  Laid BY PROGRAM, IN A SANDBOX (cutbox-rows.mjs): the forced cells as the released guide's own fill.sh prints them over the translation 58e4c15263058c91… (all of the seat's roots in one cut). By AI agents, Wed Nov 11 2026. No macro, syntax, notation, axiom, sorry.
-/
import Derived.Test.YtccknpdnapoboaaDoorChecked
import GoSem.Claim
import GoSem.ClaimJoined
import GoSem.ClaimMapViews
import Derived.JoinedTies
import Derived.KernelRfl
namespace Go.Proofs.YtccknpdnapoboaaDoor
/- THE CELL 'sum', in the pinned program and in every row, IS THE sha256 OF THE DUMP (.gsa) THAT YtccknpdnapoboaaDoorProg.lean LOADS. Nothing in Lean hashes anything: it is a label: what it is worth is what the hold of that sum in a sandbox is worth. -/
noncomputable def Tryd.pinned : Pinned := { name := "ytccknpdnapoboaadoor", sum := "58e4c15263058c91a4b65428574b5ab80ec2993ba3ce4cdb11f3a733833e0a32", checked := Tryd.checked }
namespace Rows
def none {H : Type} : Left H := { results := [], args := [] }

/- WHAT THE LISTED PACKAGE-LEVEL VARIABLES READ AS WHEN THE CALL BEGINS. Each datum BY PROGRAM (the guide's laid-datum.mjs) off the statement by which the dump's own 'gosem.cut.vars' lays the variable. In a bare row this is a premise. The card (YtccknpdnapoboaaDoorCards.lean) ties it to the program's text. -/
def laid_math_bits_deBruijn32tab {H : Type} : DataW H := .agg [.lit (.int .u8 0), .lit (.int .u8 1), .lit (.int .u8 28), .lit (.int .u8 2), .lit (.int .u8 29), .lit (.int .u8 14), .lit (.int .u8 24), .lit (.int .u8 3), .lit (.int .u8 30), .lit (.int .u8 22), .lit (.int .u8 20), .lit (.int .u8 15), .lit (.int .u8 25), .lit (.int .u8 17), .lit (.int .u8 4), .lit (.int .u8 8), .lit (.int .u8 31), .lit (.int .u8 27), .lit (.int .u8 13), .lit (.int .u8 23), .lit (.int .u8 21), .lit (.int .u8 19), .lit (.int .u8 16), .lit (.int .u8 7), .lit (.int .u8 26), .lit (.int .u8 12), .lit (.int .u8 18), .lit (.int .u8 6), .lit (.int .u8 11), .lit (.int .u8 5), .lit (.int .u8 10), .lit (.int .u8 9)]
def laid_math_bits_deBruijn64tab {H : Type} : DataW H := .agg [.lit (.int .u8 0), .lit (.int .u8 1), .lit (.int .u8 56), .lit (.int .u8 2), .lit (.int .u8 57), .lit (.int .u8 49), .lit (.int .u8 28), .lit (.int .u8 3), .lit (.int .u8 61), .lit (.int .u8 58), .lit (.int .u8 42), .lit (.int .u8 50), .lit (.int .u8 38), .lit (.int .u8 29), .lit (.int .u8 17), .lit (.int .u8 4), .lit (.int .u8 62), .lit (.int .u8 47), .lit (.int .u8 59), .lit (.int .u8 36), .lit (.int .u8 45), .lit (.int .u8 43), .lit (.int .u8 51), .lit (.int .u8 22), .lit (.int .u8 53), .lit (.int .u8 39), .lit (.int .u8 33), .lit (.int .u8 30), .lit (.int .u8 24), .lit (.int .u8 18), .lit (.int .u8 12), .lit (.int .u8 5), .lit (.int .u8 63), .lit (.int .u8 55), .lit (.int .u8 48), .lit (.int .u8 27), .lit (.int .u8 60), .lit (.int .u8 41), .lit (.int .u8 37), .lit (.int .u8 16), .lit (.int .u8 46), .lit (.int .u8 35), .lit (.int .u8 44), .lit (.int .u8 21), .lit (.int .u8 52), .lit (.int .u8 32), .lit (.int .u8 23), .lit (.int .u8 11), .lit (.int .u8 54), .lit (.int .u8 26), .lit (.int .u8 40), .lit (.int .u8 15), .lit (.int .u8 34), .lit (.int .u8 20), .lit (.int .u8 31), .lit (.int .u8 10), .lit (.int .u8 25), .lit (.int .u8 14), .lit (.int .u8 19), .lit (.int .u8 9), .lit (.int .u8 13), .lit (.int .u8 8), .lit (.int .u8 7), .lit (.int .u8 6)]
def laid_internal_strconv_uint64pow10 {H : Type} : DataW H := .agg [.lit (.int .u64 1), .lit (.int .u64 10), .lit (.int .u64 100), .lit (.int .u64 1000), .lit (.int .u64 10000), .lit (.int .u64 100000), .lit (.int .u64 1000000), .lit (.int .u64 10000000), .lit (.int .u64 100000000), .lit (.int .u64 1000000000), .lit (.int .u64 10000000000), .lit (.int .u64 100000000000), .lit (.int .u64 1000000000000), .lit (.int .u64 10000000000000), .lit (.int .u64 100000000000000), .lit (.int .u64 1000000000000000), .lit (.int .u64 10000000000000000), .lit (.int .u64 100000000000000000), .lit (.int .u64 1000000000000000000), .lit (.int .u64 10000000000000000000)]
def laid_wireless_crc_sums {H : Type} : DataW H := .agg [.lit (.int .u32 0), .lit (.int .u32 1788928), .lit (.int .u32 3577856), .lit (.int .u32 3003392), .lit (.int .u32 7155712), .lit (.int .u32 7764992), .lit (.int .u32 6006784), .lit (.int .u32 4252672), .lit (.int .u32 14311424), .lit (.int .u32 12659712), .lit (.int .u32 15529984), .lit (.int .u32 16233472), .lit (.int .u32 12013568), .lit (.int .u32 11279360), .lit (.int .u32 8505344), .lit (.int .u32 10126336)]

/-- 'wirelesslaw16.CaptureWrites': WHATEVER THE INPUT: true; the input reads as it did. -/
def captureWritesSpec : ChangeSpec := { name := "captureWrites", fn := fun _ => fun
  | [d] => { results := [.lit (.bool true)], args := [d] }
  | _ => none }
def captureWritesRow : OpenClaim := { program := "ytccknpdnapoboaadoor", sum := "58e4c15263058c91a4b65428574b5ab80ec2993ba3ce4cdb11f3a733833e0a32", func := "wireless/wirelesslaw16.CaptureWrites", spec := "captureWrites", inPlace := ["internal/abi.NoEscape", "internal/bytealg.MakeNoZero"], unfollowed := true, recurses := true, named := ["wireless/crc.sums", "internal/strconv.uint64pow10", "math/bits.deBruijn32tab", "math/bits.deBruijn64tab"], apart := false, laid := [("math/bits.deBruijn32tab", laid_math_bits_deBruijn32tab), ("math/bits.deBruijn64tab", laid_math_bits_deBruijn64tab), ("internal/strconv.uint64pow10", laid_internal_strconv_uint64pow10), ("wireless/crc.sums", laid_wireless_crc_sums)] }
def CaptureWritesSaid : Prop := captureWritesRow.holds Tryd.pinned (OpenSpec.ofChange captureWritesSpec)

/-- ITS FALSE NEIGHBOUR: 'it returns false'. Refute it at one input. -/
def captureWritesWrong : ChangeSpec := { name := "captureWrites", fn := fun _ => fun
  | [d] => { results := [.lit (.bool false)], args := [d] }
  | _ => none }
def CaptureWritesWrongFalsely : Prop := captureWritesRow.holds Tryd.pinned (OpenSpec.ofChange captureWritesWrong)

/-- 'wirelesslaw16.CaptureReads': WHATEVER THE INPUT: true; the input reads as it did. -/
def captureReadsSpec : ChangeSpec := { name := "captureReads", fn := fun _ => fun
  | [d] => { results := [.lit (.bool true)], args := [d] }
  | _ => none }
def captureReadsRow : OpenClaim := { program := "ytccknpdnapoboaadoor", sum := "58e4c15263058c91a4b65428574b5ab80ec2993ba3ce4cdb11f3a733833e0a32", func := "wireless/wirelesslaw16.CaptureReads", spec := "captureReads", inPlace := ["internal/abi.NoEscape", "internal/bytealg.MakeNoZero"], unfollowed := true, recurses := true, named := ["wireless/crc.sums", "internal/strconv.uint64pow10", "math/bits.deBruijn32tab", "math/bits.deBruijn64tab"], apart := false, laid := [("math/bits.deBruijn32tab", laid_math_bits_deBruijn32tab), ("math/bits.deBruijn64tab", laid_math_bits_deBruijn64tab), ("internal/strconv.uint64pow10", laid_internal_strconv_uint64pow10), ("wireless/crc.sums", laid_wireless_crc_sums)] }
def CaptureReadsSaid : Prop := captureReadsRow.holds Tryd.pinned (OpenSpec.ofChange captureReadsSpec)

/-- ITS FALSE NEIGHBOUR: 'it returns false'. Refute it at one input. -/
def captureReadsWrong : ChangeSpec := { name := "captureReads", fn := fun _ => fun
  | [d] => { results := [.lit (.bool false)], args := [d] }
  | _ => none }
def CaptureReadsWrongFalsely : Prop := captureReadsRow.holds Tryd.pinned (OpenSpec.ofChange captureReadsWrong)

/-- 'wirelesslaw16.CaptureWhole': WHATEVER THE INPUT: true; the input reads as it did. -/
def captureWholeSpec : ChangeSpec := { name := "captureWhole", fn := fun _ => fun
  | [d1, d2] => { results := [.lit (.bool true)], args := [d1, d2] }
  | _ => none }
def captureWholeRow : OpenClaim := { program := "ytccknpdnapoboaadoor", sum := "58e4c15263058c91a4b65428574b5ab80ec2993ba3ce4cdb11f3a733833e0a32", func := "wireless/wirelesslaw16.CaptureWhole", spec := "captureWhole", inPlace := ["internal/abi.NoEscape", "internal/bytealg.MakeNoZero"], unfollowed := true, recurses := true, named := ["wireless/crc.sums", "internal/strconv.uint64pow10", "math/bits.deBruijn32tab", "math/bits.deBruijn64tab"], apart := false, laid := [("math/bits.deBruijn32tab", laid_math_bits_deBruijn32tab), ("math/bits.deBruijn64tab", laid_math_bits_deBruijn64tab), ("internal/strconv.uint64pow10", laid_internal_strconv_uint64pow10), ("wireless/crc.sums", laid_wireless_crc_sums)] }
def CaptureWholeSaid : Prop := captureWholeRow.holds Tryd.pinned (OpenSpec.ofChange captureWholeSpec)

/-- ITS FALSE NEIGHBOUR: 'it returns false'. Refute it at one input. -/
def captureWholeWrong : ChangeSpec := { name := "captureWhole", fn := fun _ => fun
  | [d1, d2] => { results := [.lit (.bool false)], args := [d1, d2] }
  | _ => none }
def CaptureWholeWrongFalsely : Prop := captureWholeRow.holds Tryd.pinned (OpenSpec.ofChange captureWholeWrong)

/-- 'wirelesslaw16.CaptureFlips': WHATEVER THE INPUT: true; the input reads as it did. -/
def captureFlipsSpec : ChangeSpec := { name := "captureFlips", fn := fun _ => fun
  | [d1, d2, d3, d4] => { results := [.lit (.bool true)], args := [d1, d2, d3, d4] }
  | _ => none }
def captureFlipsRow : OpenClaim := { program := "ytccknpdnapoboaadoor", sum := "58e4c15263058c91a4b65428574b5ab80ec2993ba3ce4cdb11f3a733833e0a32", func := "wireless/wirelesslaw16.CaptureFlips", spec := "captureFlips", inPlace := ["internal/abi.NoEscape", "internal/bytealg.MakeNoZero"], unfollowed := true, recurses := true, named := ["wireless/crc.sums", "internal/strconv.uint64pow10", "math/bits.deBruijn32tab", "math/bits.deBruijn64tab"], apart := false, laid := [("math/bits.deBruijn32tab", laid_math_bits_deBruijn32tab), ("math/bits.deBruijn64tab", laid_math_bits_deBruijn64tab), ("internal/strconv.uint64pow10", laid_internal_strconv_uint64pow10), ("wireless/crc.sums", laid_wireless_crc_sums)] }
def CaptureFlipsSaid : Prop := captureFlipsRow.holds Tryd.pinned (OpenSpec.ofChange captureFlipsSpec)

/-- ITS FALSE NEIGHBOUR: 'it returns false'. Refute it at one input. -/
def captureFlipsWrong : ChangeSpec := { name := "captureFlips", fn := fun _ => fun
  | [d1, d2, d3, d4] => { results := [.lit (.bool false)], args := [d1, d2, d3, d4] }
  | _ => none }
def CaptureFlipsWrongFalsely : Prop := captureFlipsRow.holds Tryd.pinned (OpenSpec.ofChange captureFlipsWrong)

/-- 'wirelesslaw16.CaptureSelects': WHATEVER THE INPUT: true; the input reads as it did. -/
def captureSelectsSpec : ChangeSpec := { name := "captureSelects", fn := fun _ => fun
  | [d1, d2, d3] => { results := [.lit (.bool true)], args := [d1, d2, d3] }
  | _ => none }
def captureSelectsRow : OpenClaim := { program := "ytccknpdnapoboaadoor", sum := "58e4c15263058c91a4b65428574b5ab80ec2993ba3ce4cdb11f3a733833e0a32", func := "wireless/wirelesslaw16.CaptureSelects", spec := "captureSelects", inPlace := ["internal/abi.NoEscape", "internal/bytealg.MakeNoZero"], unfollowed := true, recurses := true, named := ["wireless/crc.sums", "internal/strconv.uint64pow10", "math/bits.deBruijn32tab", "math/bits.deBruijn64tab"], apart := false, laid := [("math/bits.deBruijn32tab", laid_math_bits_deBruijn32tab), ("math/bits.deBruijn64tab", laid_math_bits_deBruijn64tab), ("internal/strconv.uint64pow10", laid_internal_strconv_uint64pow10), ("wireless/crc.sums", laid_wireless_crc_sums)] }
def CaptureSelectsSaid : Prop := captureSelectsRow.holds Tryd.pinned (OpenSpec.ofChange captureSelectsSpec)

/-- ITS FALSE NEIGHBOUR: 'it returns false'. Refute it at one input. -/
def captureSelectsWrong : ChangeSpec := { name := "captureSelects", fn := fun _ => fun
  | [d1, d2, d3] => { results := [.lit (.bool false)], args := [d1, d2, d3] }
  | _ => none }
def CaptureSelectsWrongFalsely : Prop := captureSelectsRow.holds Tryd.pinned (OpenSpec.ofChange captureSelectsWrong)

/-- 'wirelesslaw16.CaptureMakes': WHATEVER THE INPUT: true; the input reads as it did. -/
def captureMakesSpec : ChangeSpec := { name := "captureMakes", fn := fun _ => fun
  | [d1, d2, d3] => { results := [.lit (.bool true)], args := [d1, d2, d3] }
  | _ => none }
def captureMakesRow : OpenClaim := { program := "ytccknpdnapoboaadoor", sum := "58e4c15263058c91a4b65428574b5ab80ec2993ba3ce4cdb11f3a733833e0a32", func := "wireless/wirelesslaw16.CaptureMakes", spec := "captureMakes", inPlace := ["internal/abi.NoEscape", "internal/bytealg.MakeNoZero"], unfollowed := true, recurses := true, named := ["wireless/crc.sums", "internal/strconv.uint64pow10", "math/bits.deBruijn32tab", "math/bits.deBruijn64tab"], apart := false, laid := [("math/bits.deBruijn32tab", laid_math_bits_deBruijn32tab), ("math/bits.deBruijn64tab", laid_math_bits_deBruijn64tab), ("internal/strconv.uint64pow10", laid_internal_strconv_uint64pow10), ("wireless/crc.sums", laid_wireless_crc_sums)] }
def CaptureMakesSaid : Prop := captureMakesRow.holds Tryd.pinned (OpenSpec.ofChange captureMakesSpec)

/-- ITS FALSE NEIGHBOUR: 'it returns false'. Refute it at one input. -/
def captureMakesWrong : ChangeSpec := { name := "captureMakes", fn := fun _ => fun
  | [d1, d2, d3] => { results := [.lit (.bool false)], args := [d1, d2, d3] }
  | _ => none }
def CaptureMakesWrongFalsely : Prop := captureMakesRow.holds Tryd.pinned (OpenSpec.ofChange captureMakesWrong)

/- THE SECOND FORM. 'bulk': how many values and letters a reading holds, each counted each time it is reached (what is shared counts as often as it is met; a slice's spare places count too). A statement '..UptoSaid' is the law's where the arguments, and the package variables that the reading takes, are together of bulk at most 1048576: NARROWER than '..Said'. Prove '..Said' where nothing that the law and all that it calls make is longer than what came in: it says more and counts as full. Else prove '..UptoSaid'. A law counts once. -/
mutual
def uptoBulk {H : Type} : DataW H → Nat
  | .lit (.string bytes) => bytes.length + 1
  | .lit _ => 1
  | .nil => 1
  | .ptr d => uptoBulk d + 1
  | .slice elems spare => uptoBulkAll elems + uptoBulkAll spare + 1
  | .agg parts => uptoBulkAll parts + 1
  | .iface _ d => uptoBulk d + 1
  | .map entries => uptoBulkEntries entries + 1
  | .held _ => 1
def uptoBulkAll {H : Type} : List (DataW H) → Nat
  | [] => 0
  | d :: r => uptoBulk d + uptoBulkAll r
def uptoBulkEntries {H : Type} : List (Lit × DataW H) → Nat
  | [] => 0
  | x :: r => uptoBulkEntry x + uptoBulkEntries r
def uptoBulkEntry {H : Type} : Lit × DataW H → Nat
  | (.string bytes, d) => bytes.length + uptoBulk d + 1
  | (_, d) => uptoBulk d + 1
 end
def uptoSmall : (H : Type) → List (DataW H) → Bool := fun _ ds => decide (uptoBulkAll ds ≤ 1048576)
def OpenSpec.upto (s : _root_.Go.ChangeSpec) : _root_.Go.OpenSpec := { _root_.Go.OpenSpec.ofChange s with cond := some uptoSmall }

/-- 'wirelesslaw16.CaptureWrites', WHERE WHAT IT READS IS OF BULK AT MOST 1048576: true; the input reads as it did. -/
def captureWritesUptoRow : OpenClaim := { program := "ytccknpdnapoboaadoor", sum := "58e4c15263058c91a4b65428574b5ab80ec2993ba3ce4cdb11f3a733833e0a32", func := "wireless/wirelesslaw16.CaptureWrites", spec := "captureWrites", inPlace := ["internal/abi.NoEscape", "internal/bytealg.MakeNoZero"], unfollowed := true, recurses := true, named := ["wireless/crc.sums", "internal/strconv.uint64pow10", "math/bits.deBruijn32tab", "math/bits.deBruijn64tab"], apart := false, laid := [("math/bits.deBruijn32tab", laid_math_bits_deBruijn32tab), ("math/bits.deBruijn64tab", laid_math_bits_deBruijn64tab), ("internal/strconv.uint64pow10", laid_internal_strconv_uint64pow10), ("wireless/crc.sums", laid_wireless_crc_sums)], narrowed := true }
def CaptureWritesUptoSaid : Prop := captureWritesUptoRow.holds Tryd.pinned (OpenSpec.upto captureWritesSpec)

/-- 'wirelesslaw16.CaptureReads', WHERE WHAT IT READS IS OF BULK AT MOST 1048576: true; the input reads as it did. -/
def captureReadsUptoRow : OpenClaim := { program := "ytccknpdnapoboaadoor", sum := "58e4c15263058c91a4b65428574b5ab80ec2993ba3ce4cdb11f3a733833e0a32", func := "wireless/wirelesslaw16.CaptureReads", spec := "captureReads", inPlace := ["internal/abi.NoEscape", "internal/bytealg.MakeNoZero"], unfollowed := true, recurses := true, named := ["wireless/crc.sums", "internal/strconv.uint64pow10", "math/bits.deBruijn32tab", "math/bits.deBruijn64tab"], apart := false, laid := [("math/bits.deBruijn32tab", laid_math_bits_deBruijn32tab), ("math/bits.deBruijn64tab", laid_math_bits_deBruijn64tab), ("internal/strconv.uint64pow10", laid_internal_strconv_uint64pow10), ("wireless/crc.sums", laid_wireless_crc_sums)], narrowed := true }
def CaptureReadsUptoSaid : Prop := captureReadsUptoRow.holds Tryd.pinned (OpenSpec.upto captureReadsSpec)

/-- 'wirelesslaw16.CaptureWhole', WHERE WHAT IT READS IS OF BULK AT MOST 1048576: true; the input reads as it did. -/
def captureWholeUptoRow : OpenClaim := { program := "ytccknpdnapoboaadoor", sum := "58e4c15263058c91a4b65428574b5ab80ec2993ba3ce4cdb11f3a733833e0a32", func := "wireless/wirelesslaw16.CaptureWhole", spec := "captureWhole", inPlace := ["internal/abi.NoEscape", "internal/bytealg.MakeNoZero"], unfollowed := true, recurses := true, named := ["wireless/crc.sums", "internal/strconv.uint64pow10", "math/bits.deBruijn32tab", "math/bits.deBruijn64tab"], apart := false, laid := [("math/bits.deBruijn32tab", laid_math_bits_deBruijn32tab), ("math/bits.deBruijn64tab", laid_math_bits_deBruijn64tab), ("internal/strconv.uint64pow10", laid_internal_strconv_uint64pow10), ("wireless/crc.sums", laid_wireless_crc_sums)], narrowed := true }
def CaptureWholeUptoSaid : Prop := captureWholeUptoRow.holds Tryd.pinned (OpenSpec.upto captureWholeSpec)

/-- 'wirelesslaw16.CaptureFlips', WHERE WHAT IT READS IS OF BULK AT MOST 1048576: true; the input reads as it did. -/
def captureFlipsUptoRow : OpenClaim := { program := "ytccknpdnapoboaadoor", sum := "58e4c15263058c91a4b65428574b5ab80ec2993ba3ce4cdb11f3a733833e0a32", func := "wireless/wirelesslaw16.CaptureFlips", spec := "captureFlips", inPlace := ["internal/abi.NoEscape", "internal/bytealg.MakeNoZero"], unfollowed := true, recurses := true, named := ["wireless/crc.sums", "internal/strconv.uint64pow10", "math/bits.deBruijn32tab", "math/bits.deBruijn64tab"], apart := false, laid := [("math/bits.deBruijn32tab", laid_math_bits_deBruijn32tab), ("math/bits.deBruijn64tab", laid_math_bits_deBruijn64tab), ("internal/strconv.uint64pow10", laid_internal_strconv_uint64pow10), ("wireless/crc.sums", laid_wireless_crc_sums)], narrowed := true }
def CaptureFlipsUptoSaid : Prop := captureFlipsUptoRow.holds Tryd.pinned (OpenSpec.upto captureFlipsSpec)

/-- 'wirelesslaw16.CaptureSelects', WHERE WHAT IT READS IS OF BULK AT MOST 1048576: true; the input reads as it did. -/
def captureSelectsUptoRow : OpenClaim := { program := "ytccknpdnapoboaadoor", sum := "58e4c15263058c91a4b65428574b5ab80ec2993ba3ce4cdb11f3a733833e0a32", func := "wireless/wirelesslaw16.CaptureSelects", spec := "captureSelects", inPlace := ["internal/abi.NoEscape", "internal/bytealg.MakeNoZero"], unfollowed := true, recurses := true, named := ["wireless/crc.sums", "internal/strconv.uint64pow10", "math/bits.deBruijn32tab", "math/bits.deBruijn64tab"], apart := false, laid := [("math/bits.deBruijn32tab", laid_math_bits_deBruijn32tab), ("math/bits.deBruijn64tab", laid_math_bits_deBruijn64tab), ("internal/strconv.uint64pow10", laid_internal_strconv_uint64pow10), ("wireless/crc.sums", laid_wireless_crc_sums)], narrowed := true }
def CaptureSelectsUptoSaid : Prop := captureSelectsUptoRow.holds Tryd.pinned (OpenSpec.upto captureSelectsSpec)

/-- 'wirelesslaw16.CaptureMakes', WHERE WHAT IT READS IS OF BULK AT MOST 1048576: true; the input reads as it did. -/
def captureMakesUptoRow : OpenClaim := { program := "ytccknpdnapoboaadoor", sum := "58e4c15263058c91a4b65428574b5ab80ec2993ba3ce4cdb11f3a733833e0a32", func := "wireless/wirelesslaw16.CaptureMakes", spec := "captureMakes", inPlace := ["internal/abi.NoEscape", "internal/bytealg.MakeNoZero"], unfollowed := true, recurses := true, named := ["wireless/crc.sums", "internal/strconv.uint64pow10", "math/bits.deBruijn32tab", "math/bits.deBruijn64tab"], apart := false, laid := [("math/bits.deBruijn32tab", laid_math_bits_deBruijn32tab), ("math/bits.deBruijn64tab", laid_math_bits_deBruijn64tab), ("internal/strconv.uint64pow10", laid_internal_strconv_uint64pow10), ("wireless/crc.sums", laid_wireless_crc_sums)], narrowed := true }
def CaptureMakesUptoSaid : Prop := captureMakesUptoRow.holds Tryd.pinned (OpenSpec.upto captureMakesSpec)

end Rows
end Go.Proofs.YtccknpdnapoboaaDoor
