/- cache: the example's elements. -/
import Derived.Test.YteblimdbkiiaaaaFdG
namespace Go.Proofs.Yteblimdbkiiaaaa
open Go.RowKit

def smp : List Fd := [⟨4, 0, 0, 0, 45088566677504, 9223372588214596859⟩, ⟨1, 4, 0, 0, 26392574038016, 9223372588214596859⟩, ⟨2, 0, 3, 0, 46200963207168, 9223372588214596859⟩]
set_option linter.unusedSimpArgs false in
set_option linter.unusedVariables false in
set_option maxRecDepth 100000 in
set_option maxHeartbeats 2000000 in
theorem sample_any (w : World) : Calls Try.prog 27 #[] w fun e w' => ∃ ao cap, e = .returned (.slice ao 3 cap) ∧ SR w' (.slice ao 3 cap) 3 6 (fcells smp) ∧ Below w.heap.size w w' := by
  go_enter Try.func27, Try.ntmps27
  go_wp2_with fail
  go_at_call 26
  refine (rshort_c _).mono ?_
  rintro e w1 ⟨rfl, hB1⟩
  go_wp2_with fail
  go_at_call 26
  refine (rshort_a _).mono ?_
  rintro e w2 ⟨rfl, hB2⟩
  go_wp2_with fail
  go_at_call 26
  refine (rshort_b _).mono ?_
  rintro e w3 ⟨rfl, hB3⟩
  have hB := (hB1.trans (hB2.mono hB1.size)).trans (hB3.mono (Nat.le_trans hB1.size hB2.size))
  have hsr : SR (w3.alloc (.cells #[.int .u16 4, .int .u16 0, .int .u16 0, .int .i64 0, .int .u64 45088566677504, .int .u64 9223372588214596859, .int .u16 1, .int .u16 4, .int .u16 0, .int .i64 0, .int .u64 26392574038016, .int .u64 9223372588214596859, .int .u16 2, .int .u16 0, .int .u16 3, .int .i64 0, .int .u64 46200963207168, .int .u64 9223372588214596859] 53)) (.slice (some ⟨w3.heap.size, 0, none⟩) 3 3) 3 6 (fcells smp) := by
    refine ⟨by unfold maxLen; omega, rfl, fcells_one _, some ⟨w3.heap.size, 0, none⟩, 3, rfl, fun h => (by cases h), fun _ => ⟨w3.heap.size, 0, rfl, by simp, fun j u hj => ?_⟩⟩
    rw [Nat.zero_add]
    exact cellNew w3 _ _ j u (by simpa [fcells, smp, fenc] using hj)
  have hBx := hB.alloc hB.size (.cells #[.int .u16 4, .int .u16 0, .int .u16 0, .int .i64 0, .int .u64 45088566677504, .int .u64 9223372588214596859, .int .u16 1, .int .u16 4, .int .u16 0, .int .i64 0, .int .u64 26392574038016, .int .u64 9223372588214596859, .int .u16 2, .int .u16 0, .int .u16 3, .int .i64 0, .int .u64 46200963207168, .int .u64 9223372588214596859] 53)
  have HSR := Lib.hid hsr
  have HBX := Lib.hid hBx
  clear hsr hBx hB hB1 hB2 hB3
  go_wp2
  go_ret
  exact ⟨_, _, rfl, HSR.out, HBX.out⟩
end Go.Proofs.Yteblimdbkiiaaaa
