/- cache: the small functions. -/
import Derived.Test.YteblimdbkiiaaaaFdD
namespace Go.Proofs.Yteblimdbkiiaaaa
open Go.RowKit

set_option linter.unusedSimpArgs false in
set_option linter.unusedVariables false in
set_option maxRecDepth 100000 in
set_option maxHeartbeats 1000000 in
theorem usable_any (va du : Bool) (ha : Int) (fv : Value) (w : World) : Calls Try.prog 39 #[.agg #[.bool va, .int .u64 ha, fv, .bool du]] w fun e w' => e = .returned (.bool (va && !du)) ∧ Below w.heap.size w w' := by
  cases va <;> cases du
  all_goals
    go_enter Try.func39, Try.ntmps39
    go_wp2
    go_ret
    exact ⟨rfl, by first | exact Below.refl _ _ | exact (Below.refl _ _).alloc (Nat.le_refl _) _⟩
set_option linter.unusedSimpArgs false in
set_option linter.unusedVariables false in
set_option maxRecDepth 100000 in
set_option maxHeartbeats 1000000 in
theorem isChar_any (a0 a1 a2 a3 a4 a5 : Int) (w : World) : Calls Try.prog 43 #[.agg #[.int .u16 a0, .int .u16 a1, .int .u16 a2, .int .i64 a3, .int .u64 a4, .int .u64 a5]] w fun e w' => e = .returned (.bool ((a1 == 0) && !(a2 == 0))) ∧ Below w.heap.size w w' := by
  have hB : Below w.heap.size w (w.alloc (.cells #[.int .u16 a0, .int .u16 a1, .int .u16 a2, .int .i64 a3, .int .u64 a4, .int .u64 a5] 53)) := (Below.refl _ _).alloc (Nat.le_refl _) _
  obtain ⟨x, hx⟩ : ∃ x, (a1 == 0) = x := ⟨_, rfl⟩
  obtain ⟨y, hy⟩ : ∃ y, (a2 == 0) = y := ⟨_, rfl⟩
  have hx' : (a1 != 0) = !x := by rw [← hx]; rfl
  have hy' : (a2 != 0) = !y := by rw [← hy]; rfl
  cases x <;> cases y
  all_goals
    simp only [hx, hy, hx', hy']
    go_enter Try.func43, Try.ntmps43
    go_wp2
    go_ret
    exact ⟨rfl, hB⟩
set_option linter.unusedSimpArgs false in
set_option linter.unusedVariables false in
set_option maxRecDepth 100000 in
set_option maxHeartbeats 1000000 in
theorem isService_any (a0 a1 a2 a3 a4 a5 : Int) (w : World) : Calls Try.prog 44 #[.agg #[.int .u16 a0, .int .u16 a1, .int .u16 a2, .int .i64 a3, .int .u64 a4, .int .u64 a5]] w fun e w' => e = .returned (.bool (!(a1 == 0))) ∧ Below w.heap.size w w' := by
  have hB : Below w.heap.size w (w.alloc (.cells #[.int .u16 a0, .int .u16 a1, .int .u16 a2, .int .i64 a3, .int .u64 a4, .int .u64 a5] 53)) := (Below.refl _ _).alloc (Nat.le_refl _) _
  obtain ⟨x, hx⟩ : ∃ x, (a1 == 0) = x := ⟨_, rfl⟩
  obtain ⟨y, hy⟩ : ∃ y, (a2 == 0) = y := ⟨_, rfl⟩
  have hx' : (a1 != 0) = !x := by rw [← hx]; rfl
  have hy' : (a2 != 0) = !y := by rw [← hy]; rfl
  cases x <;> cases y
  all_goals
    simp only [hx, hy, hx', hy']
    go_enter Try.func44, Try.ntmps44
    go_wp2
    go_ret
    exact ⟨rfl, hB⟩
set_option linter.unusedSimpArgs false in
set_option linter.unusedVariables false in
set_option maxRecDepth 100000 in
set_option maxHeartbeats 1000000 in
theorem isDesc_any (a0 a1 a2 a3 a4 a5 : Int) (w : World) : Calls Try.prog 46 #[.agg #[.int .u16 a0, .int .u16 a1, .int .u16 a2, .int .i64 a3, .int .u64 a4, .int .u64 a5]] w fun e w' => e = .returned (.bool ((a1 == 0) && (a2 == 0))) ∧ Below w.heap.size w w' := by
  have hB : Below w.heap.size w (w.alloc (.cells #[.int .u16 a0, .int .u16 a1, .int .u16 a2, .int .i64 a3, .int .u64 a4, .int .u64 a5] 53)) := (Below.refl _ _).alloc (Nat.le_refl _) _
  obtain ⟨x, hx⟩ : ∃ x, (a1 == 0) = x := ⟨_, rfl⟩
  obtain ⟨y, hy⟩ : ∃ y, (a2 == 0) = y := ⟨_, rfl⟩
  have hx' : (a1 != 0) = !x := by rw [← hx]; rfl
  have hy' : (a2 != 0) = !y := by rw [← hy]; rfl
  cases x <;> cases y
  all_goals
    simp only [hx, hy, hx', hy']
    go_enter Try.func46, Try.ntmps46
    go_wp2
    go_ret
    exact ⟨rfl, hB⟩
set_option linter.unusedSimpArgs false in
set_option linter.unusedVariables false in
set_option maxRecDepth 100000 in
set_option maxHeartbeats 1000000 in
theorem aware_any (ph : Int) (hr : Bool) (w : World) : Calls Try.prog 20 #[.int .i64 ph, .bool hr] w fun e w' => e = .returned (.tuple #[.int .i64 (if (ph == 0) && !hr then 1 else 2), .bool ((ph == 0) && !hr)]) ∧ Below w.heap.size w w' := by
  obtain ⟨x, hx⟩ : ∃ x, (ph == 0) = x := ⟨_, rfl⟩
  cases x <;> cases hr
  all_goals
    simp only [hx]
    go_enter Try.func20, Try.ntmps20
    go_wp2
    refine bodyPost_ret (by simp [results, Try.results20, go_sem]; rfl) rfl ?_
    exact ⟨rfl, Below.refl _ _⟩
set_option linter.unusedSimpArgs false in
set_option linter.unusedVariables false in
set_option maxRecDepth 100000 in
set_option maxHeartbeats 1000000 in
theorem raware_any (ph : Int) (hr : Bool) (w : World) : Calls Try.prog 21 #[.int .i64 ph, .bool hr] w fun e w' => e = .returned (.tuple #[.int .i64 (if (ph == 0) && !hr then 1 else 2), .bool ((ph == 0) && !hr)]) ∧ Below w.heap.size w w' := by
  obtain ⟨x, hx⟩ : ∃ x, (ph == 0) = x := ⟨_, rfl⟩
  cases x <;> cases hr
  all_goals
    simp only [hx]
    go_enter Try.func21, Try.ntmps21
    go_wp2
    refine bodyPost_ret (by simp [results, Try.results21, go_sem]; rfl) rfl ?_
    exact ⟨rfl, Below.refl _ _⟩
set_option linter.unusedSimpArgs false in
set_option linter.unusedVariables false in
set_option maxRecDepth 100000 in
set_option maxHeartbeats 1000000 in
theorem short_c (w : World) : Calls Try.prog 45 #[.int .u16 10498] w fun e w' => e = .returned (.agg #[.int .u64 45088566677504, .int .u64 9223372588214596859]) ∧ Below w.heap.size w w' := by
  go_enter Try.func45, Try.ntmps45
  go_wp2
  refine bodyPost_ret (v := .agg #[.int .u64 45088566677504, .int .u64 9223372588214596859]) (by simp [results, Try.results45, go_sem] <;> rfl) rfl ?_
  exact ⟨rfl, (Below.refl _ _).alloc (Nat.le_refl _) _⟩
set_option linter.unusedSimpArgs false in
set_option linter.unusedVariables false in
set_option maxRecDepth 100000 in
set_option maxHeartbeats 1000000 in
theorem rshort_c (w : World) : Calls Try.prog 26 #[.int .u16 10498] w fun e w' => e = .returned (.agg #[.int .u64 45088566677504, .int .u64 9223372588214596859]) ∧ Below w.heap.size w w' := by
  go_enter Try.func26, Try.ntmps26
  go_wp2
  refine bodyPost_ret (v := .agg #[.int .u64 45088566677504, .int .u64 9223372588214596859]) (by simp [results, Try.results26, go_sem] <;> rfl) rfl ?_
  exact ⟨rfl, (Below.refl _ _).alloc (Nat.le_refl _) _⟩
set_option linter.unusedSimpArgs false in
set_option linter.unusedVariables false in
set_option maxRecDepth 100000 in
set_option maxHeartbeats 1000000 in
theorem rshort_a (w : World) : Calls Try.prog 26 #[.int .u16 6145] w fun e w' => e = .returned (.agg #[.int .u64 26392574038016, .int .u64 9223372588214596859]) ∧ Below w.heap.size w w' := by
  go_enter Try.func26, Try.ntmps26
  go_wp2
  refine bodyPost_ret (v := .agg #[.int .u64 26392574038016, .int .u64 9223372588214596859]) (by simp [results, Try.results26, go_sem] <;> rfl) rfl ?_
  exact ⟨rfl, (Below.refl _ _).alloc (Nat.le_refl _) _⟩
set_option linter.unusedSimpArgs false in
set_option linter.unusedVariables false in
set_option maxRecDepth 100000 in
set_option maxHeartbeats 1000000 in
theorem rshort_b (w : World) : Calls Try.prog 26 #[.int .u16 10757] w fun e w' => e = .returned (.agg #[.int .u64 46200963207168, .int .u64 9223372588214596859]) ∧ Below w.heap.size w w' := by
  go_enter Try.func26, Try.ntmps26
  go_wp2
  refine bodyPost_ret (v := .agg #[.int .u64 46200963207168, .int .u64 9223372588214596859]) (by simp [results, Try.results26, go_sem] <;> rfl) rfl ?_
  exact ⟨rfl, (Below.refl _ _).alloc (Nat.le_refl _) _⟩
end Go.Proofs.Yteblimdbkiiaaaa
