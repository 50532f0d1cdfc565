/- hop: the examples that every statement of the layer asks for first (lives). -/
import Derived.Test.YtoaiiceglfmfcaaHopB
namespace Go.Proofs.Ytoaiiceglfmfcaa
open Go.RowKit

theorem ev_ident : identN 2391391958 = 12383 := by decide +kernel
theorem ev_rand0 : randN 0 12383 = 56857 := by decide +kernel
theorem ev_rand1 : randN 1 12383 = 1685 := by decide +kernel
theorem ev_mixA : mixI 137438953471 0 2391391958 = 25 := by decide +kernel
theorem ev_mixB : mixI 33 0 2391391958 = 5 := by decide +kernel
theorem ev_chan : chanI 1 33 0 7 9 0 = 5 := by decide +kernel
theorem ev_unm : unmI 1 0 7 9 0 = 7 := by decide +kernel

theorem c_ident (w : World) : Calls Try.prog 17 #[.int .u32 2391391958] w fun e w' => e = .returned (.int .u16 12383) ∧ w = w' := by
  have h := ident_any 2391391958 (by decide) w
  rw [ev_ident] at h
  exact h
theorem c_rand0 (w : World) : Calls Try.prog 19 #[.int .u16 0, .int .u16 12383] w fun e w' => e = .returned (.int .u16 56857) ∧ w = w' := by
  have h := rand_any 0 12383 (by decide) (by decide) w
  rw [ev_rand0] at h
  exact h
theorem c_rand1 (w : World) : Calls Try.prog 19 #[.int .u16 1, .int .u16 12383] w fun e w' => e = .returned (.int .u16 1685) ∧ w = w' := by
  have h := rand_any 1 12383 (by decide) (by decide) w
  rw [ev_rand1] at h
  exact h
theorem c_mixA (w : World) : Calls Try.prog 21 #[.int .u64 137438953471, .int .u16 0, .int .u32 2391391958] w fun e w' => e = .returned (.int .i64 25) ∧ Below w.heap.size w w' := by
  have h := mix_any 137438953471 (by decide) 0 2391391958 (by decide) (by decide) w
  rw [ev_mixA] at h
  exact h
theorem c_mixB (w : World) : Calls Try.prog 21 #[.int .u64 33, .int .u16 0, .int .u32 2391391958] w fun e w' => e = .returned (.int .i64 5) ∧ Below w.heap.size w w' := by
  have h := mix_any 33 (by decide) 0 2391391958 (by decide) (by decide) w
  rw [ev_mixB] at h
  exact h
theorem c_next (w : World) : Calls Try.prog 23 #[.agg #[.int .u32 0, .int .u32 0, .int .i64 0, .int .i64 0, .int .i64 0, .int .i64 0, .int .i64 0, .int .u64 33, .int .i64 7, .int .i64 0, .int .i64 1], .int .u16 9, .int .i64 0] w
    fun e w' => e = .returned (.tuple #[.int .i64 5, .int .i64 7]) ∧ Below w.heap.size w w' := by
  have h := next_any 0 0 0 0 0 0 0 33 7 0 1 9 0 (by decide) (by decide) (by decide) w
  rw [ev_chan, ev_unm] at h
  exact h

theorem lives_any (w : World) : Calls Try.prog 14 #[] w fun e w' => e = .returned (.bool true) ∧ Below w.heap.size w w' := by
  go_enter Try.func14, Try.ntmps14
  go_wp2_with fail
  refine (c_next _).mono ?_
  rintro e w1 ⟨rfl, hB1⟩
  go_wp2_with fail
  refine (step_any _ _ _).mono ?_
  rintro e w' ⟨rfl, rfl⟩
  rw [show stepI 35 7 = 5 by decide]
  go_wp2_with fail
  refine (step_any _ _ _).mono ?_
  rintro e w' ⟨rfl, rfl⟩
  rw [show stepI (-1) 0 = 36 by decide]
  go_wp2_with fail
  refine (c_ident _).mono ?_
  rintro e w' ⟨rfl, rfl⟩
  go_wp2_with fail
  refine (c_rand0 _).mono ?_
  rintro e w' ⟨rfl, rfl⟩
  go_wp2_with fail
  refine (c_rand1 _).mono ?_
  rintro e w' ⟨rfl, rfl⟩
  go_wp2_with fail
  refine (c_mixA _).mono ?_
  rintro e w2 ⟨rfl, hB2⟩
  go_wp2_with fail
  refine (c_mixB _).mono ?_
  rintro e w3 ⟨rfl, hB3⟩
  go_wp2
  go_ret
  exact ⟨rfl, (hB1.trans (hB2.mono hB1.size)).trans (hB3.mono (Nat.le_trans hB1.size hB2.size))⟩
end Go.Proofs.Ytoaiiceglfmfcaa
