/- Walks of air: durations and ends. -/
import Derived.Test.YthemdbgcamkecaaSlArg2
import Derived.Deep.QuietTactic
import Derived.BigQuiet
import Derived.WalkSmall
import Derived.Deep.RegionHeld3
namespace Go.Proofs.Ythemdbgcamkecaa
open Go.RowKit

/-- a duration -/
def timeI (n : Int) : Int := 8 * ((if n < 0 then 0 else n) + 10)
theorem time_cases (n : Int) : (n < 0 ∧ timeI n = 80) ∨ (n = 0 ∧ timeI n = 80) ∨ (0 < n ∧ timeI n = 8 * (n + 10)) := by
  unfold timeI
  by_cases h : n < 0
  · simp [h]
  · by_cases h0 : n = 0
    · simp [h0]
    · simp [h, h0]; omega
theorem time_any (n : Int) (hn : n ≤ 1125899906842624) (w : World) : Calls Try.prog 11 #[.int .i64 n] w fun e w' => e = .returned (.int .i64 (timeI n)) ∧ w = w' := by
  rcases time_cases n with ⟨h, e⟩ | ⟨rfl, e⟩ | ⟨h, e⟩
  all_goals
    rw [e]
    clear e
    go_enter Try.func11, Try.ntmps11
    go_wp2
    go_ret
    exact ⟨rfl, rfl⟩
theorem rtime_any (n : Int) (hn : n ≤ 1125899906842624) (w : World) : Calls Try.prog 12 #[.int .i64 n] w fun e w' => e = .returned (.int .i64 (timeI n)) ∧ w = w' := by
  rcases time_cases n with ⟨h, e⟩ | ⟨rfl, e⟩ | ⟨h, e⟩
  all_goals
    rw [e]
    clear e
    go_enter Try.func12, Try.ntmps12
    go_wp2
    go_ret
    exact ⟨rfl, rfl⟩

/-- an end -/
def endI (st : Int) (n : Nat) : Int := st + 8 * (n + 10)
theorem timeI_nat (n : Nat) : timeI n = 8 * (n + 10) := by unfold timeI; rw [if_neg (by omega)]
theorem end_any (id fr ch st : Int) (ao : Option Addr) (n c : Nat) (h1 : -1125899906842624 ≤ st ∧ st ≤ 1125899906842624) (h2 : n ≤ 140737488355328) (w : World) :
    Calls Try.prog 13 #[.agg #[.int .i64 id, .int .i64 fr, .int .i64 ch, .int .i64 st, .slice ao n c]] w fun e w' => e = .returned (.int .i64 (endI st n)) ∧ Below w.heap.size w w' := by
  have ct : ∀ w, Calls Try.prog 11 #[.int .i64 n] w fun e w' => e = .returned (.int .i64 (8 * (n + 10))) ∧ w' = w := fun w => (time_any n (by omega) w).mono fun _ _ h => ⟨by rw [← timeI_nat]; exact h.1, h.2.symm⟩
  have CT := Lib.hid ct
  clear ct
  unfold endI
  go_enter Try.func13, Try.ntmps13
  go_wp2
  go_quiet ((go_at_call 11; exact Calls.quiet_of_same (CT.out _)))
  go_wp2
  go_ret
  exact ⟨rfl, below_drewN ((Below.refl _ _).alloc (Nat.le_refl _) _) _⟩
theorem rend_any (id fr ch st : Int) (ao : Option Addr) (n c : Nat) (h1 : -1125899906842624 ≤ st ∧ st ≤ 1125899906842624) (h2 : n ≤ 140737488355328) (w : World) :
    Calls Try.prog 14 #[.agg #[.int .i64 id, .int .i64 fr, .int .i64 ch, .int .i64 st, .slice ao n c]] w fun e w' => e = .returned (.int .i64 (endI st n)) ∧ Below w.heap.size w w' := by
  have ct : ∀ w, Calls Try.prog 12 #[.int .i64 n] w fun e w' => e = .returned (.int .i64 (8 * (n + 10))) ∧ w' = w := fun w => (rtime_any n (by omega) w).mono fun _ _ h => ⟨by rw [← timeI_nat]; exact h.1, h.2.symm⟩
  have CT := Lib.hid ct
  clear ct
  unfold endI
  go_enter Try.func14, Try.ntmps14
  go_wp2
  go_quiet ((go_at_call 12; exact Calls.quiet_of_same (CT.out _)))
  go_wp2
  go_ret
  exact ⟨rfl, below_drewN ((Below.refl _ _).alloc (Nat.le_refl _) _) _⟩
end Go.Proofs.Ythemdbgcamkecaa
