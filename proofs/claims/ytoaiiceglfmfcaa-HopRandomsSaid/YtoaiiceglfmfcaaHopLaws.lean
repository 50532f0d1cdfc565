/- hop: the walks of the statements. -/
import Derived.Test.YtoaiiceglfmfcaaHopC
import Derived.Test.YtoaiiceglfmfcaaFrame
namespace Go.Proofs.Ytoaiiceglfmfcaa
open Go.RowKit

theorem hopSteps_walk (v0 v1 : Value) (w : World) (a0 : Arg Try.prog w 3 v0) (a1 : Arg Try.prog w 3 v1) :
    Calls Try.prog 3 #[v0, v1] w fun e w' => e = .returned (.bool true) ∧ Below w.heap.size w w' := by
  obtain ⟨a, rfl, _, _⟩ := a0.i64 Try.underlying3
  obtain ⟨b, rfl, _, _⟩ := a1.i64 Try.underlying3
  go_enter Try.func3, Try.ntmps3
  go_wp2_with (first
    | (go_at_call 14; refine (lives_any _).mono ?_; rintro e w' ⟨rfl, hB⟩)
    | (go_at_call 15; refine (step_any _ _ _).mono ?_; rintro e w' ⟨rfl, rfl⟩)
    | (go_at_call 16; refine (rstep_any _ _ _).mono ?_; rintro e w' ⟨rfl, rfl⟩))
  go_ret
  exact ⟨rfl, by assumption⟩

theorem hopRandoms_walk (v0 v1 v2 : Value) (w : World) (a0 : Arg Try.prog w 25 v0) (a1 : Arg Try.prog w 26 v1) (a2 : Arg Try.prog w 26 v2) :
    Calls Try.prog 4 #[v0, v1, v2] w fun e w' => e = .returned (.bool true) ∧ Below w.heap.size w w' := by
  obtain ⟨a, rfl, ha⟩ := a0.u32 Try.underlying25
  obtain ⟨ev, rfl, he⟩ := a1.u16 Try.underlying26
  obtain ⟨i, rfl, hi⟩ := a2.u16 Try.underlying26
  go_enter Try.func4, Try.ntmps4
  go_wp2_with (first
    | (go_at_call 14; refine (lives_any _).mono ?_; rintro e w' ⟨rfl, hB⟩)
    | (go_at_call 17; refine (ident_any _ ha _).mono ?_; rintro e w' ⟨rfl, rfl⟩)
    | (go_at_call 18; refine (rident_any _ ha _).mono ?_; rintro e w' ⟨rfl, rfl⟩)
    | (go_at_call 19; refine (rand_any _ _ he hi _).mono ?_; rintro e w' ⟨rfl, rfl⟩)
    | (go_at_call 20; refine (rrand_any _ _ he hi _).mono ?_; rintro e w' ⟨rfl, rfl⟩))
  go_ret
  exact ⟨rfl, by assumption⟩

theorem hopMixes_walk (v0 v1 v2 : Value) (w : World) (a0 : Arg Try.prog w 31 v0) (a1 : Arg Try.prog w 26 v1) (a2 : Arg Try.prog w 25 v2) :
    Calls Try.prog 5 #[v0, v1, v2] w fun e w' => e = .returned (.bool true) ∧ Below w.heap.size w w' := by
  obtain ⟨m, rfl, hm⟩ := a0.u64 Try.underlying31
  obtain ⟨ev, rfl, he⟩ := a1.u16 Try.underlying26
  obtain ⟨a, rfl, ha⟩ := a2.u32 Try.underlying25
  go_enter Try.func5, Try.ntmps5
  go_wp2_with (first
    | (go_at_call 14; refine (lives_any _).mono ?_; rintro e w1 ⟨rfl, hB1⟩)
    | (go_at_call 21; refine (mix_any _ hm _ _ he ha _).mono ?_; rintro e w2 ⟨rfl, hB2⟩)
    | (go_at_call 22; refine (rmix_any _ hm _ _ he ha _).mono ?_; rintro e w3 ⟨rfl, hB3⟩))
  go_ret
  exact ⟨by simp, bmix _ (bmix _ (by assumption) (by assumption) (Below.size (by assumption))) (by assumption) (Nat.le_trans (Below.size (by assumption)) (Below.size (by assumption)))⟩
end Go.Proofs.Ytoaiiceglfmfcaa
