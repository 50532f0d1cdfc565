/- attpdu: the fields of a kind: of the code and of the reference. -/
import Derived.Test.YthnffdlnhfhabaaUuL
import Derived.Test.YthnffdlnhfhabaaUuI
namespace Go.Proofs.Ythnffdlnhfhabaa
open Go.RowKit

/-- the letters of the fields of a kind -/
def fldC (k : Int) : Option (List Nat) :=
  if k = 1 then some [65, 72, 67] else if k = 2 ∨ k = 3 then some [77] else if k = 4 then some [72, 76] else if k = 8 ∨ k = 16 then some [72, 76, 84] else
  if k = 10 then some [72] else if k = 12 then some [72, 79] else if k = 11 ∨ k = 13 then some [86] else if k = 18 ∨ k = 82 ∨ k = 27 ∨ k = 29 then some [72, 86] else
  if k = 22 ∨ k = 23 then some [72, 79, 86] else if k = 24 then some [88] else if k = 19 ∨ k = 25 ∨ k = 30 then some [] else if k = 5 ∨ k = 9 ∨ k = 17 then some [73] else none
theorem att_kinds (k : Int) : k = 1 ∨ k = 2 ∨ k = 3 ∨ k = 4 ∨ k = 5 ∨ k = 8 ∨ k = 9 ∨ k = 10 ∨ k = 11 ∨ k = 12 ∨ k = 13 ∨ k = 16 ∨ k = 17 ∨ k = 18 ∨ k = 19 ∨ k = 22 ∨ k = 23 ∨ k = 24 ∨ k = 25 ∨ k = 27 ∨ k = 29 ∨ k = 30 ∨ k = 82 ∨
    (k ≠ 1 ∧ k ≠ 2 ∧ k ≠ 3 ∧ k ≠ 4 ∧ k ≠ 5 ∧ k ≠ 8 ∧ k ≠ 9 ∧ k ≠ 10 ∧ k ≠ 11 ∧ k ≠ 12 ∧ k ≠ 13 ∧ k ≠ 16 ∧ k ≠ 17 ∧ k ≠ 18 ∧ k ≠ 19 ∧ k ≠ 22 ∧ k ≠ 23 ∧ k ≠ 24 ∧ k ≠ 25 ∧ k ≠ 27 ∧ k ≠ 29 ∧ k ≠ 30 ∧ k ≠ 82) := by omega
theorem fldC_none (k : Int) (h : k ≠ 1 ∧ k ≠ 2 ∧ k ≠ 3 ∧ k ≠ 4 ∧ k ≠ 5 ∧ k ≠ 8 ∧ k ≠ 9 ∧ k ≠ 10 ∧ k ≠ 11 ∧ k ≠ 12 ∧ k ≠ 13 ∧ k ≠ 16 ∧ k ≠ 17 ∧ k ≠ 18 ∧ k ≠ 19 ∧ k ≠ 22 ∧ k ≠ 23 ∧ k ≠ 24 ∧ k ≠ 25 ∧ k ≠ 27 ∧ k ≠ 29 ∧ k ≠ 30 ∧ k ≠ 82) : fldC k = none := by
  unfold fldC
  repeat rw [if_neg (by omega)]
set_option linter.unusedSimpArgs false in
set_option linter.unusedVariables false in
set_option maxRecDepth 100000 in
set_option maxHeartbeats 4000000 in
theorem fields_any (k : Int) (w : World) : Calls Try.prog 25 #[.int .i64 k] w fun e w' => e = .returned (.tuple #[.string (strB ((fldC k).getD [])), .bool (fldC k).isSome]) ∧ w = w' := by
  rcases att_kinds k with rfl | rfl | rfl | rfl | rfl | rfl | rfl | rfl | rfl | rfl | rfl | rfl | rfl | rfl | rfl | rfl | rfl | rfl | rfl | rfl | rfl | rfl | rfl | hne
  case' inr.inr.inr.inr.inr.inr.inr.inr.inr.inr.inr.inr.inr.inr.inr.inr.inr.inr.inr.inr.inr.inr.inr =>
    rw [fldC_none k hne]
    obtain ⟨h1, h2, h3, h4, h5, h6, h7, h8, h9, h10, h11, h12, h13, h14, h15, h16, h17, h18, h19, h20, h21, h22, h23⟩ := hne
    have e1 := beq_eq_false_iff_ne.2 h1
    have e2 := beq_eq_false_iff_ne.2 h2
    have e3 := beq_eq_false_iff_ne.2 h3
    have e4 := beq_eq_false_iff_ne.2 h4
    have e5 := beq_eq_false_iff_ne.2 h5
    have e6 := beq_eq_false_iff_ne.2 h6
    have e7 := beq_eq_false_iff_ne.2 h7
    have e8 := beq_eq_false_iff_ne.2 h8
    have e9 := beq_eq_false_iff_ne.2 h9
    have e10 := beq_eq_false_iff_ne.2 h10
    have e11 := beq_eq_false_iff_ne.2 h11
    have e12 := beq_eq_false_iff_ne.2 h12
    have e13 := beq_eq_false_iff_ne.2 h13
    have e14 := beq_eq_false_iff_ne.2 h14
    have e15 := beq_eq_false_iff_ne.2 h15
    have e16 := beq_eq_false_iff_ne.2 h16
    have e17 := beq_eq_false_iff_ne.2 h17
    have e18 := beq_eq_false_iff_ne.2 h18
    have e19 := beq_eq_false_iff_ne.2 h19
    have e20 := beq_eq_false_iff_ne.2 h20
    have e21 := beq_eq_false_iff_ne.2 h21
    have e22 := beq_eq_false_iff_ne.2 h22
    have e23 := beq_eq_false_iff_ne.2 h23
    clear h1 h2 h3 h4 h5 h6 h7 h8 h9 h10 h11 h12 h13 h14 h15 h16 h17 h18 h19 h20 h21 h22 h23
  all_goals
    go_enter Try.func25, Try.ntmps25
    go_wp2
    go_ret2
    exact ⟨rfl, rfl⟩
end Go.Proofs.Ythnffdlnhfhabaa
