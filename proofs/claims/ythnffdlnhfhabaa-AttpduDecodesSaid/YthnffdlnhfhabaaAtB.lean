/- attpdu: the fields of a kind: of the reference. -/
import Derived.Test.YthnffdlnhfhabaaAtA
namespace Go.Proofs.Ythnffdlnhfhabaa
open Go.RowKit

/-- a kind has a field -/
def hasL (o : Option (List Nat)) (c : Nat) : Bool := (o.getD []).contains c
/-- the fields that a kind uses -/
def useV (o : Option (List Nat)) : Value := .agg #[.bool o.isSome, .bool (hasL o 65), .bool (hasL o 72), .bool (hasL o 76), .bool (hasL o 84), .bool (hasL o 79), .bool (hasL o 77), .bool (hasL o 67), .bool (hasL o 88), .bool (hasL o 86), .bool (hasL o 73)]
theorem bu0 (w : World) : (Instr.build 58 #[(0, .bool true), (1, .bool true), (2, .bool true), (7, .bool true)]).run Try.prog w = .ok (.agg #[.bool true, .bool true, .bool true, .bool false, .bool false, .bool false, .bool false, .bool true, .bool false, .bool false, .bool false]) w := by kernel_rfl
theorem bu1 (w : World) : (Instr.build 58 #[(0, .bool true), (6, .bool true)]).run Try.prog w = .ok (.agg #[.bool true, .bool false, .bool false, .bool false, .bool false, .bool false, .bool true, .bool false, .bool false, .bool false, .bool false]) w := by kernel_rfl
theorem bu2 (w : World) : (Instr.build 58 #[(0, .bool true), (2, .bool true), (3, .bool true)]).run Try.prog w = .ok (.agg #[.bool true, .bool false, .bool true, .bool true, .bool false, .bool false, .bool false, .bool false, .bool false, .bool false, .bool false]) w := by kernel_rfl
theorem bu3 (w : World) : (Instr.build 58 #[(0, .bool true), (2, .bool true), (3, .bool true), (4, .bool true)]).run Try.prog w = .ok (.agg #[.bool true, .bool false, .bool true, .bool true, .bool true, .bool false, .bool false, .bool false, .bool false, .bool false, .bool false]) w := by kernel_rfl
theorem bu4 (w : World) : (Instr.build 58 #[(0, .bool true), (2, .bool true)]).run Try.prog w = .ok (.agg #[.bool true, .bool false, .bool true, .bool false, .bool false, .bool false, .bool false, .bool false, .bool false, .bool false, .bool false]) w := by kernel_rfl
theorem bu5 (w : World) : (Instr.build 58 #[(0, .bool true), (2, .bool true), (5, .bool true)]).run Try.prog w = .ok (.agg #[.bool true, .bool false, .bool true, .bool false, .bool false, .bool true, .bool false, .bool false, .bool false, .bool false, .bool false]) w := by kernel_rfl
theorem bu6 (w : World) : (Instr.build 58 #[(0, .bool true), (9, .bool true)]).run Try.prog w = .ok (.agg #[.bool true, .bool false, .bool false, .bool false, .bool false, .bool false, .bool false, .bool false, .bool false, .bool true, .bool false]) w := by kernel_rfl
theorem bu7 (w : World) : (Instr.build 58 #[(0, .bool true), (2, .bool true), (9, .bool true)]).run Try.prog w = .ok (.agg #[.bool true, .bool false, .bool true, .bool false, .bool false, .bool false, .bool false, .bool false, .bool false, .bool true, .bool false]) w := by kernel_rfl
theorem bu8 (w : World) : (Instr.build 58 #[(0, .bool true), (2, .bool true), (5, .bool true), (9, .bool true)]).run Try.prog w = .ok (.agg #[.bool true, .bool false, .bool true, .bool false, .bool false, .bool true, .bool false, .bool false, .bool false, .bool true, .bool false]) w := by kernel_rfl
theorem bu9 (w : World) : (Instr.build 58 #[(0, .bool true), (8, .bool true)]).run Try.prog w = .ok (.agg #[.bool true, .bool false, .bool false, .bool false, .bool false, .bool false, .bool false, .bool false, .bool true, .bool false, .bool false]) w := by kernel_rfl
theorem bu10 (w : World) : (Instr.build 58 #[(0, .bool true)]).run Try.prog w = .ok (.agg #[.bool true, .bool false, .bool false, .bool false, .bool false, .bool false, .bool false, .bool false, .bool false, .bool false, .bool false]) w := by kernel_rfl
theorem bu11 (w : World) : (Instr.build 58 #[(0, .bool true), (10, .bool true)]).run Try.prog w = .ok (.agg #[.bool true, .bool false, .bool false, .bool false, .bool false, .bool false, .bool false, .bool false, .bool false, .bool false, .bool true]) w := by kernel_rfl
theorem bu12 (w : World) : (Instr.build 58 #[]).run Try.prog w = .ok (.agg #[.bool false, .bool false, .bool false, .bool false, .bool false, .bool false, .bool false, .bool false, .bool false, .bool false, .bool false]) w := by kernel_rfl
set_option linter.unusedSimpArgs false in
set_option linter.unusedVariables false in
set_option maxRecDepth 100000 in
set_option maxHeartbeats 4000000 in
theorem rfields_any (k : Int) (w : World) : Calls Try.prog 28 #[.int .i64 k] w fun e w' => e = .returned (useV (fldC k)) ∧ Below w.heap.size w w' := by
  have b0 := bu0
  have b1 := bu1
  have b2 := bu2
  have b3 := bu3
  have b4 := bu4
  have b5 := bu5
  have b6 := bu6
  have b7 := bu7
  have b8 := bu8
  have b9 := bu9
  have b10 := bu10
  have b11 := bu11
  have b12 := bu12
  rcases att_kinds k with rfl | rfl | rfl | rfl | rfl | rfl | rfl | rfl | rfl | rfl | rfl | rfl | rfl | rfl | rfl | rfl | rfl | rfl | rfl | rfl | rfl | rfl | rfl | hne
  case' inr.inr.inr.inr.inr.inr.inr.inr.inr.inr.inr.inr.inr.inr.inr.inr.inr.inr.inr.inr.inr.inr.inr =>
    rw [fldC_none k hne]
    obtain ⟨h1, h2, h3, h4, h5, h6, h7, h8, h9, h10, h11, h12, h13, h14, h15, h16, h17, h18, h19, h20, h21, h22, h23⟩ := hne
    have e1 := beq_eq_false_iff_ne.2 h1
    have e2 := beq_eq_false_iff_ne.2 h2
    have e3 := beq_eq_false_iff_ne.2 h3
    have e4 := beq_eq_false_iff_ne.2 h4
    have e5 := beq_eq_false_iff_ne.2 h5
    have e6 := beq_eq_false_iff_ne.2 h6
    have e7 := beq_eq_false_iff_ne.2 h7
    have e8 := beq_eq_false_iff_ne.2 h8
    have e9 := beq_eq_false_iff_ne.2 h9
    have e10 := beq_eq_false_iff_ne.2 h10
    have e11 := beq_eq_false_iff_ne.2 h11
    have e12 := beq_eq_false_iff_ne.2 h12
    have e13 := beq_eq_false_iff_ne.2 h13
    have e14 := beq_eq_false_iff_ne.2 h14
    have e15 := beq_eq_false_iff_ne.2 h15
    have e16 := beq_eq_false_iff_ne.2 h16
    have e17 := beq_eq_false_iff_ne.2 h17
    have e18 := beq_eq_false_iff_ne.2 h18
    have e19 := beq_eq_false_iff_ne.2 h19
    have e20 := beq_eq_false_iff_ne.2 h20
    have e21 := beq_eq_false_iff_ne.2 h21
    have e22 := beq_eq_false_iff_ne.2 h22
    have e23 := beq_eq_false_iff_ne.2 h23
    clear h1 h2 h3 h4 h5 h6 h7 h8 h9 h10 h11 h12 h13 h14 h15 h16 h17 h18 h19 h20 h21 h22 h23
  all_goals
    go_enter Try.func28, Try.ntmps28
    go_wp2
    refine bodyPost_ret (by simp [results, Try.results28, go_sem] <;> rfl) rfl ?_
    exact ⟨rfl, (Below.refl _ _).alloc (Nat.le_refl _) _⟩
end Go.Proofs.Ythnffdlnhfhabaa
