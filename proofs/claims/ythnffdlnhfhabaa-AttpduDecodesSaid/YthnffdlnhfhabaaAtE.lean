/- attpdu: elements of lists: size, unused. -/
import Derived.Test.YthnffdlnhfhabaaAtC
namespace Go.Proofs.Ythnffdlnhfhabaa
open Go.RowKit

/-- the number of bytes of an element -/
def sizeI (k : Int) (hi lo n : Nat) : Nat := if k = 5 then 2 + (encB hi lo).length else if k = 17 then 4 + n else 2 + n
/-- the fields that an element does not use are zero -/
def unuI (k : Int) (la hi lo n : Nat) : Bool := if k = 5 then (la == 0) && (n == 0) else if k = 17 then (hi == 0) && (lo == 0) else (la == 0) && ((hi == 0) && (lo == 0))
theorem encB_16 (hi lo : Nat) : (encB hi lo).length ≤ 16 := by
  rw [encB_len]
  split <;> omega
theorem beq_cast (a : Nat) : ((a : Int) == 0) = (a == 0) := by
  rw [Bool.eq_iff_iff]
  simp
set_option linter.unusedSimpArgs false in
set_option linter.unusedVariables false in
set_option maxRecDepth 100000 in
set_option maxHeartbeats 1000000 in
theorem size_any (k : Int) (ha la hi lo : Nat) (a : Option Addr) (n c : Nat) (hh : hi < 18446744073709551616) (hl : lo < 18446744073709551616) (hn : n ≤ 1099511627776) (w : World) :
    Calls Try.prog 55 #[.int .i64 k, .agg #[.int .u16 ha, .int .u16 la, .int .u64 hi, .int .u64 lo, .slice a n c]] w fun e w' => e = .returned (.int .i64 (sizeI k hi lo n : Nat)) ∧ Below w.heap.size w w' := by
  have he := fun W => encode_any hi lo hh hl W
  have hel := encB_16 hi lo
  unfold sizeI
  generalize encB hi lo = X at he hel
  obtain ⟨L, hL⟩ : ∃ L, X.length = L := ⟨_, rfl⟩
  rw [hL] at hel
  have HL := Lib.hid hL
  have HE := Lib.hid he
  rw [hL]
  clear he hh hl hL
  have hB : Below w.heap.size w (w.alloc (.cells #[.int .u16 ha, .int .u16 la, .int .u64 hi, .int .u64 lo, .slice a n c] 46)) := (Below.refl _ _).alloc (Nat.le_refl _) _
  by_cases h5 : k = 5
  · subst h5
    rw [if_pos rfl]
    go_enter Try.func55, Try.ntmps55
    go_wp2_with fail
    refine (HE.out _).mono ?_
    rintro e w1 ⟨v, rfl, hv, hB1⟩
    obtain ⟨⟨_, _, _, ao, cap, rfl, _, _⟩, _⟩ := hv
    rw [HL.out]
    have hBf := hB.trans (hB1.mono hB.size)
    clear hB1
    go_wp2
    go_ret
    exact ⟨by simp, hBf⟩
  · rw [if_neg h5]
    have t1 : (k == 5) = false := by simpa using h5
    by_cases h17 : k = 17
    · subst h17
      rw [if_pos rfl]
      go_enter Try.func55, Try.ntmps55
      go_wp2
      go_ret
      exact ⟨by simp, hB⟩
    · rw [if_neg h17]
      have t2 : (k == 17) = false := by simpa using h17
      go_enter Try.func55, Try.ntmps55
      go_wp2
      go_ret
      exact ⟨by simp, hB⟩
set_option linter.unusedSimpArgs false in
set_option linter.unusedVariables false in
set_option maxRecDepth 100000 in
set_option maxHeartbeats 1000000 in
theorem unused_any (k : Int) (ha la hi lo : Nat) (a : Option Addr) (n c : Nat) (w : World) :
    Calls Try.prog 92 #[.int .i64 k, .agg #[.int .u16 ha, .int .u16 la, .int .u64 hi, .int .u64 lo, .slice a n c]] w fun e w' => e = .returned (.bool (unuI k la hi lo n)) ∧ Below w.heap.size w w' := by
  have hz := fun W => run_build0 W
  unfold unuI
  have hB : Below w.heap.size w (w.alloc (.cells #[.int .u16 ha, .int .u16 la, .int .u64 hi, .int .u64 lo, .slice a n c] 46)) := (Below.refl _ _).alloc (Nat.le_refl _) _
  obtain ⟨q1, h1⟩ : ∃ q, (la == 0) = q := ⟨_, rfl⟩
  obtain ⟨q2, h2⟩ : ∃ q, (n == 0) = q := ⟨_, rfl⟩
  have h1' : ((la : Int) == 0) = q1 := by rw [beq_cast, h1]
  have h2' : ((n : Int) == 0) = q2 := by rw [beq_cast, h2]
  rw [h1, h2]
  by_cases h5 : k = 5
  · subst h5
    rw [if_pos rfl]
    cases q1
    all_goals
      go_enter Try.func92, Try.ntmps92
      go_wp2
      go_ret
      exact ⟨by simp, (Below.refl _ _).alloc (Nat.le_refl _) _⟩
  · rw [if_neg h5]
    have t1 : (k == 5) = false := by simpa using h5
    by_cases h17 : k = 17
    · subst h17
      rw [if_pos rfl]
      go_enter Try.func92, Try.ntmps92
      go_wp2
      all_goals
        go_ret
        exact ⟨by first | (simp; done) | (simp; omega), (Below.refl _ _).alloc (Nat.le_refl _) _⟩
    · rw [if_neg h17]
      have t2 : (k == 17) = false := by simpa using h17
      cases q1
      all_goals
        go_enter Try.func92, Try.ntmps92
        go_wp2
        all_goals
          go_ret
          exact ⟨by first | rfl | (simp; done) | (simp; omega), (Below.refl _ _).alloc (Nat.le_refl _) _⟩
end Go.Proofs.Ythnffdlnhfhabaa
