/- uuid: UuidOrder. -/
import Derived.Test.YtolkjijnodejlaaDoorUvA
import Derived.Test.YtolkjijnodejlaaDoorUuH
namespace Go.Proofs.YtolkjijnodejlaaDoor
open Go.RowKit

theorem cmpN_cases (ah al bh bl : Int) : (ah < bh ∧ cmpN ah al bh bl = -1) ∨ (bh < ah ∧ cmpN ah al bh bl = 1) ∨ (ah = bh ∧ al < bl ∧ cmpN ah al bh bl = -1) ∨ (ah = bh ∧ bl < al ∧ cmpN ah al bh bl = 1) ∨ (ah = bh ∧ al = bl ∧ cmpN ah al bh bl = 0) := by
  unfold cmpN
  rcases Int.lt_trichotomy ah bh with h | h | h
  · exact .inl ⟨h, by simp [h]⟩
  · subst h
    rcases Int.lt_trichotomy al bl with h | h | h
    · exact .inr (.inr (.inl ⟨rfl, h, by simp [h]⟩))
    · exact .inr (.inr (.inr (.inr ⟨rfl, h, by simp [h]⟩)))
    · exact .inr (.inr (.inr (.inl ⟨rfl, h, by simp [h, Int.lt_asymm h]⟩)))
  · exact .inr (.inl ⟨h, by simp [h, Int.lt_asymm h]⟩)
theorem cmpN_rng (ah al bh bl : Int) : cmpN ah al bh bl = -1 ∨ cmpN ah al bh bl = 0 ∨ cmpN ah al bh bl = 1 := by
  rcases cmpN_cases ah al bh bl with h | h | h | h | h <;> omega
theorem cmpN_flip (ah al bh bl : Int) : cmpN bh bl ah al = -cmpN ah al bh bl := by
  rcases cmpN_cases ah al bh bl with h | h | h | h | h <;> rcases cmpN_cases bh bl ah al with g | g | g | g | g <;> omega
theorem cmpN_zero (ah al bh bl : Int) : cmpN ah al bh bl = 0 ↔ ah = bh ∧ al = bl := by
  rcases cmpN_cases ah al bh bl with h | h | h | h | h <;> omega
theorem cmpN_trans (ah al bh bl ch cl : Int) (h1 : cmpN ah al bh bl ≤ 0) (h2 : cmpN bh bl ch cl ≤ 0) : cmpN ah al ch cl ≤ 0 := by
  rcases cmpN_cases ah al bh bl with h | h | h | h | h <;> rcases cmpN_cases bh bl ch cl with g | g | g | g | g <;> rcases cmpN_cases ah al ch cl with k | k | k | k | k <;> omega
theorem cmpN_short (n m : Nat) (L : Int) : cmpN ((n : Int) * 4294967296 + 4096) L ((m : Int) * 4294967296 + 4096) L = if n < m then -1 else if m < n then 1 else 0 := by
  unfold cmpN
  split <;> split <;> (try split) <;> (try split) <;> (try split) <;> omega
end Go.Proofs.YtolkjijnodejlaaDoor
