/- Plain laws: a bit added to a number; steps that visit everything because 37 is prime. -/
namespace Go.Proofs.Ytoaiiceglfmfcaa

theorem testBit_add (V u c : Nat) (h : V.testBit u = false) : (V + 2^u).testBit c = (decide (c = u) || V.testBit c) := by
  have hp : 0 < 2^u := Nat.two_pow_pos u
  have hb : V / 2^u % 2 = 0 := by
    rw [Nat.testBit_eq_decide_div_mod_eq] at h
    have := Nat.mod_lt (V / 2^u) (show 0 < 2 by decide)
    simp at h
    omega
  have hd : (V + 2^u) / 2^u = V / 2^u + 1 := Nat.add_div_right V hp
  rcases Nat.lt_trichotomy c u with hc | hc | hc
  · rw [Nat.add_comm, Nat.testBit_two_pow_add_gt hc]
    simp [Nat.ne_of_lt hc]
  · subst hc
    rw [Nat.testBit_eq_decide_div_mod_eq, hd]
    simp
    omega
  · obtain ⟨d, rfl⟩ : ∃ d, c = (d + 1) + u := ⟨c - u - 1, by omega⟩
    have t : ∀ x : Nat, x.testBit (d + 1 + u) = (x / 2^u).testBit (d + 1) := fun x => (Nat.testBit_div_two_pow x (d + 1)).symm
    rw [t, t, hd, Nat.testBit_succ, Nat.testBit_succ]
    have e : (V / 2^u + 1) / 2 = V / 2^u / 2 := by omega
    rw [e]
    simp

theorem prime37 : ∀ d r : Fin 37, d.val ≠ 0 → r.val ≠ 0 → (d.val * r.val) % 37 ≠ 0 := by decide +kernel

/-- what the unmapped channel of an event becomes: 37 is prime -/
def uSeq (u0 h : Int) : Nat → Int
  | 0 => u0
  | k+1 => (uSeq u0 h k + h) % 37
theorem uSeq_eq (u0 h : Int) (h0 : 0 ≤ u0) (h1 : u0 < 37) : ∀ k : Nat, uSeq u0 h k = (u0 + k * h) % 37
  | 0 => by simp [uSeq]; omega
  | k+1 => by
    unfold uSeq
    rw [uSeq_eq u0 h h0 h1 k]
    have e : ((k + 1 : Nat) : Int) * h = k * h + h := by
      rw [show ((k + 1 : Nat) : Int) = (k : Int) + 1 by omega, Int.add_mul, Int.one_mul]
    rw [e]
    omega
theorem uSeq_inj (u0 h : Int) (h0 : 0 ≤ u0) (h1 : u0 < 37) (hh : h % 37 ≠ 0) (i j : Nat) (hij : i < j) (hj : j < 37) : uSeq u0 h i ≠ uSeq u0 h j := by
  rw [uSeq_eq u0 h h0 h1, uSeq_eq u0 h h0 h1]
  intro he
  obtain ⟨d, rfl⟩ : ∃ d, j = i + d := ⟨j - i, by omega⟩
  have hd0 : d ≠ 0 := by omega
  have hr0 : 0 ≤ h % 37 := by omega
  obtain ⟨r, hr⟩ := Int.eq_ofNat_of_zero_le hr0
  have hrlt : r < 37 := by omega
  have hr1 : r ≠ 0 := by omega
  have hp := prime37 ⟨d, by omega⟩ ⟨r, hrlt⟩ hd0 hr1
  simp only at hp
  have e : ((i + d : Nat) : Int) * h = i * h + d * h := by
    rw [show ((i + d : Nat) : Int) = (i : Int) + d by omega, Int.add_mul]
  rw [e] at he
  have hz : ((d : Int) * h) % 37 = 0 := by omega
  rw [Int.mul_emod, hr] at hz
  have hz2 : (((d % 37 : Nat) : Int) * (r : Int)) % 37 = 0 := by
    have : (d : Int) % 37 = ((d % 37 : Nat) : Int) := by omega
    rw [this] at hz
    exact hz
  rw [Nat.mod_eq_of_lt (by omega), ← Int.natCast_mul] at hz2
  omega
end Go.Proofs.Ytoaiiceglfmfcaa
