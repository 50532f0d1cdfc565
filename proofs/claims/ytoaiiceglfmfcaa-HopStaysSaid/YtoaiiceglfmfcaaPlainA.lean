/- Plain laws for the layer hop: the reversal of bits; no program in sight. -/
namespace Go.Proofs.Ytoaiiceglfmfcaa

/-- the reversal of the bits of both bytes, as the program does it -/
def revF (x : Nat) : Nat → Nat
  | 0 => 0
  | k+1 => revF x k ||| (x / 2^k &&& 257) * 2^(7-k)
/-- the reversal of a byte's bits, as the document does it -/
def rn (b : Nat) : Nat → Nat
  | 0 => 0
  | k+1 => 2 * rn b k + (b / 2^k) % 2

def revStep (x out i : Nat) : Nat := out ||| (x / 2^i &&& 257) * 2^(7-i)
def revP (x : Nat) : Nat := revStep x (revStep x (revStep x (revStep x (revStep x (revStep x (revStep x (revStep x 0 0) 1) 2) 3) 4) 5) 6) 7

set_option maxRecDepth 100000 in
theorem rev_all : ∀ a : Fin 256, ∀ b : Fin 256, revP (256 * a.val + b.val) = 256 * rn a.val 8 + rn b.val 8 := by decide +kernel

theorem rev_eq (x : Nat) (hx : x < 65536) : revF x 8 = 256 * rn (x / 256) 8 + rn (x % 256) 8 := by
  have h := rev_all ⟨x / 256, by omega⟩ ⟨x % 256, by omega⟩
  simp only at h
  rw [show 256 * (x / 256) + x % 256 = x by omega] at h
  exact h

theorem revF_lt (x : Nat) : ∀ k, revF x k < 65536
  | 0 => by unfold revF; decide
  | k+1 => by
    have h1 := revF_lt x k
    have h2 : (x / 2^k &&& 257) ≤ 257 := Nat.and_le_right
    have h3 : 2^(7-k) ≤ 128 := by
      have : (7 - k) ≤ 7 := by omega
      calc 2^(7-k) ≤ 2^7 := Nat.pow_le_pow_right (by decide) this
        _ = 128 := by decide
    have h4 : (x / 2^k &&& 257) * 2^(7-k) ≤ 257 * 128 := Nat.mul_le_mul h2 h3
    unfold revF
    exact Nat.or_lt_two_pow (n := 16) h1 (by omega)
theorem rn_lt (b : Nat) : ∀ k, rn b k < 2^k
  | 0 => by unfold rn; decide
  | k+1 => by
    have h1 := rn_lt b k
    unfold rn
    have : 2^(k+1) = 2 * 2^k := by rw [Nat.pow_succ]; omega
    omega

/-- the pseudo-random number, round by round -/
def randF (e i : Nat) : Nat → Nat
  | 0 => e ^^^ i
  | k+1 => (revF (randF e i k) 8 * 17 + i) % 65536
def randN (e i : Nat) : Nat := randF e i 3 ^^^ i

theorem randF_lt (e i : Nat) (he : e < 65536) (hi : i < 65536) : ∀ k, randF e i k < 65536
  | 0 => Nat.xor_lt_two_pow (n := 16) he hi
  | k+1 => Nat.mod_lt _ (by decide)
theorem randN_lt (e i : Nat) (he : e < 65536) (hi : i < 65536) : randN e i < 65536 :=
  Nat.xor_lt_two_pow (n := 16) (randF_lt e i he hi 3) hi

end Go.Proofs.Ytoaiiceglfmfcaa
