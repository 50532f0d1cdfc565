/- Plain laws for the layer chanmap: the counting of bits as package bits does it, and the channels of a map; no program in sight. -/
namespace Go.Proofs.YtoaiiceglfmfcaaDoor

/-- how many of the lowest k bits are set -/
def pop (x : Nat) : Nat → Nat
  | 0 => 0
  | k+1 => pop x k + (x / 2^k) % 2
def oc1 (x m0 : Nat) : Nat := (x / 2 &&& m0) + (x &&& m0)
def oc2 (x m1 : Nat) : Nat := (x / 4 &&& m1) + (x &&& m1)
def oc3 (x m2 : Nat) : Nat := (x / 16 + x) &&& m2

theorem and_split (y b M c : Nat) (hb : b < 256) (hc : c < 256) : (256 * y + b) &&& (256 * M + c) = 256 * (y &&& M) + (b &&& c) := by
  have hbc : (b &&& c) < 2^8 := Nat.lt_of_le_of_lt Nat.and_le_left hb
  apply Nat.eq_of_testBit_eq
  intro i
  rw [Nat.testBit_and, show 256 * y + b = 2^8 * y + b by omega, show 256 * M + c = 2^8 * M + c by omega, show 256 * (y &&& M) + (b &&& c) = 2^8 * (y &&& M) + (b &&& c) by omega,
    Nat.testBit_two_pow_mul_add y hb, Nat.testBit_two_pow_mul_add M hc, Nat.testBit_two_pow_mul_add _ hbc]
  split <;> simp [Nat.testBit_and]

set_option maxRecDepth 100000 in
theorem byte1 : ∀ b : Fin 256, ∀ r : Fin 2, ((128 * r.val + b.val / 2) &&& 85) = (b.val / 2 &&& 85) := by decide +kernel
set_option maxRecDepth 100000 in
theorem byte2 : ∀ b : Fin 256, ∀ r : Fin 4, ((64 * r.val + b.val / 4) &&& 51) = (b.val / 4 &&& 51) := by decide +kernel
set_option maxRecDepth 100000 in
theorem byte3 : ∀ d : Fin 73, ∀ r : Fin 5, ((16 * r.val + d.val) &&& 15) = (d.val &&& 15) := by decide +kernel
set_option maxRecDepth 100000 in
theorem byte4 : ∀ b : Fin 256, oc1 b.val 85 < 256 ∧ oc2 (oc1 b.val 85) 51 ≤ 68 ∧ oc2 (oc1 b.val 85) 51 % 16 ≤ 4 ∧ oc3 (oc2 (oc1 b.val 85) 51) 15 = pop b.val 8 := by decide +kernel

theorem oc1_split (y b M : Nat) (hb : b < 256) : oc1 (256 * y + b) (256 * M + 85) = 256 * oc1 y M + oc1 b 85 := by
  have h1 := byte1 ⟨b, hb⟩ ⟨y % 2, by omega⟩
  simp only at h1
  have e : (256 * y + b) / 2 = 256 * (y / 2) + (128 * (y % 2) + b / 2) := by omega
  unfold oc1
  rw [e, and_split _ _ _ _ (by omega) (by omega), and_split _ _ _ _ hb (by omega), h1]
  omega
theorem oc2_split (y b M : Nat) (hb : b < 256) : oc2 (256 * y + b) (256 * M + 51) = 256 * oc2 y M + oc2 b 51 := by
  have h1 := byte2 ⟨b, hb⟩ ⟨y % 4, by omega⟩
  simp only at h1
  have e : (256 * y + b) / 4 = 256 * (y / 4) + (64 * (y % 4) + b / 4) := by omega
  unfold oc2
  rw [e, and_split _ _ _ _ (by omega) (by omega), and_split _ _ _ _ hb (by omega), h1]
  omega
theorem oc3_split (y d M : Nat) (hd : d ≤ 68) (hy : y % 16 ≤ 4) : oc3 (256 * y + d) (256 * M + 15) = 256 * oc3 y M + oc3 d 15 := by
  have h1 := byte3 ⟨d / 16 + d, by omega⟩ ⟨y % 16, by omega⟩
  simp only at h1
  have e : (256 * y + d) / 16 + (256 * y + d) = 256 * (y / 16 + y) + (16 * (y % 16) + (d / 16 + d)) := by omega
  unfold oc3
  rw [e, and_split _ _ _ _ (by omega) (by omega), h1]

/-- a mask of k bytes -/
def mk (c : Nat) : Nat → Nat
  | 0 => 0
  | k+1 => 256 * mk c k + c
/-- the counts of k bytes, a byte each -/
def pk : Nat → Nat → Nat
  | 0, _ => 0
  | k+1, x => 256 * pk k (x / 256) + pop (x % 256) 8

theorem oc_all : ∀ (k x : Nat), x < 256^k → oc2 (oc1 x (mk 85 k)) (mk 51 k) % 16 ≤ 4 ∧ oc3 (oc2 (oc1 x (mk 85 k)) (mk 51 k)) (mk 15 k) = pk k x
  | 0, x, h => by
    have : x = 0 := by omega
    subst this
    decide
  | k+1, x, h => by
    have hx : x = 256 * (x / 256) + x % 256 := by omega
    have hlt : x / 256 < 256^k := by
      rw [Nat.pow_succ] at h
      exact Nat.div_lt_of_lt_mul (by omega)
    obtain ⟨h1, h2⟩ := oc_all k (x / 256) hlt
    obtain ⟨b1, b2, b3, b4⟩ := byte4 ⟨x % 256, by omega⟩
    simp only at b1 b2 b3 b4
    have e1 : oc1 x (mk 85 (k+1)) = 256 * oc1 (x / 256) (mk 85 k) + oc1 (x % 256) 85 := by
      rw (occs := [1]) [hx]
      exact oc1_split _ _ _ (by omega)
    have e2 : oc2 (oc1 x (mk 85 (k+1))) (mk 51 (k+1)) = 256 * oc2 (oc1 (x / 256) (mk 85 k)) (mk 51 k) + oc2 (oc1 (x % 256) 85) 51 := by
      rw [e1]
      exact oc2_split _ _ _ b1
    refine ⟨by rw [e2]; omega, ?_⟩
    rw [e2]
    show oc3 _ (256 * mk 15 k + 15) = _
    rw [oc3_split _ _ _ b2 h1, h2, b4]
    rfl

theorem pop_le (x : Nat) : ∀ k, pop x k ≤ k
  | 0 => Nat.le_refl _
  | k+1 => by have := pop_le x k; unfold pop; omega
theorem pop_add (x j : Nat) : ∀ k, pop x (j + k) = pop x j + pop (x / 2^j) k
  | 0 => by simp [pop]
  | k+1 => by
    have h := pop_add x j k
    rw [← Nat.add_assoc]
    simp only [pop]
    rw [h, Nat.div_div_eq_div_mul, ← Nat.pow_add]
    omega
theorem pop_mod (x j : Nat) : ∀ k, k ≤ j → pop (x % 2^j) k = pop x k
  | 0, _ => rfl
  | k+1, h => by
    simp only [pop]
    rw [pop_mod x j k (by omega)]
    have : x % 2^j / 2^k % 2 = x / 2^k % 2 := by
      have e : 2^j = 2^k * (2 * 2^(j-k-1)) := by
        rw [show 2 * 2^(j-k-1) = 2^(j-k-1+1) by rw [Nat.pow_succ]; omega, ← Nat.pow_add]
        congr 1; omega
      rw [e, Nat.mod_mul_right_div_self, Nat.mod_mul_right_mod]
    omega
theorem pop_zero (x : Nat) : ∀ k, pop 0 k = 0
  | 0 => rfl
  | k+1 => by simp [pop, pop_zero x k]
theorem pop_byte (x k : Nat) : pop x (8 + k) = pop (x % 256) 8 + pop (x / 256) k := by
  rw [pop_add, ← pop_mod x 8 8 (by omega)]

/-- the last steps of the count -/
theorem oc_sum (p0 p1 p2 p3 p4 p5 p6 p7 : Nat) (h0 : p0 ≤ 8) (h1 : p1 ≤ 8) (h2 : p2 ≤ 8) (h3 : p3 ≤ 8) (h4 : p4 ≤ 8) (h5 : p5 ≤ 8) (h6 : p6 ≤ 8) (h7 : p7 ≤ 8) (P x4 x5 x6 : Nat)
    (hP : P = 256 * (256 * (256 * (256 * (256 * (256 * (256 * p7 + p6) + p5) + p4) + p3) + p2) + p1) + p0) (e4 : x4 = P + P / 256) (e5 : x5 = x4 + x4 / 65536) (e6 : x6 = x5 + x5 / 4294967296) :
    x6 % 128 = p0 + p1 + p2 + p3 + p4 + p5 + p6 + p7 := by
  have a1 : P / 256 = 256 * (256 * (256 * (256 * (256 * (256 * (p7) + (p6)) + (p5)) + (p4)) + (p3)) + (p2)) + (p1) := by omega
  have a2 : x4 = 256 * (256 * (256 * (256 * (256 * (256 * (256 * (p7) + (p6 + p7)) + (p5 + p6)) + (p4 + p5)) + (p3 + p4)) + (p2 + p3)) + (p1 + p2)) + (p0 + p1) := by omega
  clear a1 e4
  have a3 : x4 / 65536 = 256 * (256 * (256 * (256 * (256 * (p7) + (p6 + p7)) + (p5 + p6)) + (p4 + p5)) + (p3 + p4)) + (p2 + p3) := by omega
  have a4 : x5 = 256 * (256 * (256 * (256 * (256 * (256 * (256 * (p7) + (p6 + p7)) + (p5 + p6 + p7)) + (p4 + p5 + p6 + p7)) + (p3 + p4 + p5 + p6)) + (p2 + p3 + p4 + p5)) + (p1 + p2 + p3 + p4)) + (p0 + p1 + p2 + p3) := by omega
  clear a3 a2 e5
  have a5 : x5 / 4294967296 = 256 * (256 * (256 * (p7) + (p6 + p7)) + (p5 + p6 + p7)) + (p4 + p5 + p6 + p7) := by omega
  omega
/-- the count of package bits, whole -/
def oc (x : Nat) : Nat :=
  let P := oc3 (oc2 (oc1 x 6148914691236517205) 3689348814741910323) 1085102592571150095
  let x4 := P + P / 256
  let x5 := x4 + x4 / 65536
  (x5 + x5 / 4294967296) % 128
theorem oc_eq (x : Nat) (h : x < 18446744073709551616) : oc x = pop x 64 := by
  have hP := (oc_all 8 x h).2
  have m0 : mk 85 8 = 6148914691236517205 := by decide
  have m1 : mk 51 8 = 3689348814741910323 := by decide
  have m2 : mk 15 8 = 1085102592571150095 := by decide
  rw [m0, m1, m2] at hP
  unfold oc
  simp only [hP]
  have q : pop x 64 = pop (x % 256) 8 + (pop (x / 256 % 256) 8 + (pop (x / 256 / 256 % 256) 8 + (pop (x / 256 / 256 / 256 % 256) 8 + (pop (x / 256 / 256 / 256 / 256 % 256) 8 + (pop (x / 256 / 256 / 256 / 256 / 256 % 256) 8 + (pop (x / 256 / 256 / 256 / 256 / 256 / 256 % 256) 8 + pop (x / 256 / 256 / 256 / 256 / 256 / 256 / 256 % 256) 8)))))) := by
    rw [show 64 = 8 + 56 by rfl, pop_byte, show 56 = 8 + 48 by rfl, pop_byte, show 48 = 8 + 40 by rfl, pop_byte, show 40 = 8 + 32 by rfl, pop_byte, show 32 = 8 + 24 by rfl, pop_byte, show 24 = 8 + 16 by rfl, pop_byte, show 16 = 8 + 8 by rfl, pop_byte, ← pop_mod (x / 256 / 256 / 256 / 256 / 256 / 256 / 256) 8 8 (by omega)]
  rw [q]
  have := oc_sum _ _ _ _ _ _ _ _ (pop_le (x % 256) 8) (pop_le (x / 256 % 256) 8) (pop_le (x / 256 / 256 % 256) 8) (pop_le (x / 256 / 256 / 256 % 256) 8) (pop_le (x / 256 / 256 / 256 / 256 % 256) 8) (pop_le (x / 256 / 256 / 256 / 256 / 256 % 256) 8) (pop_le (x / 256 / 256 / 256 / 256 / 256 / 256 % 256) 8) (pop_le (x / 256 / 256 / 256 / 256 / 256 / 256 / 256 % 256) 8) (pk 8 x) _ _ _ (by simp only [pk]; omega) rfl rfl rfl
  omega
end Go.Proofs.YtoaiiceglfmfcaaDoor
