/- Walks of chanmap.Has, Count and of the reference's Power, Has: each returns what the plain function says; the world stays. -/
import Derived.Test.YtoaiiceglfmfcaaDoorBase
import Derived.Test.YtoaiiceglfmfcaaDoorPlainB
import Derived.WalkKit
import Derived.WalkLawsBesides
import Derived.Lib.Hide
namespace Go.Proofs.YtoaiiceglfmfcaaDoor
open Go.RowKit

/-- is the channel in the map? -/
def hasI (m : Nat) (c : Int) : Bool := decide (0 ≤ c) && decide (c < 37) && m.testBit c.toNat

theorem hasI_hi (m : Nat) {c : Int} (h : 37 ≤ c) : hasI m c = false := by simp [hasI]; omega
theorem hasI_lo (m : Nat) {c : Int} (h : c < 0) : hasI m c = false := by simp [hasI]; omega
theorem hasI_in (m k : Nat) (h : k < 37) : hasI m k = m.testBit k := by simp [hasI]; omega
theorem has_bit (m : Nat) (hm : m < 18446744073709551616) (c : Nat) : (bits .and .u64 (↑m / 2 ^ c) 1 == 1) = m.testBit c := by
  have e1 : ((m : Int) / 2 ^ c) = ((m / 2^c : Nat) : Int) := by simp
  have h1 : m / 2^c < 18446744073709551616 := Nat.lt_of_le_of_lt (Nat.div_le_self _ _) hm
  rw [e1, show (1 : Int) = ((1 : Nat) : Int) by rfl, u64_and_nat _ _ h1 (by decide), Nat.and_one_is_mod, Nat.testBit_eq_decide_div_mod_eq]
  rw [Bool.eq_iff_iff]
  simp only [beq_iff_eq, decide_eq_true_eq]
  omega
theorem has_any (m : Nat) (hm : m < 18446744073709551616) (c : Int) (w : World) :
    Calls Tryd.prog 14 #[.int .u64 m, .int .i64 c] w fun e w' => e = .returned (.bool (hasI m c)) ∧ w = w' := by
  by_cases h0 : 0 ≤ c
  · by_cases h1 : c < 37
    · go_enter Tryd.func14, Tryd.ntmps14
      go_wp2
      go_ret
      exact ⟨ret_bool (by rw [has_bit m hm]; simp [hasI, h0, h1]), rfl⟩
    · go_enter Tryd.func14, Tryd.ntmps14
      go_wp2
      go_ret
      exact ⟨ret_bool (hasI_hi m (by omega)).symm, rfl⟩
  · go_enter Tryd.func14, Tryd.ntmps14
    go_wp2
    go_ret
    exact ⟨ret_bool (hasI_lo m (by omega)).symm, rfl⟩

theorem pow_lt (k : Nat) (h : k ≤ 63) : 1 ≤ 2^k ∧ 2^k ≤ 9223372036854775808 :=
  ⟨Nat.one_le_two_pow, by have : 2^k ≤ 2^63 := Nat.pow_le_pow_right (by decide) h; exact this⟩
theorem pow_nat (k : Nat) (hk : k ≤ 63) (w : World) :
    Calls Tryd.prog 36 #[.int .i64 k] w fun e w' => e = .returned (.int .u64 ((2^k : Nat) : Int)) ∧ w = w' := by
  go_enter Tryd.func36, Tryd.ntmps36
  go_wp2
  go_loop [3, 4] (fun p i => ∃ n x : Nat, n ≤ k ∧ i = .int .i64 n ∧ p = .int .u64 x ∧ Hid (x = 2^n)) (fun _ i => k - (intOf i).toNat)
  case atStart => exact ⟨0, 1, by omega, rfl, rfl, rfl⟩
  case round =>
    obtain ⟨n, x, hn, rfl, rfl, hx⟩ := hrel
    by_cases hlt : n < k
    · have hb := pow_lt (n + 1) (by omega)
      have hx2 : x * 2 ≤ 9223372036854775808 := by rw [hx.out, ← Nat.pow_succ]; exact hb.2
      clear hb
      go_wp2
      go_round
      case rel => exact ⟨n + 1, x * 2, by omega, by go_num, by go_num, by unfold Hid at *; rw [hx, Nat.pow_succ]⟩
      case measure => simp [intOf]; omega
    · go_wp2
      go_ret
      have e : x = 2^k := by rw [hx.out, show n = k by omega]
      exact ⟨by rw [e]; rfl, rfl⟩
theorem pow_any (b : Int) (h0 : 0 ≤ b) (h1 : b ≤ 63) (w : World) :
    Calls Tryd.prog 36 #[.int .i64 b] w fun e w' => e = .returned (.int .u64 ((2^b.toNat : Nat) : Int)) ∧ w = w' := by
  obtain ⟨n, rfl⟩ := Int.eq_ofNat_of_zero_le h0
  exact pow_nat n (by omega) w
theorem rhas_any (m : Nat) (hm : m < 18446744073709551616) (c : Int) (w : World) :
    Calls Tryd.prog 15 #[.int .u64 m, .int .i64 c] w fun e w' => e = .returned (.bool (hasI m c)) ∧ w = w' := by
  by_cases h0 : 0 ≤ c
  · by_cases h1 : c < 37
    · obtain ⟨k, rfl⟩ := Int.eq_ofNat_of_zero_le h0
      have hp := pow_lt k (by omega)
      generalize hX : 2^k = X at hp
      have HX := Lib.hid hX
      clear hX
      have hd : (m : Int) / X = ((m / X : Nat) : Int) := by simp
      have hd1 : m / X ≤ m := Nat.div_le_self _ _
      have hd2 : 0 ≤ (m : Int) / X ∧ (m : Int) / X ≤ m := by rw [hd]; exact ⟨Int.natCast_nonneg _, Int.ofNat_le.2 hd1⟩
      clear hd hd1
      go_enter Tryd.func15, Tryd.ntmps15
      go_wp2_with (go_at_call 36; refine (pow_nat _ (by omega) _).mono ?_; rw [HX.out]; rintro e w' ⟨rfl, rfl⟩)
      go_ret
      refine ⟨ret_bool ?_, rfl⟩
      rw [hasI_in m k (by omega), Nat.testBit_eq_decide_div_mod_eq, HX.out, Bool.eq_iff_iff]
      simp only [beq_iff_eq, decide_eq_true_eq]
      omega
    · go_enter Tryd.func15, Tryd.ntmps15
      go_wp2
      go_ret
      exact ⟨ret_bool (hasI_hi m (by omega)).symm, rfl⟩
  · go_enter Tryd.func15, Tryd.ntmps15
    go_wp2
    go_ret
    exact ⟨ret_bool (hasI_lo m (by omega)).symm, rfl⟩

/-! ### the count -/
theorem i64_and127 (x : Int) (h0 : 0 ≤ x) (h1 : x < 9223372036854775808) : bits .and .i64 x 127 = x % 128 := by
  have := bits_mask .i64 63 (by decide) (fun n a b => IntWalk.i64_in n (by omega)) 7 (by decide) x h0 (by omega)
  simpa using this
theorem ones_any (x : Nat) (h : x < 18446744073709551616) (w : World) :
    Calls Tryd.prog 37 #[.int .u64 x] w fun e w' => e = .returned (.int .i64 (pop x 64)) ∧ w = w' := by
  have l1 : (x / 2 &&& 6148914691236517205) ≤ 6148914691236517205 := Nat.and_le_right
  have l2 : (x &&& 6148914691236517205) ≤ 6148914691236517205 := Nat.and_le_right
  have h1 : bits .and .u64 ((x : Int) / 2) 6148914691236517205 = ((x / 2 &&& 6148914691236517205 : Nat) : Int) := and64 (by omega) rfl (by omega) (by decide)
  have h2 : bits .and .u64 (x : Int) 6148914691236517205 = ((x &&& 6148914691236517205 : Nat) : Int) := and64 rfl rfl (by omega) (by decide)
  have ho := Lib.hid (oc_eq x h)
  unfold oc oc1 at ho
  generalize hA1 : (x / 2 &&& 6148914691236517205) = A1 at *
  generalize hA2 : (x &&& 6148914691236517205) = A2 at *
  clear hA1 hA2
  have l3 : ((A1 + A2) / 4 &&& 3689348814741910323) ≤ 3689348814741910323 := Nat.and_le_right
  have l4 : ((A1 + A2) &&& 3689348814741910323) ≤ 3689348814741910323 := Nat.and_le_right
  have h3 : bits .and .u64 (((A1 : Int) + A2) / 4) 3689348814741910323 = (((A1 + A2) / 4 &&& 3689348814741910323 : Nat) : Int) := and64 (by omega) rfl (by omega) (by decide)
  have h4 : bits .and .u64 ((A1 : Int) + A2) 3689348814741910323 = (((A1 + A2) &&& 3689348814741910323 : Nat) : Int) := and64 (by omega) rfl (by omega) (by decide)
  unfold oc2 at ho
  generalize hA3 : ((A1 + A2) / 4 &&& 3689348814741910323) = A3 at *
  generalize hA4 : ((A1 + A2) &&& 3689348814741910323) = A4 at *
  clear hA3 hA4
  have l5 : (((A3 + A4) / 16 + (A3 + A4)) &&& 1085102592571150095) ≤ 1085102592571150095 := Nat.and_le_right
  have h5 : bits .and .u64 (((A3 : Int) + A4) / 16 + (A3 + A4)) 1085102592571150095 = ((((A3 + A4) / 16 + (A3 + A4)) &&& 1085102592571150095 : Nat) : Int) := and64 (by omega) rfl (by omega) (by decide)
  unfold oc3 at ho
  generalize hA5 : (((A3 + A4) / 16 + (A3 + A4)) &&& 1085102592571150095) = A5 at *
  clear hA5
  go_enter Tryd.func37, Tryd.ntmps37
  go_wp2
  go_ret
  refine ⟨ret_eq ?_, rfl⟩
  rw [i64_and127 _ (by omega) (by omega), ← ho.out]
  omega

theorem pop37 (m : Nat) : pop (m &&& 137438953471) 64 = pop m 37 := by
  have e : m &&& 137438953471 = m % 2^37 := Nat.and_two_pow_sub_one_eq_mod m 37
  rw [e, show 64 = 37 + 27 by rfl, pop_add, pop_mod _ _ _ (Nat.le_refl _), Nat.div_eq_of_lt (Nat.mod_lt _ (by decide)), pop_zero 0, Nat.add_zero]
theorem count_any (m : Nat) (hm : m < 18446744073709551616) (w : World) :
    Calls Tryd.prog 16 #[.int .u64 m] w fun e w' => e = .returned (.int .i64 (pop m 37)) ∧ w = w' := by
  have h1 : bits .and .u64 (m : Int) 137438953471 = ((m &&& 137438953471 : Nat) : Int) := and64 rfl rfl (by omega) (by decide)
  have l1 : (m &&& 137438953471) ≤ 137438953471 := Nat.and_le_right
  have hp := Lib.hid (pop37 m)
  generalize (m &&& 137438953471) = A at *
  go_enter Tryd.func16, Tryd.ntmps16
  go_wp2_with (go_at_call 37; refine (ones_any _ (by omega) _).mono ?_; rintro e w' ⟨rfl, rfl⟩)
  go_ret
  exact ⟨ret_eq (by rw [hp.out]), rfl⟩
end Go.Proofs.YtoaiiceglfmfcaaDoor
