/- Walks of hop.Step, Ident, reverse, Random and of the reference's: each returns what the plain function says; the world stays. -/
import Derived.Test.YtoaiiceglfmfcaaBase
import Derived.Test.YtoaiiceglfmfcaaPlainA
import Derived.WalkKit
import Derived.WalkLawsBesides
import Derived.Lib.Hide
namespace Go.Proofs.Ytoaiiceglfmfcaa
open Go.RowKit

def stepI (a b : Int) : Int := (a.tmod 37 + b.tmod 37 + 74) % 37

theorem step_any (a b : Int) (w : World) :
    Calls Try.prog 15 #[.int .i64 a, .int .i64 b] w fun e w' => e = .returned (.int .i64 (stepI a b)) ∧ w = w' := by
  have h1 := tmod_bd a 37 (by omega)
  have h2 := tmod_bd b 37 (by omega)
  go_enter Try.func15, Try.ntmps15
  go_wp2
  go_ret
  exact ⟨rfl, rfl⟩
theorem rstep_any (a b : Int) (w : World) :
    Calls Try.prog 16 #[.int .i64 a, .int .i64 b] w fun e w' => e = .returned (.int .i64 (stepI a b)) ∧ w = w' := by
  have h1 := tmod_bd a 37 (by omega)
  have h2 := tmod_bd b 37 (by omega)
  go_enter Try.func16, Try.ntmps16
  go_wp2
  go_ret
  exact ⟨rfl, rfl⟩

def identN (a : Nat) : Nat := (a / 65536) ^^^ (a % 65536)
theorem identN_lt (a : Nat) (h : a < 4294967296) : identN a < 65536 := Nat.xor_lt_two_pow (n := 16) (by omega) (by omega)
theorem ident_any (a : Nat) (h : a < 4294967296) (w : World) :
    Calls Try.prog 17 #[.int .u32 a] w fun e w' => e = .returned (.int .u16 (identN a)) ∧ w = w' := by
  go_enter Try.func17, Try.ntmps17
  go_wp2
  go_ret
  exact ⟨ret_eq (xor16 (by omega) (by rw [IntKind.wrap_u16]; omega) (by omega) (by omega)), rfl⟩
theorem rident_any (a : Nat) (h : a < 4294967296) (w : World) :
    Calls Try.prog 18 #[.int .u32 a] w fun e w' => e = .returned (.int .u16 (identN a)) ∧ w = w' := by
  go_enter Try.func18, Try.ntmps18
  go_wp2
  go_ret
  exact ⟨ret_eq (xor16 (by omega) (by omega) (by omega) (by omega)), rfl⟩

theorem revF_step (x k : Nat) (hx : x < 65536) (hk : k < 8) :
    bits .or .u16 ↑(revF x k) (IntKind.u16.wrap (bits .and .u16 (↑x / 2 ^ k) 257 * 2 ^ (7 - k))) = ((revF x (k + 1) : Nat) : Int) := by
  have hxk : x / 2^k < 65536 := Nat.lt_of_le_of_lt (Nat.div_le_self _ _) hx
  have e1 : ((x : Int) / 2 ^ k) = ((x / 2^k : Nat) : Int) := by simp
  have h2 : (x / 2^k &&& 257) ≤ 257 := Nat.and_le_right
  have h3 : 2^(7-k) ≤ 128 := by
    have : 2^(7-k) ≤ 2^7 := Nat.pow_le_pow_right (by decide) (by omega)
    omega
  have h4 : (x / 2^k &&& 257) * 2^(7-k) ≤ 257 * 128 := Nat.mul_le_mul h2 h3
  rw [e1, show (257 : Int) = ((257 : Nat) : Int) by rfl, u16_and_nat _ _ hxk (by decide)]
  have e2 : (((x / 2^k &&& 257 : Nat) : Int) * 2 ^ (7 - k)) = (((x / 2^k &&& 257) * 2^(7-k) : Nat) : Int) := by simp
  rw [e2, IntKind.wrap_u16]
  have e3 : ((((x / 2^k &&& 257) * 2^(7-k) : Nat) : Int)) % 65536 = (((x / 2^k &&& 257) * 2^(7-k) : Nat) : Int) := by omega
  rw [e3, u16_or_nat _ _ (revF_lt x k) (by omega)]
  rfl
theorem rev_any (x : Nat) (hx : x < 65536) (w : World) :
    Calls Try.prog 45 #[.int .u16 x] w fun e w' => e = .returned (.int .u16 (revF x 8)) ∧ w = w' := by
  go_enter Try.func45, Try.ntmps45
  go_wp2
  go_loop [3, 5] (fun out i => ∃ k : Nat, k ≤ 8 ∧ i = .int .i64 k ∧ out = .int .u16 (revF x k)) (fun _ i => 8 - (intOf i).toNat)
  case atStart => exact ⟨0, by omega, rfl, rfl⟩
  case round =>
    obtain ⟨k, hk, rfl, rfl⟩ := hrel
    by_cases hlt : k < 8
    · have hs := Lib.hid (revF_step x k hx hlt)
      go_wp2
      go_round
      case rel => exact ⟨k + 1, by omega, by go_num, congrArg _ hs.out⟩
      case measure => simp [intOf]; omega
    · go_wp2
      go_ret
      exact ⟨by rw [show k = 8 by omega]; rfl, rfl⟩
theorem rrev_nat (b : Nat) (h1 : b < 256) (w : World) :
    Calls Try.prog 46 #[.int .i64 b] w fun e w' => e = .returned (.int .i64 (rn b 8)) ∧ w = w' := by
  go_enter Try.func46, Try.ntmps46
  go_wp2
  go_loop [0, 3, 4] (fun b' n i => ∃ k x : Nat, k ≤ 8 ∧ i = .int .i64 k ∧ b' = .int .i64 x ∧ n = .int .i64 (rn b k) ∧ Hid (x = b / 2^k)) (fun _ _ i => 8 - (intOf i).toNat)
  case atStart => exact ⟨0, b, by omega, rfl, rfl, rfl, by simp [Hid]⟩
  case round =>
    obtain ⟨k, x, hk, rfl, rfl, rfl, hx⟩ := hrel
    have hr := rn_lt b k
    have hx1 : x ≤ 255 := by have := hx; unfold Hid at this; rw [this]; exact Nat.le_trans (Nat.div_le_self _ _) (by omega)
    have hr2 : rn b k < 256 := Nat.lt_of_lt_of_le hr (by have : 2^k ≤ 2^8 := Nat.pow_le_pow_right (by decide) hk; omega)
    clear hr
    by_cases hlt : k < 8
    · go_wp2
      go_round
      case rel => exact ⟨k + 1, x / 2, by omega, by go_num, by go_num, by unfold Hid at hx; subst hx; simp [rn], by unfold Hid at *; rw [hx, Nat.div_div_eq_div_mul, Nat.pow_succ]⟩
      case measure => simp [intOf]; omega
    · go_wp2
      go_ret
      exact ⟨by rw [show k = 8 by omega]; rfl, rfl⟩
theorem rrev_any (b : Int) (h0 : 0 ≤ b) (h1 : b < 256) (w : World) :
    Calls Try.prog 46 #[.int .i64 b] w fun e w' => e = .returned (.int .i64 (rn b.toNat 8)) ∧ w = w' := by
  obtain ⟨n, rfl⟩ := Int.eq_ofNat_of_zero_le h0
  exact rrev_nat n (by omega) w
theorem rand_any (ev i : Nat) (he : ev < 65536) (hi : i < 65536) (w : World) :
    Calls Try.prog 19 #[.int .u16 ev, .int .u16 i] w fun e w' => e = .returned (.int .u16 (randN ev i)) ∧ w = w' := by
  have hx := Lib.hid (u16_xor_nat ev i he hi)
  go_enter Try.func19, Try.ntmps19
  go_wp2
  go_loop [5, 9] (fun x k => ∃ n : Nat, n ≤ 3 ∧ k = .int .i64 n ∧ x = .int .u16 (randF ev i n)) (fun _ k => 3 - (intOf k).toNat)
  case atStart => exact ⟨0, by omega, rfl, congrArg _ hx.out⟩
  case round =>
    obtain ⟨n, hn, rfl, rfl⟩ := hrel
    have hr := randF_lt ev i he hi n
    have hv := revF_lt (randF ev i n) 8
    by_cases hlt : n < 3
    · go_wp2_with (go_at_call 45; refine (rev_any _ hr _).mono ?_; rintro e w' ⟨rfl, rfl⟩)
      go_round
      case rel => exact ⟨n + 1, by omega, by go_num, congrArg _ (by show _ = (((revF (randF ev i n) 8 * 17 + i) % 65536 : Nat) : Int); simp only [IntKind.wrap_u16]; omega)⟩
      case measure => simp [intOf]; omega
    · go_wp2
      go_ret
      exact ⟨ret_eq (by rw [show n = 3 by omega] at hr ⊢; exact u16_xor_nat _ _ hr hi), rfl⟩
theorem rrand_any (ev i : Nat) (he : ev < 65536) (hi : i < 65536) (w : World) :
    Calls Try.prog 20 #[.int .u16 ev, .int .u16 i] w fun e w' => e = .returned (.int .u16 (randN ev i)) ∧ w = w' := by
  have hx := Lib.hid (u16_xor_nat ev i he hi)
  go_enter Try.func20, Try.ntmps20
  go_wp2
  go_loop [5, 6] (fun x k => ∃ n : Nat, n ≤ 3 ∧ k = .int .i64 n ∧ x = .int .u16 (randF ev i n)) (fun _ k => 3 - (intOf k).toNat)
  case atStart => exact ⟨0, by omega, rfl, congrArg _ hx.out⟩
  case round =>
    obtain ⟨n, hn, rfl, rfl⟩ := hrel
    have hr := randF_lt ev i he hi n
    have hq := Lib.hid (rev_eq (randF ev i n) hr)
    have h1 := rn_lt (randF ev i n / 256) 8
    have h2 := rn_lt (randF ev i n % 256) 8
    by_cases hlt : n < 3
    · generalize hR : randF ev i n = R at *
      have HR := Lib.hid hR
      clear hR
      have h3 : rn (R / 256) 8 < 256 := h1
      have h4 : rn (R % 256) 8 < 256 := h2
      have e1 : ((R : Int) / 256).toNat = R / 256 := by omega
      have e2 : ((R : Int) % 256).toNat = R % 256 := by omega
      go_wp2_with (go_at_call 46; refine (rrev_any _ (by omega) (by omega) _).mono ?_; rintro e w' ⟨rfl, rfl⟩; simp only [e1, e2])
      go_round
      case rel => exact ⟨n + 1, by omega, by go_num, congrArg _ (by show _ = (((revF (randF ev i n) 8 * 17 + i) % 65536 : Nat) : Int); rw [HR.out, hq.out]; omega)⟩
      case measure => simp [intOf]; omega
    · go_wp2
      go_ret
      exact ⟨ret_eq (by rw [show n = 3 by omega] at hr ⊢; exact u16_xor_nat _ _ hr hi), rfl⟩
end Go.Proofs.Ytoaiiceglfmfcaa
