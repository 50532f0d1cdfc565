/- uuid: hexadecimal digits; hex of the reference. -/
import Derived.Test.YtolkjijnodejlaaDoorUuA
namespace Go.Proofs.YtolkjijnodejlaaDoor
open Go.RowKit

/-- a hexadecimal digit -/
def dig (d : Nat) : Nat := if d < 10 then 48 + d else 87 + d
theorem dig_lt (d : Nat) (h : d < 16) : dig d < 256 := by unfold dig; split <;> omega
def digS : ByteArray := { data := #[48, 49, 50, 51, 52, 53, 54, 55, 56, 57, 97, 98, 99, 100, 101, 102] }
/-- the digits of a number, the highest first -/
def hexD (n : Nat) : Nat → List Nat
  | 0 => []
  | k+1 => dig (n / 16 ^ k % 16) :: hexD n k
theorem hexD_len (n : Nat) : ∀ k, (hexD n k).length = k
  | 0 => rfl
  | k+1 => by simp [hexD, hexD_len n k]
theorem hexD_lt (n : Nat) : ∀ k, ∀ x ∈ hexD n k, x < 256
  | 0, x, h => by simp [hexD] at h
  | k+1, x, h => by
    simp only [hexD, List.mem_cons] at h
    rcases h with rfl | h
    · exact dig_lt _ (Nat.mod_lt _ (by decide))
    · exact hexD_lt n k x h
theorem strB_app (a b : List Nat) : strB a ++ strB b = strB (a ++ b) := by
  apply ByteArray.ext
  rw [← Array.toList_inj]
  unfold strB
  simp [strOfNums_data]
theorem digS_dig (d : Nat) (h : d < 16) : digS.extract d (d + 1) = strB [dig d] := by
  have : d = 0 ∨ d = 1 ∨ d = 2 ∨ d = 3 ∨ d = 4 ∨ d = 5 ∨ d = 6 ∨ d = 7 ∨ d = 8 ∨ d = 9 ∨ d = 10 ∨ d = 11 ∨ d = 12 ∨ d = 13 ∨ d = 14 ∨ d = 15 := by omega
  rcases this with rfl | rfl | rfl | rfl | rfl | rfl | rfl | rfl | rfl | rfl | rfl | rfl | rfl | rfl | rfl | rfl <;> decide +kernel
set_option linter.unusedSimpArgs false in
set_option linter.unusedVariables false in
set_option maxRecDepth 100000 in
set_option maxHeartbeats 1000000 in
theorem rhex_any (n size : Nat) (hn : n < 18446744073709551616) (hs : size ≤ 1000) (w : World) :
    Calls Tryd.prog 31 #[.int .u64 n, .int .i64 size] w fun e w' => e = .returned (.string (strB (hexD n size))) ∧ w = w' := by
  have HHN := Lib.hid hn
  clear hn
  go_enter Tryd.func31, Tryd.ntmps31
  go_wp2
  go_loop [0, 5, 6, 7] (fun x s i _ => ∃ k : Nat, i = .int .i64 k ∧ k ≤ size ∧ x = .int .u64 ((n / 16 ^ k : Nat) : Int) ∧ s = .string (strB (hexD n k))) (fun _ _ i _ => size - (intOf i).toNat)
  case atStart => exact ⟨0, by simp, Nat.zero_le _, by simp, rfl⟩
  case round =>
    obtain ⟨k, rfl, hk, rfl, rfl⟩ := hrel
    by_cases hlt : k < size
    · have g1 : decide (k < size) = true := by simpa using hlt
      obtain ⟨N, hN⟩ : ∃ N, n / 16 ^ k = N := ⟨_, rfl⟩
      rw [hN]
      have HN := Lib.hid hN
      clear hN
      have b0 : (0 : Int) ≤ (N : Int) := by omega
      have w1 : IntKind.i64.wrap ((k : Int) + 1) = (k : Int) + 1 := IntWalk.i64_in _ (by omega)
      have w5 : IntKind.u64.wrap ((N : Int) / 16) = (N : Int) / 16 := by
        have h1 := HHN.out
        have h2 : N ≤ n := by rw [← HN.out]; exact Nat.div_le_self _ _
        exact IntWalk.u64_in _ (by omega)
      have hd := digS_dig (N % 16) (Nat.mod_lt _ (by decide))
      unfold digS at hd
      have happ : strB [dig (N % 16)] ++ strB (hexD n k) = strB (hexD n (k + 1)) := by rw [strB_app, hexD, HN.out]; rfl
      have s1 : (strB [dig (N % 16)]).size = 1 := by rw [strB_size]; rfl
      have s2 : (strB (hexD n k)).size = k := by rw [strB_size, hexD_len]
      have hN2 : n / 16 ^ (k + 1) = N / 16 := by rw [Nat.pow_succ, ← Nat.div_div_eq_div_mul, HN.out]
      have HN2 := Lib.hid hN2
      clear hN2
      go_wp2
      refine ⟨⟨k + 1, by simp, hlt, by rw [HN2.out]; simp, rfl⟩, ?_⟩
      simp [intOf]
      omega
    · have g1 : decide (k < size) = false := by simpa using hlt
      obtain rfl : k = size := by omega
      go_wp2
      go_ret
      exact ⟨rfl, rfl⟩
end Go.Proofs.YtolkjijnodejlaaDoor
