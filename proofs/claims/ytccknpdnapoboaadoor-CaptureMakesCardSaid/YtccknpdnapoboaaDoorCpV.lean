/- Numbers of bytes. -/
import Derived.Test.YtccknpdnapoboaaDoorCpE
namespace Go.Proofs.YtccknpdnapoboaaDoor
open Go.RowKit

/-- the number of bytes, the least significant first -/
def vnum : List Nat → Nat
  | [] => 0
  | b :: l => vnum l * 256 + b
theorem vnum_lt : ∀ (l : List Nat), (∀ x ∈ l, x < 256) → vnum l < 256 ^ l.length
  | [], _ => by simp [vnum]
  | b :: l, h => by
    have := vnum_lt l fun x hx => h x (List.mem_cons_of_mem _ hx)
    have hb := h b (by simp)
    simp only [vnum, List.length_cons, Nat.pow_succ]
    omega
theorem vnum_snoc (l : List Nat) (x : Nat) : vnum (l ++ [x]) = vnum l + x * 256 ^ l.length := by
  induction l with
  | nil => simp [vnum]
  | cons b l ih =>
    simp only [List.cons_append, vnum, ih, List.length_cons, Nat.pow_succ]
    rw [Nat.add_mul, Nat.mul_assoc, Nat.mul_comm (256 ^ l.length) 256]
    omega
theorem vnum_or (l : List Nat) (x : Nat) (hl : ∀ y ∈ l, y < 256) : vnum l ||| x * 256 ^ l.length = vnum l + x * 256 ^ l.length := by
  have e : (256 : Nat) ^ l.length = 2 ^ (8 * l.length) := by rw [Nat.pow_mul]
  have h := vnum_lt l hl
  rw [e] at h ⊢
  rw [Nat.or_comm, ← Nat.shiftLeft_eq, ← Nat.shiftLeft_add_eq_or_of_lt h]
  omega
theorem shl_wrap (x k : Nat) (hx : x < 256) (hk : k < 8) : IntKind.u64.wrap ((x : Int) * 2 ^ (8 * (k : Int)).toNat) = ((x * 256 ^ k : Nat) : Int) := by
  have e : (8 * (k : Int)).toNat = 8 * k := by omega
  rw [e]
  have e2 : (256 : Nat) ^ k = 2 ^ (8 * k) := by rw [Nat.pow_mul]
  rw [e2]
  have e3 : ((x : Int) * 2 ^ (8 * k)) = ((x * 2 ^ (8 * k) : Nat) : Int) := by simp
  rw [e3]
  have : x * 2 ^ (8 * k) < 18446744073709551616 := by
    have h1 : 2 ^ (8 * k) ≤ 2 ^ 56 := Nat.pow_le_pow_right (by decide) (by omega)
    calc x * 2 ^ (8 * k) ≤ 255 * 2 ^ 56 := Nat.mul_le_mul (by omega) h1
      _ < _ := by decide
  exact IntWalk.u64_in _ (by omega)
theorem vnum_put (x : Nat) : ∀ n, vnum (putB x n) = x % 256 ^ n
  | 0 => by simp [putB, vnum, Nat.mod_one]
  | n+1 => by
    rw [putB_succ, vnum_snoc, vnum_put x n, putB_len]
    unfold byt
    rw [Nat.pow_succ, Nat.mod_mul, Nat.mul_comm (x / 256 ^ n % 256)]
theorem putB_cons (x n : Nat) : putB x (n + 1) = byt x 0 :: putB (x / 256) n := by
  unfold putB
  rw [List.range_succ_eq_map, List.map_cons, List.map_map]
  refine congrArg _ (List.map_congr_left fun i _ => ?_)
  simp only [Function.comp, byt]
  rw [Nat.div_div_eq_div_mul, Nat.pow_succ, Nat.mul_comm]
theorem putB_vnum : ∀ l : List Nat, (∀ x ∈ l, x < 256) → putB (vnum l) l.length = l
  | [], _ => rfl
  | b :: l, h => by
    have hb := h b (by simp)
    rw [List.length_cons, putB_cons]
    have e1 : vnum (b :: l) / 256 = vnum l := by simp only [vnum]; omega
    have e2 : byt (vnum (b :: l)) 0 = b := by simp only [vnum, byt, Nat.pow_zero, Nat.div_one]; omega
    rw [e1, e2, putB_vnum l fun x hx => h x (List.mem_cons_of_mem _ hx)]
end Go.Proofs.YtccknpdnapoboaaDoor
