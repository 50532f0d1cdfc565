/- The walk of the reference's Of: the map of a list of channels. -/
import Derived.Test.YtoaiiceglfmfcaaDoorRefA
namespace Go.Proofs.YtoaiiceglfmfcaaDoor
open Go.RowKit

/-- the sum of the powers -/
def ofN : List Nat → Nat
  | [] => 0
  | x :: l => 2^x + ofN l
theorem ofN_append : ∀ a b : List Nat, ofN (a ++ b) = ofN a + ofN b
  | [], b => by simp [ofN]
  | x :: a, b => by simp [ofN, ofN_append a b]; omega
theorem ofN_take (l : List Nat) (k : Nat) : ofN (l.take k) ≤ ofN l := by
  have h := ofN_append (l.take k) (l.drop k)
  rw [List.take_append_drop] at h
  omega
theorem ofN_step (l : List Nat) (k : Nat) (h : k < l.length) : ofN (l.take (k + 1)) = ofN (l.take k) + 2^l[k] := by
  rw [List.take_succ_eq_append_getElem h, ofN_append]
  simp [ofN]

theorem rof_any (b off len cap : Nat) (xs : List Nat) (hl : xs.length = len) (hb : ∀ x ∈ xs, x < 37) (hs : ofN xs < 18446744073709551616) (hm : len ≤ 9223372036854775807) (w : World)
    (hc : ∀ j (h : j < xs.length), w.cell? ⟨b, off + j, none⟩ = some (.int .i64 (xs[j] : Int))) :
    Calls Tryd.prog 47 #[.slice (some ⟨b, off, none⟩) len cap] w fun e w' => e = .returned (.int .u64 (ofN xs)) ∧ w = w' := by
  go_enter Tryd.func47, Tryd.ntmps47
  go_wp2
  go_loop [3, 4] (fun m i => ∃ k x : Nat, k ≤ len ∧ i = .int .i64 k ∧ m = .int .u64 x ∧ Hid (x = ofN (xs.take k))) (fun _ i => len - (intOf i).toNat)
  case atStart => exact ⟨0, 0, by omega, rfl, rfl, by simp [Hid, ofN]⟩
  case round =>
    obtain ⟨k, x, hk, rfl, rfl, hx⟩ := hrel
    by_cases hlt : k < len
    · have hkl : k < xs.length := by omega
      have h1 := ofN_step xs k hkl
      have h2 := ofN_take xs (k + 1)
      have hck := hc k hkl
      have hp := hb _ (List.getElem_mem hkl)
      obtain ⟨y, hy⟩ : ∃ y, xs[k] = y := ⟨_, rfl⟩
      rw [hy] at h1 hck hp
      obtain ⟨p, hpw⟩ : ∃ p, 2^y = p := ⟨_, rfl⟩
      have HP := Lib.hid hpw
      rw [hpw] at h1
      have hsum : x + p < 18446744073709551616 := by rw [hx.out, ← h1]; omega
      have H1 := Lib.hid h1
      clear hc h1 h2 hb hs hpw hy
      go_wp2_with (go_at_call 36; refine (pow_nat _ (by omega) _).mono ?_; rw [HP.out]; rintro e w' ⟨rfl, rfl⟩)
      go_round
      case rel => exact ⟨k + 1, x + p, by omega, by go_num, by go_num, by unfold Hid at *; rw [H1, hx]⟩
      case measure => simp [intOf]; omega
    · clear hc
      go_wp2
      go_ret
      have e : x = ofN xs := by rw [hx.out, show k = len by omega, List.take_of_length_le (by omega)]
      exact ⟨by rw [e]; rfl, rfl⟩
theorem rof_one (b cap u : Nat) (hu : u < 37) (w : World) (hc : w.cell? ⟨b, 0, none⟩ = some (.int .i64 (u : Int))) :
    Calls Tryd.prog 47 #[.slice (some ⟨b, 0, none⟩) 1 cap] w fun e w' => e = .returned (.int .u64 ((2^u : Nat) : Int)) ∧ w = w' := by
  have e : ofN [u] = 2^u := by simp [ofN]
  have hp : 2^u ≤ 2^36 := Nat.pow_le_pow_right (by decide) (by omega)
  have h := rof_any b 0 1 cap [u] rfl (by simpa using hu) (by rw [e]; omega) (by omega) w (fun j hj => by
    have : j = 0 := by simpa using hj
    subst this
    simpa using hc)
  rw [e] at h
  exact h
end Go.Proofs.YtoaiiceglfmfcaaDoor
