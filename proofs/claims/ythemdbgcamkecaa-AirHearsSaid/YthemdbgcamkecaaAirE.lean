/- Walks of cmp.Compare, cmp.Or, within; the first error among many. -/
import Derived.Test.YthemdbgcamkecaaAirD
namespace Go.Proofs.Ythemdbgcamkecaa
open Go.RowKit

theorem isnan_any (x : Int) (w : World) : Calls Try.prog 55 #[.int .i64 x] w fun e w' => e = .returned (.bool false) ∧ w = w' := by
  go_enter Try.func55, Try.ntmps55
  go_wp2
  go_ret
  exact ⟨ret_bool (by simp), rfl⟩
def cmpI (a b : Int) : Int := if a < b then -1 else if b < a then 1 else 0
theorem cmp_cases (a b : Int) : (a < b ∧ cmpI a b = -1) ∨ (b < a ∧ cmpI a b = 1) ∨ (a = b ∧ cmpI a b = 0) := by
  unfold cmpI
  by_cases h : a < b
  · exact .inl ⟨h, by rw [if_pos h]⟩
  · by_cases h2 : b < a
    · exact .inr (.inl ⟨h2, by rw [if_neg h, if_pos h2]⟩)
    · exact .inr (.inr ⟨by omega, by rw [if_neg h, if_neg h2]⟩)
theorem cmp_any (a b : Int) (w : World) : Calls Try.prog 49 #[.int .i64 a, .int .i64 b] w fun e w' => e = .returned (.int .i64 (cmpI a b)) ∧ w = w' := by
  rcases cmp_cases a b with ⟨h, e⟩ | ⟨h, e⟩ | ⟨rfl, e⟩
  all_goals
    rw [e]
    clear e
    go_enter Try.func49, Try.ntmps49
    go_wp2_with (go_at_call 55; refine (isnan_any _ _).mono ?_; rintro e w' ⟨rfl, rfl⟩)
    go_ret
    exact ⟨rfl, rfl⟩

/-- the first that is not zero -/
def orL : List Int → Int
  | [] => 0
  | x :: l => if x = 0 then orL l else x
theorem orL_take (l : List Int) (k : Nat) (h : k < l.length) (h0 : ∀ x ∈ l.take k, x = 0) (hk : l[k] ≠ 0) : orL l = l[k] := by
  induction l generalizing k with
  | nil => simp at h
  | cons x l ih =>
    cases k with
    | zero => simp at hk; simp [orL, hk]
    | succ k =>
      have hx : x = 0 := h0 x (by simp)
      simp only [orL, hx, if_true, List.getElem_cons_succ]
      exact ih k (by simpa using h) (fun y hy => h0 y (by simp [hy])) (by simpa using hk)
theorem orL_zero (l : List Int) (h : ∀ x ∈ l, x = 0) : orL l = 0 := by
  induction l with
  | nil => rfl
  | cons x l ih => simp only [orL, h x (by simp), if_true]; exact ih fun y hy => h y (by simp [hy])
theorem or_any (b c : Nat) (xs : List Int) (n : Nat) (hn : xs.length = n) (hm : n ≤ 1000) (w : World) (hc : ∀ j (h : j < xs.length), w.cell? ⟨b, j, none⟩ = some (.int .i64 xs[j])) :
    Calls Try.prog 48 #[.slice (some ⟨b, 0, none⟩) n c] w fun e w' => e = .returned (.int .i64 (orL xs)) ∧ w = w' := by
  have HN := Lib.hid hn
  have HC := Lib.hid hc
  clear hn hc
  go_enter Try.func48, Try.ntmps48
  go_wp2
  go_loop [8, 5] (fun i _ => ∃ k : Nat, k ≤ n ∧ i = .int .i64 k ∧ Hid (∀ x ∈ xs.take k, x = 0)) (fun i _ => n - (intOf i).toNat)
  case atStart => exact ⟨0, by omega, rfl, by intro x hx; simp at hx⟩
  case round =>
    obtain ⟨k, hk, rfl, hall⟩ := hrel
    by_cases hlt : k < n
    · have hkl : k < xs.length := by rw [HN.out]; exact hlt
      have d := HC.out k hkl
      have ts := List.take_succ_eq_append_getElem hkl
      have ho := orL_take xs k hkl hall.out
      obtain ⟨x, he⟩ : ∃ t, xs[k] = t := ⟨_, rfl⟩
      rw [he] at d ts ho
      have TS := Lib.hid ts
      have HO := Lib.hid ho
      clear ts he ho
      by_cases hz : x = 0
      · subst hz
        go_wp2
        go_round
        case rel =>
          refine ⟨k + 1, by omega, by go_num, ?_⟩
          intro t ht
          rw [TS.out] at ht
          rcases List.mem_append.1 ht with h1 | h1
          · exact hall.out t h1
          · exact List.mem_singleton.1 h1
        case measure => simp [intOf]; omega
      · have hf : (x == 0) = false := by simpa using hz
        have HO2 := Lib.hid (HO.out hz)
        clear hz
        go_wp2
        go_ret
        exact ⟨ret_eq HO2.out.symm, rfl⟩
    · have e : xs.take k = xs := List.take_of_length_le (by rw [HN.out]; omega)
      have ha := hall.out
      rw [e] at ha
      have HA := Lib.hid (orL_zero xs ha)
      clear ha e
      go_wp2
      go_ret
      exact ⟨ret_eq HA.out.symm, rfl⟩
theorem within_any (n lo hi : Int) (w : World) : Calls Try.prog 34 #[.int .i64 n, .int .i64 lo, .int .i64 hi] w fun e w' => e = .returned (.bool (decide (lo ≤ n) && decide (n ≤ hi))) ∧ w = w' := by
  by_cases h : lo ≤ n
  · go_enter Try.func34, Try.ntmps34
    go_wp2
    go_ret
    exact ⟨ret_bool (by simp [h]), rfl⟩
  · have hd : decide (lo ≤ n) = false := by simpa using h
    go_enter Try.func34, Try.ntmps34
    go_wp2
    go_ret
    exact ⟨ret_bool (by first | rfl | (rw [hd]; rfl)), rfl⟩

/-- the first error among many -/
def firstE (f : Nat → Int) : Nat → Int
  | 0 => 0
  | k+1 => if firstE f k = 0 then f k else firstE f k
theorem firstE_stop (f : Nat → Int) (k : Nat) (h0 : firstE f k = 0) (hk : f k ≠ 0) : ∀ n, k < n → firstE f n = f k
  | 0, h => by omega
  | n+1, h => by
    by_cases hn : k < n
    · have := firstE_stop f k h0 hk n hn
      simp only [firstE, this, hk, if_false]
    · have : n = k := by omega
      subst this
      simp only [firstE, h0, if_true]
theorem firstE_next (f : Nat → Int) (k : Nat) (h0 : firstE f k = 0) (hk : f k = 0) : firstE f (k + 1) = 0 := by
  simp only [firstE, h0, if_true, hk]
end Go.Proofs.Ythemdbgcamkecaa
