/- capture: right of the reference. -/
import Derived.Test.YtccknpdnapoboaaDoorCpZ
namespace Go.Proofs.YtccknpdnapoboaaDoor
open Go.RowKit

/-- the numbers of a record are in their ranges -/
def cpB (t c f k : Int) : Bool := decide (0 ≤ t ∧ t ≤ 1099511627776 ∧ 0 ≤ c ∧ c ≤ 39 ∧ 0 ≤ f ∧ f ≤ 7 ∧ 0 ≤ k ∧ k ≤ 4)
theorem cpB_cpE (t c f k : Int) (bs : List Nat) : cpE ⟨t, c, f, k, bs⟩ = if cpB t c f k = true then (if 260 < bs.length then 4 else 0) else 5 := by
  unfold cpE cpB
  simp only [decide_eq_true_eq]
  by_cases h : 0 ≤ t ∧ t ≤ 1099511627776 ∧ 0 ≤ c ∧ c ≤ 39 ∧ 0 ≤ f ∧ f ≤ 7 ∧ 0 ≤ k ∧ k ≤ 4
  · rw [if_neg (by omega), if_pos h]
  · rw [if_pos (by omega), if_neg h]
set_option linter.unusedSimpArgs false in
set_option linter.unusedVariables false in
set_option maxRecDepth 100000 in
set_option maxHeartbeats 4000000 in
theorem right_any (t c f k : Int) (v : Value) (w : World) (hv : v.oneCell' = true) :
    Calls Tryd.prog 32 #[.agg #[.int .i64 t, .int .i64 c, .int .i64 f, .int .i64 k, v]] w fun e w' => e = .returned (.bool (cpB t c f k)) ∧ Below w.heap.size w w' := by
  have fin : Below w.heap.size w (w.alloc (.cells #[.int .i64 t, .int .i64 c, .int .i64 f, .int .i64 k, v] 35)) := (Below.refl _ _).alloc (Nat.le_refl _) _
  obtain ⟨B, hB⟩ : ∃ B, cpB t c f k = B := ⟨_, rfl⟩
  rw [hB]
  unfold cpB at hB
  by_cases h0 : 0 ≤ t
  rotate_left
  · have d0 : decide (0 ≤ t) = false := by simpa using h0
    have hBf : B = false := by rw [← hB]; exact decide_eq_false (by omega)
    subst hBf
    clear hB h0
    go_enter Tryd.func32, Tryd.ntmps32
    go_wp2
    go_ret
    exact ⟨rfl, fin⟩
  have d0 : decide (0 ≤ t) = true := by simpa using h0
  by_cases h1 : t ≤ 1099511627776
  rotate_left
  · have d1 : decide (t ≤ 1099511627776) = false := by simpa using h1
    have hBf : B = false := by rw [← hB]; exact decide_eq_false (by omega)
    subst hBf
    clear hB h0 h1
    go_enter Tryd.func32, Tryd.ntmps32
    go_wp2
    go_ret
    exact ⟨rfl, fin⟩
  have d1 : decide (t ≤ 1099511627776) = true := by simpa using h1
  by_cases h2 : 0 ≤ c
  rotate_left
  · have d2 : decide (0 ≤ c) = false := by simpa using h2
    have hBf : B = false := by rw [← hB]; exact decide_eq_false (by omega)
    subst hBf
    clear hB h0 h1 h2
    go_enter Tryd.func32, Tryd.ntmps32
    go_wp2
    go_ret
    exact ⟨rfl, fin⟩
  have d2 : decide (0 ≤ c) = true := by simpa using h2
  by_cases h3 : c ≤ 39
  rotate_left
  · have d3 : decide (c ≤ 39) = false := by simpa using h3
    have hBf : B = false := by rw [← hB]; exact decide_eq_false (by omega)
    subst hBf
    clear hB h0 h1 h2 h3
    go_enter Tryd.func32, Tryd.ntmps32
    go_wp2
    go_ret
    exact ⟨rfl, fin⟩
  have d3 : decide (c ≤ 39) = true := by simpa using h3
  by_cases h4 : 0 ≤ f
  rotate_left
  · have d4 : decide (0 ≤ f) = false := by simpa using h4
    have hBf : B = false := by rw [← hB]; exact decide_eq_false (by omega)
    subst hBf
    clear hB h0 h1 h2 h3 h4
    go_enter Tryd.func32, Tryd.ntmps32
    go_wp2
    go_ret
    exact ⟨rfl, fin⟩
  have d4 : decide (0 ≤ f) = true := by simpa using h4
  by_cases h5 : f ≤ 7
  rotate_left
  · have d5 : decide (f ≤ 7) = false := by simpa using h5
    have hBf : B = false := by rw [← hB]; exact decide_eq_false (by omega)
    subst hBf
    clear hB h0 h1 h2 h3 h4 h5
    go_enter Tryd.func32, Tryd.ntmps32
    go_wp2
    go_ret
    exact ⟨rfl, fin⟩
  have d5 : decide (f ≤ 7) = true := by simpa using h5
  by_cases h6 : 0 ≤ k
  rotate_left
  · have d6 : decide (0 ≤ k) = false := by simpa using h6
    have hBf : B = false := by rw [← hB]; exact decide_eq_false (by omega)
    subst hBf
    clear hB h0 h1 h2 h3 h4 h5 h6
    go_enter Tryd.func32, Tryd.ntmps32
    go_wp2
    go_ret
    exact ⟨rfl, fin⟩
  have d6 : decide (0 ≤ k) = true := by simpa using h6
  by_cases h7 : k ≤ 4
  rotate_left
  · have d7 : decide (k ≤ 4) = false := by simpa using h7
    have hBf : B = false := by rw [← hB]; exact decide_eq_false (by omega)
    subst hBf
    clear hB h0 h1 h2 h3 h4 h5 h6 h7
    go_enter Tryd.func32, Tryd.ntmps32
    go_wp2
    go_ret
    exact ⟨rfl, fin⟩
  have d7 : decide (k ≤ 4) = true := by simpa using h7
  have hBt : B = true := by rw [← hB]; exact decide_eq_true (by omega)
  subst hBt
  clear hB h0 h1 h2 h3 h4 h5 h6 h7
  go_enter Tryd.func32, Tryd.ntmps32
  go_wp2
  go_ret
  exact ⟨rfl, fin⟩
end Go.Proofs.YtccknpdnapoboaaDoor
