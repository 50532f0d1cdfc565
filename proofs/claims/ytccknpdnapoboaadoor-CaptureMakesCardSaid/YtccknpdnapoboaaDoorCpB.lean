/- capture.check, capture.Write. -/
import Derived.Test.YtccknpdnapoboaaDoorCpU
import Derived.Test.YtccknpdnapoboaaDoorCpG
namespace Go.Proofs.YtccknpdnapoboaaDoor
open Go.RowKit

theorem cpE_some {t c f k : Int} {bs : List Nat} (h : t < 0 ∨ 1099511627776 < t ∨ c < 0 ∨ 39 < c ∨ f < 0 ∨ 7 < f ∨ k < 0 ∨ 4 < k) : cpE ⟨t, c, f, k, bs⟩ = 5 := if_pos h
theorem cpE_none {t c f k : Int} {bs : List Nat} (h : ¬ (t < 0 ∨ 1099511627776 < t ∨ c < 0 ∨ 39 < c ∨ f < 0 ∨ 7 < f ∨ k < 0 ∨ 4 < k)) : cpE ⟨t, c, f, k, bs⟩ = if 260 < bs.length then 4 else 0 := if_neg h
/-- where the ranges fail first -/
theorem rng_cases (t M : Int) : t < 0 ∨ (¬ t < 0 ∧ M < t) ∨ (¬ t < 0 ∧ ¬ M < t) := by omega
set_option linter.unusedSimpArgs false in
set_option linter.unusedVariables false in
set_option maxRecDepth 100000 in
set_option maxHeartbeats 2000000 in
theorem check_any (t c f k : Int) (a : Option Addr) (n cap : Nat) (bs : List Nat) (hn : bs.length = n) (w : World) :
    Calls Tryd.prog 28 #[.agg #[.int .i64 t, .int .i64 c, .int .i64 f, .int .i64 k, .slice a n cap]] w fun e w' => e = .returned (.int .i64 (cpE ⟨t, c, f, k, bs⟩)) ∧ Below w.heap.size w w' := by
  have fin : ∀ cs : Array Value, Below w.heap.size w (w.alloc (.cells cs 35)) := fun cs => (Below.refl _ _).alloc (Nat.le_refl _) _
  rcases rng_cases t 1099511627776 with h | ⟨h1, h2⟩ | ⟨h1, h2⟩
  · rw [cpE_some (.inl h)]
    have d1 : decide (t < 0) = true := by simpa using h
    clear h hn
    go_enter Tryd.func28, Tryd.ntmps28
    go_wp2
    go_ret
    exact ⟨rfl, fin _⟩
  · rw [cpE_some (.inr (.inl h2))]
    have d1 : decide (t < 0) = false := by simpa using h1
    have d2 : decide (1099511627776 < t) = true := by simpa using h2
    clear h1 h2 hn
    go_enter Tryd.func28, Tryd.ntmps28
    go_wp2
    go_ret
    exact ⟨rfl, fin _⟩
  have d1 : decide (t < 0) = false := by simpa using h1
  have d2 : decide (1099511627776 < t) = false := by simpa using h2
  rcases rng_cases c 39 with h | ⟨h3, h4⟩ | ⟨h3, h4⟩
  · rw [cpE_some (.inr (.inr (.inl h)))]
    have d3 : decide (c < 0) = true := by simpa using h
    clear h hn h1 h2
    go_enter Tryd.func28, Tryd.ntmps28
    go_wp2
    go_ret
    exact ⟨rfl, fin _⟩
  · rw [cpE_some (.inr (.inr (.inr (.inl h4))))]
    have d3 : decide (c < 0) = false := by simpa using h3
    have d4 : decide (40 ≤ c) = true := by simp; omega
    clear hn h1 h2 h3 h4
    go_enter Tryd.func28, Tryd.ntmps28
    go_wp2
    go_ret
    exact ⟨rfl, fin _⟩
  have d3 : decide (c < 0) = false := by simpa using h3
  have d4 : decide (40 ≤ c) = false := by simp; omega
  rcases rng_cases f 7 with h | ⟨h5, h6⟩ | ⟨h5, h6⟩
  · rw [cpE_some (.inr (.inr (.inr (.inr (.inl h)))))]
    have d5 : decide (f < 0) = true := by simpa using h
    clear hn h1 h2 h3 h4 h
    go_enter Tryd.func28, Tryd.ntmps28
    go_wp2
    go_ret
    exact ⟨rfl, fin _⟩
  · rw [cpE_some (.inr (.inr (.inr (.inr (.inr (.inl h6))))))]
    have d5 : decide (f < 0) = false := by simpa using h5
    have d6 : decide (8 ≤ f) = true := by simp; omega
    clear hn h1 h2 h3 h4 h5 h6
    go_enter Tryd.func28, Tryd.ntmps28
    go_wp2
    go_ret
    exact ⟨rfl, fin _⟩
  have d5 : decide (f < 0) = false := by simpa using h5
  have d6 : decide (8 ≤ f) = false := by simp; omega
  rcases rng_cases k 4 with h | ⟨h7, h8⟩ | ⟨h7, h8⟩
  · rw [cpE_some (.inr (.inr (.inr (.inr (.inr (.inr (.inl h)))))))]
    have d7 : decide (k < 0) = true := by simpa using h
    clear hn h1 h2 h3 h4 h5 h6 h
    go_enter Tryd.func28, Tryd.ntmps28
    go_wp2
    go_ret
    exact ⟨rfl, fin _⟩
  · rw [cpE_some (.inr (.inr (.inr (.inr (.inr (.inr (.inr h8)))))))]
    have d7 : decide (k < 0) = false := by simpa using h7
    have d8 : decide (4 < k) = true := by simpa using h8
    clear hn h1 h2 h3 h4 h5 h6 h7 h8
    go_enter Tryd.func28, Tryd.ntmps28
    go_wp2
    go_ret
    exact ⟨rfl, fin _⟩
  have d7 : decide (k < 0) = false := by simpa using h7
  have d8 : decide (4 < k) = false := by simpa using h8
  rw [cpE_none (by omega), hn]
  by_cases h : 260 < n
  · rw [if_pos h]
    have d9 : decide (260 < n) = true := by simpa using h
    have d9' : decide ((260 : Int) < (n : Int)) = true := by simp; omega
    clear hn h1 h2 h3 h4 h5 h6 h7 h8
    go_enter Tryd.func28, Tryd.ntmps28
    go_wp2
    go_ret
    exact ⟨rfl, fin _⟩
  · rw [if_neg h]
    have d9 : decide (260 < n) = false := by simpa using h
    have d9' : decide ((260 : Int) < (n : Int)) = false := by simp; omega
    clear hn h1 h2 h3 h4 h5 h6 h7 h8
    go_enter Tryd.func28, Tryd.ntmps28
    go_wp2
    go_ret
    exact ⟨rfl, fin _⟩
/-- Join of two slices -/
theorem join2_any (x y : Value) (xs ys : List Nat) (t : TypeId) (w : World) (hx : BytesAt w x xs) (hy : BytesAt w y ys) (hm : xs.length + ys.length ≤ 140737488351232) :
    Calls Tryd.prog 31 #[.slice (some ⟨w.heap.size, 0, none⟩) 2 2] (w.alloc (.cells #[x, y] t)) fun e w' => ∃ v', e = .returned v' ∧ w'.ownsRow (w.heap.size + 1) 5 1 v' (xs ++ ys).length (bcells (xs ++ ys)) ∧ Below (w.heap.size + 1) (w.alloc (.cells #[x, y] t)) w' := by
  have bP := Blk.new w t [x, y]
  have h1 : x.oneCell' = true := by obtain ⟨_, _, rfl⟩ := hx.1.val; rfl
  have h2 : y.oneCell' = true := by obtain ⟨_, _, rfl⟩ := hy.1.val; rfl
  have hb : Below w.heap.size w (w.alloc (.cells #[x, y] t)) := (Below.refl _ _).alloc (Nat.le_refl _) _
  have hj := join_any (.slice (some ⟨w.heap.size, 0, none⟩) 2 2) [(x, xs), (y, ys)] (w.alloc (.cells #[x, y] t)) ⟨by unfold maxLen; simp, by simp, by simp [h1, h2], some ⟨w.heap.size, 0, none⟩, 2, rfl, fun h => (by cases h), fun _ => ⟨w.heap.size, 0, rfl, bP.lt, fun j u hj => by rw [Nat.zero_add]; exact bP.cell hj⟩⟩
    (by simpa using ⟨hx.below hb, hy.below hb⟩) (by simpa using hm) (by simp)
  simpa using hj
end Go.Proofs.YtccknpdnapoboaaDoor
