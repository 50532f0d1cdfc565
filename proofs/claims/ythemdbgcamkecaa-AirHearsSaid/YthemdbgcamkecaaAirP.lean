/- Walks of air: few, pair, Same. -/
import Derived.Test.YthemdbgcamkecaaAirO
import Derived.Test.YthemdbgcamkecaaStr
namespace Go.Proofs.Ythemdbgcamkecaa
open Go.RowKit

theorem few_any (d : Int) (lv jv sv tv : Value) (n1 n2 n3 n4 s1 s2 s3 : Nat) (c1 c2 c3 : List Value) (ts : List Tr) (w : World)
    (h1 : SR w lv n1 s1 c1) (h2 : SR w jv n2 s2 c2) (h3 : SR w sv n3 s3 c3) (h4 : Txs w tv ts) (hn4 : ts.length = n4) :
    Calls Try.prog 23 #[.agg #[.int .i64 d, lv, jv, sv], tv] w fun e w' => e = .returned (.bool (decide (n1 ≤ 64 ∧ n2 ≤ 64 ∧ n3 ≤ 64 ∧ n4 ≤ 64))) ∧ Below w.heap.size w w' := by
  obtain ⟨a1, k1, rfl⟩ := h1.val
  obtain ⟨a2, k2, rfl⟩ := h2.val
  obtain ⟨a3, k3, rfl⟩ := h3.val
  obtain ⟨_, a4, k4, rfl, _⟩ := h4
  rw [hn4]
  obtain ⟨q, hq⟩ : ∃ q, decide (n1 ≤ 64 ∧ n2 ≤ 64 ∧ n3 ≤ 64 ∧ n4 ≤ 64) = q := ⟨_, rfl⟩
  have hc : (q = true ∧ decide (n1 ≤ 64) = true ∧ decide (n2 ≤ 64) = true ∧ decide (n3 ≤ 64) = true ∧ decide (n4 ≤ 64) = true) ∨ (q = false ∧ decide (n1 ≤ 64) = false) ∨ (q = false ∧ decide (n1 ≤ 64) = true ∧ decide (n2 ≤ 64) = false) ∨
      (q = false ∧ decide (n1 ≤ 64) = true ∧ decide (n2 ≤ 64) = true ∧ decide (n3 ≤ 64) = false) ∨ (q = false ∧ decide (n1 ≤ 64) = true ∧ decide (n2 ≤ 64) = true ∧ decide (n3 ≤ 64) = true ∧ decide (n4 ≤ 64) = false) := by
    rw [← hq]
    simp only [decide_eq_true_eq, decide_eq_false_iff_not]
    omega
  rw [hq]
  clear hq h1 h2 h3 hn4
  have t1 : decide ((n1 : Int) ≤ 64) = decide (n1 ≤ 64) := by congr 1; exact propext (by omega)
  have t2 : decide ((n2 : Int) ≤ 64) = decide (n2 ≤ 64) := by congr 1; exact propext (by omega)
  have t3 : decide ((n3 : Int) ≤ 64) = decide (n3 ≤ 64) := by congr 1; exact propext (by omega)
  have t4 : decide ((n4 : Int) ≤ 64) = decide (n4 ≤ 64) := by congr 1; exact propext (by omega)
  rcases hc with ⟨rfl, g1, g2, g3, g4⟩ | ⟨rfl, g1⟩ | ⟨rfl, g1, g2⟩ | ⟨rfl, g1, g2, g3⟩ | ⟨rfl, g1, g2, g3, g4⟩
  all_goals
    rw [g1] at t1
    try rw [g2] at t2
    try rw [g3] at t3
    try rw [g4] at t4
    go_enter Try.func23, Try.ntmps23
    go_wp2
    go_ret
    exact ⟨rfl, (Below.refl _ _).alloc (Nat.le_refl _) _⟩

theorem pair_any (w : World) : Calls Try.prog 32 #[] w fun e w' => ∃ lv, e = .returned (.agg #[.int .i64 2, lv, .slice none 0 0, .slice none 0 0]) ∧ SR w' lv 1 2 (tcells [(0, 1)]) ∧ Below w.heap.size w w' := by
  go_enter Try.func32, Try.ntmps32
  go_wp2
  refine bodyPost_ret (v := .agg #[.int .i64 2, .slice (some ⟨w.heap.size + 1, 0, none⟩) 1 1, .slice none 0 0, .slice none 0 0]) (by simp [results, Try.results32, go_sem]) rfl ?_
  have hB0 : Below w.heap.size w (w.alloc (.cells #[.int .i64 2, .slice (some ⟨w.heap.size + 1, 0, none⟩) 1 1, .slice none 0 0, .slice none 0 0] 34)) := (Below.refl _ _).alloc (Nat.le_refl _) _
  have e : (w.alloc (.cells #[.int .i64 2, .slice (some ⟨w.heap.size + 1, 0, none⟩) 1 1, .slice none 0 0, .slice none 0 0] 34)).heap.size = w.heap.size + 1 := by simp
  refine ⟨_, rfl, ⟨by unfold maxLen; omega, rfl, tcells_one _, some ⟨w.heap.size + 1, 0, none⟩, 1, rfl, fun h => (by cases h), fun _ => ⟨w.heap.size + 1, 0, rfl, by simp, fun j u hj => ?_⟩⟩, hB0.alloc hB0.size _⟩
  have := cellNew (w.alloc (.cells #[.int .i64 2, .slice (some ⟨w.heap.size + 1, 0, none⟩) 1 1, .slice none 0 0, .slice none 0 0] 34)) #[.int .i64 0, .int .i64 1] 62 j u (by simpa [tcells] using hj)
  rw [e] at this
  rw [Nat.zero_add]
  exact this

/-- a reception -/
structure Rc where
  id : Int
  to : Int
  kd : Int
  st : Int
  en : Int
  bs : List Nat
def rcV (r : Rc) (v : Value) : Value := .agg #[.int .i64 r.id, .int .i64 r.to, .int .i64 r.kd, .int .i64 r.st, .int .i64 r.en, v]
def sameB (a b : Rc) : Bool := decide (a.id = b.id ∧ a.to = b.to ∧ a.kd = b.kd ∧ a.st = b.st ∧ a.en = b.en ∧ a.bs = b.bs)

set_option maxHeartbeats 1000000 in
theorem same_any (a b : Rc) (va vb : Value) (w : World) (ha : BytesAt w va a.bs) (hb : BytesAt w vb b.bs) :
    Calls Try.prog 27 #[rcV a va, rcV b vb] w fun e w' => e = .returned (.bool (sameB a b)) ∧ Below w.heap.size w w' := by
  obtain ⟨a0, a1, a2, a3, a4, xs⟩ := a
  obtain ⟨b0, b1, b2, b3, b4, ys⟩ := b
  unfold sameB rcV
  simp only at ha hb ⊢
  have hB0 : Below w.heap.size w (w.alloc (.cells #[.int .i64 a0, .int .i64 a1, .int .i64 a2, .int .i64 a3, .int .i64 a4, va] 47)) := (Below.refl _ _).alloc (Nat.le_refl _) _
  have hBW := hB0.alloc hB0.size (.cells #[.int .i64 b0, .int .i64 b1, .int .i64 b2, .int .i64 b3, .int .i64 b4, vb] 47)
  have ca := run_convert_b (P := Try.prog) (ha.below hBW) 22 5 9 Try.underlying22 Try.underlying5 Try.underlying9
  have cb := run_convert_b (P := Try.prog) (hb.below hBW) 22 5 9 Try.underlying22 Try.underlying5 Try.underlying9
  have hq := strB_beqL xs ys ha.2.2 hb.2.2
  have hq2 := strB_beq xs ys ha.2.2 hb.2.2
  obtain ⟨X, hX⟩ : ∃ X, strB xs = X := ⟨_, rfl⟩
  obtain ⟨Y, hY⟩ : ∃ Y, strB ys = Y := ⟨_, rfl⟩
  rw [hX] at ca hq hq2
  rw [hY] at cb hq hq2
  obtain ⟨e, he⟩ : ∃ e, decide (xs = ys) = e := ⟨_, rfl⟩
  rw [he] at hq hq2
  obtain ⟨q, hqq⟩ : ∃ q, decide (a0 = b0 ∧ a1 = b1 ∧ a2 = b2 ∧ a3 = b3 ∧ a4 = b4 ∧ xs = ys) = q := ⟨_, rfl⟩
  rw [hqq]
  have hc : ((a0 == b0) = false ∧ q = false) ∨ ((a0 == b0) = true ∧ (a1 == b1) = false ∧ q = false) ∨ ((a0 == b0) = true ∧ (a1 == b1) = true ∧ (a2 == b2) = false ∧ q = false) ∨ ((a0 == b0) = true ∧ (a1 == b1) = true ∧ (a2 == b2) = true ∧ (a3 == b3) = false ∧ q = false) ∨
      ((a0 == b0) = true ∧ (a1 == b1) = true ∧ (a2 == b2) = true ∧ (a3 == b3) = true ∧ (a4 == b4) = false ∧ q = false) ∨ ((a0 == b0) = true ∧ (a1 == b1) = true ∧ (a2 == b2) = true ∧ (a3 == b3) = true ∧ (a4 == b4) = true ∧ q = e) := by
    rw [← hqq, ← he]
    simp only [beq_iff_eq, beq_eq_false_iff_ne, decide_eq_false_iff_not]
    by_cases g0 : a0 = b0
    · by_cases g1 : a1 = b1
      · by_cases g2 : a2 = b2
        · by_cases g3 : a3 = b3
          · by_cases g4 : a4 = b4
            · simp [g0, g1, g2, g3, g4]
            · simp [g0, g1, g2, g3, g4]
          · simp [g0, g1, g2, g3]
        · simp [g0, g1, g2]
      · simp [g0, g1]
    · simp [g0]
  clear hX hY he hqq ha hb hB0
  rcases hc with ⟨g0, rfl⟩ | ⟨g0, g1, rfl⟩ | ⟨g0, g1, g2, rfl⟩ | ⟨g0, g1, g2, g3, rfl⟩ | ⟨g0, g1, g2, g3, g4, rfl⟩ | ⟨g0, g1, g2, g3, g4, rfl⟩
  all_goals
    go_enter Try.func27, Try.ntmps27
    go_wp2
    go_ret
    exact ⟨rfl, hBW⟩
end Go.Proofs.Ythemdbgcamkecaa
