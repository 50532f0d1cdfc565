/- Walks of air: slices.Index and Contains at pairs and losses; InRange. -/
import Derived.Test.YthemdbgcamkecaaAirB
namespace Go.Proofs.Ythemdbgcamkecaa
open Go.RowKit

/-- the cells of pairs -/
def tcells : List (Int × Int) → List Value
  | [] => []
  | t :: l => .int .i64 t.1 :: .int .i64 t.2 :: tcells l
theorem tcells_len : ∀ l, (tcells l).length = l.length * 2
  | [] => rfl
  | _ :: l => by simp [tcells, tcells_len l]; omega
theorem tcells_one (l : List (Int × Int)) : ∀ u ∈ tcells l, u.oneCell' = true := by
  induction l with
  | nil => simp [tcells]
  | cons t l ih => intro u hu; simp [tcells] at hu; rcases hu with rfl | rfl | hu; rfl; rfl; exact ih u hu
theorem tcells_get : ∀ (l : List (Int × Int)) (k : Nat) (h : k < l.length), (tcells l)[k * 2]? = some (.int .i64 l[k].1) ∧ (tcells l)[k * 2 + 1]? = some (.int .i64 l[k].2)
  | t :: l, 0, _ => by simp [tcells]
  | t :: l, k+1, h => by
    have := tcells_get l k (by simpa using h)
    rw [show (k + 1) * 2 = k * 2 + 1 + 1 by omega]
    simpa [tcells] using this

theorem Try.guard_pair : Try.prog.eqGuardType Try.prog.depth 62 = false := by kernel_rfl
theorem Try.stood_pair : Try.prog.stoodInHeld 62 = false := by kernel_rfl
theorem Try.fields_pair : Try.prog.underlying 62 = some (.struct (Try.prog.fieldsOf 62)) := by kernel_rfl
theorem run_eq_pair (x1 y1 x2 y2 : Int) (w : World) : (binOp .eql 62 (.agg #[.int .i64 x1, .int .i64 y1]) (.agg #[.int .i64 x2, .int .i64 y2])).run Try.prog w = .ok (.bool (x1 == x2 && y1 == y2)) w := by
  rw [run_eql_struct, run_equalIn_agg _ _ _ _ _ Try.fields_pair Try.stood_pair]
  simp [Program.fieldsOf, Try.underlying62, Op.eqFields, go_sem]
  by_cases h1 : x1 = x2 <;> by_cases h2 : y1 = y2 <;> simp [h1, h2]

set_option maxHeartbeats 1000000 in
theorem index_pair (v : Value) (l : List (Int × Int)) (x y : Int) (w : World) (h : SR w v l.length 2 (tcells l)) :
    Calls Try.prog 51 #[v, .agg #[.int .i64 x, .int .i64 y]] w fun e w' => ∃ z : Int, e = .returned (.int .i64 z) ∧ decide (0 ≤ z) = l.contains (x, y) ∧ Below w.heap.size w w' := by
  obtain ⟨n, hn⟩ : ∃ n, l.length = n := ⟨_, rfl⟩
  obtain ⟨hm, _, _, ao, cap, rfl, _, hcell⟩ := h
  unfold maxLen at hm
  rw [hn] at hm hcell ⊢
  have HN := Lib.hid hn
  clear hn
  have hgd := Try.guard_pair
  go_enter Try.func51, Try.ntmps51
  go_wp2_with fail
  have k0 := cellNew w #[.int .i64 x, .int .i64 y] 62 0 _ rfl
  have k1 := cellNew w #[.int .i64 x, .int .i64 y] 62 1 _ rfl
  have hBW : Below w.heap.size w (w.alloc (.cells #[.int .i64 x, .int .i64 y] 62)) := (Below.refl _ _).alloc (Nat.le_refl _) _
  generalize hW : w.alloc (.cells _ 62) = W at k0 k1 hBW ⊢
  clear hW
  go_loopw [8, 5] (fun i _ wr => ∃ k : Nat, k ≤ n ∧ i = .int .i64 k ∧ Hid (∀ t ∈ l.take k, t ≠ (x, y)) ∧ Below W.heap.size W wr) (fun i _ _ => n - (intOf i).toNat)
  case atStart => exact ⟨0, by omega, rfl, by intro t ht; simp at ht, Below.refl _ _⟩
  case round =>
    obtain ⟨k, hk, rfl, hall, hB⟩ := hrel
    by_cases hlt : k < n
    · have hkl : k < l.length := by rw [HN.out]; exact hlt
      obtain ⟨b, off, rfl, hb, hx⟩ := hcell (by omega)
      obtain ⟨p1, p2⟩ := tcells_get l k hkl
      have hbW : b < W.heap.size := Nat.lt_of_lt_of_le hb hBW.size
      have d1 := ((hB.cell (p := ⟨b, off + k * 2, none⟩) hbW).trans (hBW.cell (p := ⟨b, off + k * 2, none⟩) hb)).trans (hx _ _ p1)
      have d2 := ((hB.cell (p := ⟨b, off + k * 2 + 1, none⟩) hbW).trans (hBW.cell (p := ⟨b, off + k * 2 + 1, none⟩) hb)).trans (hx _ _ p2)
      have q0 := kc k0 hB
      have q1 := kc k1 hB
      have ts := List.take_succ_eq_append_getElem hkl
      obtain ⟨⟨x2, y2⟩, he⟩ : ∃ t, l[k] = t := ⟨_, rfl⟩
      have hmem : (x2, y2) ∈ l := by rw [← he]; exact List.getElem_mem hkl
      rw [he] at d1 d2 ts
      simp only at d1 d2
      have hq := run_eq_pair x y x2 y2
      obtain ⟨d, hd⟩ : ∃ d, (x == x2 && y == y2) = d := ⟨_, rfl⟩
      rw [hd] at hq
      have HD := Lib.hid hd
      have TS := Lib.hid ts
      have HM := Lib.hid hmem
      have hi0 : (0 : Int) ≤ (k : Int) := by omega
      have hi1 : (k : Int) < (n : Int) := by omega
      clear hd p1 p2 hx he ts hmem hcell k0 k1
      cases d
      · go_wp2_with fail
        go_quiet (fail)
        go_wp2
        go_roundw
        case rel =>
          refine ⟨k + 1, by omega, by go_num, ?_, below_drewN hB _⟩
          intro t ht
          rw [TS.out] at ht
          rcases List.mem_append.1 ht with h1 | h1
          · exact hall.out t h1
          · rw [List.mem_singleton.1 h1]
            intro e
            have := HD.out
            rw [Prod.mk.injEq] at e
            simp [e.1, e.2] at this
        case measure => simp [intOf]; omega
      · go_wp2_with fail
        go_quiet (fail)
        go_wp2
        go_ret
        refine ⟨_, rfl, ?_, hBW.trans (below_drewN (hB.mono hBW.size) _)⟩
        have := HD.out
        simp only [Bool.and_eq_true, beq_iff_eq] at this
        rw [this.1, this.2, List.contains_iff_mem.2 HM.out]
        simp
    · have e : l.take k = l := List.take_of_length_le (by rw [HN.out]; omega)
      have ha := hall.out
      rw [e] at ha
      have HA := Lib.hid ha
      clear ha e hcell k0 k1
      go_wp2
      go_ret
      refine ⟨_, rfl, ?_, hBW.trans (hB.mono hBW.size)⟩
      have : l.contains (x, y) = false := by
        rw [Bool.eq_false_iff]
        intro hc
        exact HA.out _ (List.contains_iff_mem.1 hc) rfl
      rw [this]
      rfl
theorem contains_pair (v : Value) (l : List (Int × Int)) (x y : Int) (w : World) (h : SR w v l.length 2 (tcells l)) :
    Calls Try.prog 36 #[v, .agg #[.int .i64 x, .int .i64 y]] w fun e w' => e = .returned (.bool (l.contains (x, y))) ∧ Below w.heap.size w w' := by
  have hBW : Below w.heap.size w (w.alloc (.cells #[.int .i64 x, .int .i64 y] 62)) := (Below.refl _ _).alloc (Nat.le_refl _) _
  have ci := index_pair v l x y _ (h.below hBW)
  have CI := Lib.hid ci
  clear ci
  go_enter Try.func36, Try.ntmps36
  go_wp2_with fail
  refine CI.out.mono ?_
  rintro e w2 ⟨z, rfl, hz, hB2⟩
  have HZ := Lib.hid hz
  clear hz
  go_wp2
  go_ret
  exact ⟨ret_bool HZ.out, hBW.trans (hB2.mono hBW.size)⟩

theorem Try.guard_loss : Try.prog.eqGuardType Try.prog.depth 66 = false := by kernel_rfl
theorem Try.stood_loss : Try.prog.stoodInHeld 66 = false := by kernel_rfl
theorem Try.fields_loss : Try.prog.underlying 66 = some (.struct (Try.prog.fieldsOf 66)) := by kernel_rfl
theorem run_eq_loss (x1 y1 x2 y2 : Int) (w : World) : (binOp .eql 66 (.agg #[.int .i64 x1, .int .i64 y1]) (.agg #[.int .i64 x2, .int .i64 y2])).run Try.prog w = .ok (.bool (x1 == x2 && y1 == y2)) w := by
  rw [run_eql_struct, run_equalIn_agg _ _ _ _ _ Try.fields_loss Try.stood_loss]
  simp [Program.fieldsOf, Try.underlying66, Op.eqFields, go_sem]
  by_cases h1 : x1 = x2 <;> by_cases h2 : y1 = y2 <;> simp [h1, h2]

set_option maxHeartbeats 1000000 in
theorem index_loss (v : Value) (l : List (Int × Int)) (x y : Int) (w : World) (h : SR w v l.length 2 (tcells l)) :
    Calls Try.prog 52 #[v, .agg #[.int .i64 x, .int .i64 y]] w fun e w' => ∃ z : Int, e = .returned (.int .i64 z) ∧ decide (0 ≤ z) = l.contains (x, y) ∧ Below w.heap.size w w' := by
  obtain ⟨n, hn⟩ : ∃ n, l.length = n := ⟨_, rfl⟩
  obtain ⟨hm, _, _, ao, cap, rfl, _, hcell⟩ := h
  unfold maxLen at hm
  rw [hn] at hm hcell ⊢
  have HN := Lib.hid hn
  clear hn
  have hgd := Try.guard_loss
  go_enter Try.func52, Try.ntmps52
  go_wp2_with fail
  have k0 := cellNew w #[.int .i64 x, .int .i64 y] 66 0 _ rfl
  have k1 := cellNew w #[.int .i64 x, .int .i64 y] 66 1 _ rfl
  have hBW : Below w.heap.size w (w.alloc (.cells #[.int .i64 x, .int .i64 y] 66)) := (Below.refl _ _).alloc (Nat.le_refl _) _
  generalize hW : w.alloc (.cells _ 66) = W at k0 k1 hBW ⊢
  clear hW
  go_loopw [8, 5] (fun i _ wr => ∃ k : Nat, k ≤ n ∧ i = .int .i64 k ∧ Hid (∀ t ∈ l.take k, t ≠ (x, y)) ∧ Below W.heap.size W wr) (fun i _ _ => n - (intOf i).toNat)
  case atStart => exact ⟨0, by omega, rfl, by intro t ht; simp at ht, Below.refl _ _⟩
  case round =>
    obtain ⟨k, hk, rfl, hall, hB⟩ := hrel
    by_cases hlt : k < n
    · have hkl : k < l.length := by rw [HN.out]; exact hlt
      obtain ⟨b, off, rfl, hb, hx⟩ := hcell (by omega)
      obtain ⟨p1, p2⟩ := tcells_get l k hkl
      have hbW : b < W.heap.size := Nat.lt_of_lt_of_le hb hBW.size
      have d1 := ((hB.cell (p := ⟨b, off + k * 2, none⟩) hbW).trans (hBW.cell (p := ⟨b, off + k * 2, none⟩) hb)).trans (hx _ _ p1)
      have d2 := ((hB.cell (p := ⟨b, off + k * 2 + 1, none⟩) hbW).trans (hBW.cell (p := ⟨b, off + k * 2 + 1, none⟩) hb)).trans (hx _ _ p2)
      have q0 := kc k0 hB
      have q1 := kc k1 hB
      have ts := List.take_succ_eq_append_getElem hkl
      obtain ⟨⟨x2, y2⟩, he⟩ : ∃ t, l[k] = t := ⟨_, rfl⟩
      have hmem : (x2, y2) ∈ l := by rw [← he]; exact List.getElem_mem hkl
      rw [he] at d1 d2 ts
      simp only at d1 d2
      have hq := run_eq_loss x y x2 y2
      obtain ⟨d, hd⟩ : ∃ d, (x == x2 && y == y2) = d := ⟨_, rfl⟩
      rw [hd] at hq
      have HD := Lib.hid hd
      have TS := Lib.hid ts
      have HM := Lib.hid hmem
      have hi0 : (0 : Int) ≤ (k : Int) := by omega
      have hi1 : (k : Int) < (n : Int) := by omega
      clear hd p1 p2 hx he ts hmem hcell k0 k1
      cases d
      · go_wp2_with fail
        go_quiet (fail)
        go_wp2
        go_roundw
        case rel =>
          refine ⟨k + 1, by omega, by go_num, ?_, below_drewN hB _⟩
          intro t ht
          rw [TS.out] at ht
          rcases List.mem_append.1 ht with h1 | h1
          · exact hall.out t h1
          · rw [List.mem_singleton.1 h1]
            intro e
            have := HD.out
            rw [Prod.mk.injEq] at e
            simp [e.1, e.2] at this
        case measure => simp [intOf]; omega
      · go_wp2_with fail
        go_quiet (fail)
        go_wp2
        go_ret
        refine ⟨_, rfl, ?_, hBW.trans (below_drewN (hB.mono hBW.size) _)⟩
        have := HD.out
        simp only [Bool.and_eq_true, beq_iff_eq] at this
        rw [this.1, this.2, List.contains_iff_mem.2 HM.out]
        simp
    · have e : l.take k = l := List.take_of_length_le (by rw [HN.out]; omega)
      have ha := hall.out
      rw [e] at ha
      have HA := Lib.hid ha
      clear ha e hcell k0 k1
      go_wp2
      go_ret
      refine ⟨_, rfl, ?_, hBW.trans (hB.mono hBW.size)⟩
      have : l.contains (x, y) = false := by
        rw [Bool.eq_false_iff]
        intro hc
        exact HA.out _ (List.contains_iff_mem.1 hc) rfl
      rw [this]
      rfl
theorem contains_loss (v : Value) (l : List (Int × Int)) (x y : Int) (w : World) (h : SR w v l.length 2 (tcells l)) :
    Calls Try.prog 39 #[v, .agg #[.int .i64 x, .int .i64 y]] w fun e w' => e = .returned (.bool (l.contains (x, y))) ∧ Below w.heap.size w w' := by
  have hBW : Below w.heap.size w (w.alloc (.cells #[.int .i64 x, .int .i64 y] 66)) := (Below.refl _ _).alloc (Nat.le_refl _) _
  have ci := index_loss v l x y _ (h.below hBW)
  have CI := Lib.hid ci
  clear ci
  go_enter Try.func39, Try.ntmps39
  go_wp2_with fail
  refine CI.out.mono ?_
  rintro e w2 ⟨z, rfl, hz, hB2⟩
  have HZ := Lib.hid hz
  clear hz
  go_wp2
  go_ret
  exact ⟨ret_bool HZ.out, hBW.trans (hB2.mono hBW.size)⟩
end Go.Proofs.Ythemdbgcamkecaa
