/- Walks of assess: tallies in slices: copies, fresh ones, one more packet, halved ones, comparison. -/
import Derived.Test.YtoaiiceglfmfcaaAssA
namespace Go.Proofs.Ytoaiiceglfmfcaa
open Go.RowKit

theorem Try.info_tally : (Try.prog.info? 52).map (fun i => (i.zero, i.size, i.bytes)) = some (some (.agg #[.int .i64 0, .int .i64 0]), 2, 16) := by kernel_rfl
/-- the cells of tallies -/
def tcells : List (Int × Int) → List Value
  | [] => []
  | t :: l => .int .i64 t.1 :: .int .i64 t.2 :: tcells l
theorem tcells_len : ∀ l, (tcells l).length = l.length * 2
  | [] => rfl
  | _ :: l => by simp [tcells, tcells_len l]; omega
theorem tcells_one (l : List (Int × Int)) : ∀ u ∈ tcells l, u.oneCell' = true := by
  induction l with
  | nil => simp [tcells]
  | cons t l ih => simpa [tcells, Value.oneCell'] using ih
theorem tcells_get : ∀ (l : List (Int × Int)) (j : Nat) (h : j < l.length), (tcells l)[j * 2]? = some (.int .i64 l[j].1) ∧ (tcells l)[j * 2 + 1]? = some (.int .i64 l[j].2)
  | t :: l, 0, _ => by simp [tcells]
  | t :: l, j+1, h => by
    have := tcells_get l j (by simpa using h)
    rw [show (j + 1) * 2 = j * 2 + 2 by omega]
    simpa [tcells] using this

theorem Try.guard_tally : Try.prog.eqGuardType Try.prog.depth 52 = false := by kernel_rfl
theorem Try.stood_tally : Try.prog.stoodInHeld 52 = false := by kernel_rfl
theorem Try.fields_tally : Try.prog.underlying 52 = some (.struct (Try.prog.fieldsOf 52)) := by kernel_rfl
theorem run_neq_tally (x1 y1 x2 y2 : Int) (w : World) : (binOp .neq 52 (.agg #[.int .i64 x1, .int .i64 y1]) (.agg #[.int .i64 x2, .int .i64 y2])).run Try.prog w = .ok (.bool (!(x1 == x2 && y1 == y2))) w := by
  rw [run_neq_struct, run_equalIn_agg _ _ _ _ _ Try.fields_tally Try.stood_tally]
  simp [Program.fieldsOf, Try.underlying52, Op.eqFields, go_sem]
  by_cases h1 : x1 = x2 <;> by_cases h2 : y1 = y2 <;> simp [h1, h2]
theorem same_any (v1 v2 : Value) (l1 l2 : List (Int × Int)) (w : World) (h1 : SR w v1 l1.length 2 (tcells l1)) (h2 : SR w v2 l2.length 2 (tcells l2)) :
    Calls Try.prog 29 #[v1, v2] w fun e w' => e = .returned (.bool (l1 == l2)) ∧ Below w.heap.size w w' := by
  obtain ⟨hm1, _, _, a1, c1, rfl, _, hc1⟩ := h1
  obtain ⟨hm2, _, _, a2, c2, rfl, _, hc2⟩ := h2
  unfold maxLen at hm1 hm2
  by_cases hl : l1.length = l2.length
  · obtain ⟨n, hn⟩ : ∃ n, l2.length = n := ⟨_, rfl⟩
    rw [hn] at hl hc2 hm2 ⊢
    rw [hl] at hc1 hm1 ⊢
    have N1 := Lib.hid hl
    have N2 := Lib.hid hn
    clear hl hn
    by_cases h0 : n = 0
    · subst h0
      have e1 : l1 = [] := List.eq_nil_of_length_eq_zero N1.out
      have e2 : l2 = [] := List.eq_nil_of_length_eq_zero N2.out
      subst e1 e2
      clear hc1 hc2
      go_enter Try.func29, Try.ntmps29
      go_wp2
      refine wp_loop_rounds 1 ?_
      rw [rounds_succ]
      go_wp2
      go_ret
      exact ⟨rfl, Below.refl _ _⟩
    · obtain ⟨b1, o1, rfl, hb1, hx1⟩ := hc1 (by omega)
      obtain ⟨b2, o2, rfl, hb2, hx2⟩ := hc2 (by omega)
      clear hc1 hc2
      go_enter Try.func29, Try.ntmps29
      go_wp2
      go_loopw [5] (fun i wr => ∃ k : Nat, k ≤ n ∧ i = .int .i64 k ∧ Hid (l1.take k = l2.take k) ∧ Below w.heap.size w wr) (fun i _ => n - (intOf i).toNat)
      case atStart => exact ⟨0, by omega, rfl, by simp [Hid], Below.refl _ _⟩
      case round =>
        obtain ⟨k, hk, rfl, ht, hB⟩ := hrel
        by_cases hlt : k < n
        · have hk1 : k < l1.length := by rw [N1.out]; exact hlt
          have hk2 : k < l2.length := by rw [N2.out]; exact hlt
          obtain ⟨p1, p2⟩ := tcells_get l1 k hk1
          obtain ⟨p3, p4⟩ := tcells_get l2 k hk2
          have ts1 := List.take_succ_eq_append_getElem hk1
          have ts2 := List.take_succ_eq_append_getElem hk2
          have d1 := (hB.cell (p := ⟨b1, o1 + k * 2, none⟩) hb1).trans (hx1 _ _ p1)
          have d2 := (hB.cell (p := ⟨b1, o1 + k * 2 + 1, none⟩) hb1).trans (hx1 _ _ p2)
          have d3 := (hB.cell (p := ⟨b2, o2 + k * 2, none⟩) hb2).trans (hx2 _ _ p3)
          have d4 := (hB.cell (p := ⟨b2, o2 + k * 2 + 1, none⟩) hb2).trans (hx2 _ _ p4)
          obtain ⟨⟨x1, y1⟩, he1⟩ : ∃ t, l1[k] = t := ⟨_, rfl⟩
          obtain ⟨⟨x2, y2⟩, he2⟩ : ∃ t, l2[k] = t := ⟨_, rfl⟩
          rw [he1] at d1 d2 ts1
          rw [he2] at d3 d4 ts2
          have T1 := Lib.hid ts1
          have T2 := Lib.hid ts2
          have E1 := Lib.hid he1
          have E2 := Lib.hid he2
          clear p1 p2 p3 p4 ts1 ts2 he1 he2
          have hgd := Try.guard_tally
          have hneq := run_neq_tally x1 y1 x2 y2
          obtain ⟨d, hd⟩ : ∃ d, (!(x1 == x2 && y1 == y2)) = d := ⟨_, rfl⟩
          rw [hd] at hneq
          have HD := Lib.hid hd
          clear hd
          cases d
          · have heq : x1 = x2 ∧ y1 = y2 := by simpa using HD.out
            obtain ⟨rfl, rfl⟩ := heq
            go_wp2
            go_quiet (fail)
            go_wp2
            go_roundw
            case rel => exact ⟨k + 1, by omega, by go_num, by unfold Hid at *; rw [T1, T2, ht], below_drewN hB _⟩
            case measure => simp [intOf]; omega
          · have hnq : ¬ (x1 = x2 ∧ y1 = y2) := by have := HD.out; simp at this; omega
            go_wp2
            go_quiet (fail)
            go_wp2
            go_ret
            refine ⟨ret_bool ?_, below_drewN hB _⟩
            symm
            rw [beq_eq_false_iff_ne]
            intro h
            subst h
            have := E1.out.symm.trans E2.out
            simp only [Prod.mk.injEq] at this
            exact hnq this
        · clear hx1 hx2
          go_wp2
          go_ret
          refine ⟨ret_bool ?_, hB⟩
          have e := ht.out
          rw [List.take_of_length_le (by rw [N1.out]; omega), List.take_of_length_le (by rw [N2.out]; omega)] at e
          rw [e]
          simp
  · have hne : (((l1.length : Int)) != (l2.length : Int)) = true := by rw [bne_iff_ne]; omega
    clear hc1 hc2
    go_enter Try.func29, Try.ntmps29
    go_wp2
    go_ret
    exact ⟨ret_bool (by symm; rw [beq_eq_false_iff_ne]; exact fun h => hl (by rw [h])), Below.refl _ _⟩
end Go.Proofs.Ytoaiiceglfmfcaa
