/- cache: types of attributes, by the database's reference. -/
import Derived.Test.YteblimdbkiiaaaaTrB
namespace Go.Proofs.Yteblimdbkiiaaaa
open Go.RowKit

set_option linter.unusedSimpArgs false in
set_option linter.unusedVariables false in
set_option maxRecDepth 100000 in
set_option maxHeartbeats 2000000 in
theorem is_any (hi lo : Int) (n : Nat) (hn : n < 65536) (w : World) :
    Calls Try.prog 59 #[.agg #[.int .u64 hi, .int .u64 lo], .int .u16 n] w fun e w' => e = .returned (.bool (isU ((n : Int) * 4294967296 + 4096) hi lo)) ∧ Below w.heap.size w w' := by
  have hb0 : Below w.heap.size w (w.alloc (.cells #[.int .u64 hi, .int .u64 lo] 34)) := (Below.refl _ _).alloc (Nat.le_refl _) _
  have T := cells_new w [.int .u64 hi, .int .u64 lo] 34
  have hsh := fun W => rshort_any n hn W
  unfold isU
  obtain ⟨M, hM⟩ : ∃ M : Int, (n : Int) * 4294967296 + 4096 = M := ⟨_, rfl⟩
  obtain ⟨K0, hK0⟩ : ∃ M : Int, (9223372588214596859 : Int) = M := ⟨_, rfl⟩
  rw [hM, hK0]
  simp only [hM, hK0] at hsh
  obtain ⟨c1, hc1⟩ : ∃ c, (hi == M) = c := ⟨_, rfl⟩
  obtain ⟨c2, hc2⟩ : ∃ c, (lo == K0) = c := ⟨_, rfl⟩
  rw [hc1, hc2]
  have HSH := Lib.hid hsh
  clear hsh hM hK0
  cases c1 <;> cases c2
  all_goals
    go_enter Try.func59, Try.ntmps59
    go_upto_region 1 with fail
    generalize hX : w.alloc (.cells _ 34) = X at T hb0 ⊢
    clear hX
    refine wp_region_held_drew (S := (fun W' : World => Cells W' (blk w.heap.size 0 0 [.int .u64 hi, .int .u64 lo]))) (by kernel_rfl) (T.drew) (fun hHeld => ?_)
    refine wpAnyH_take (i := 0) (oi := _) (v := ?_) (by rw [List.getElem?_toArray]; rfl) (by kernel_rfl) (by kernel_rfl) (by kernel_rfl) (by exact fun _ _ _ h => h) (Or.inl ⟨by rfl, ?_⟩) (by assumption) ?_
    rotate_left
    · intro w hSw
      try simp only [Cells, blk, List.cons_append, List.nil_append, and_true, Nat.reduceAdd, Nat.add_zero, Nat.zero_add] at hSw
      go_simp
      try with_reducible rfl
    simp only [Act.put, List.setIfInBounds_toArray, List.set_cons_zero, List.set_cons_succ]
    refine wpAnyH_take (i := 1) (oi := _) (v := ?_) (by rw [List.getElem?_toArray]; rfl) (by kernel_rfl) (by kernel_rfl) (by kernel_rfl) (by exact fun _ _ _ h => h) (Or.inl ⟨by rfl, ?_⟩) (by assumption) ?_
    rotate_left
    · intro w hSw
      try simp only [Cells, blk, List.cons_append, List.nil_append, and_true, Nat.reduceAdd, Nat.add_zero, Nat.zero_add] at hSw
      go_simp
      try with_reducible rfl
    simp only [Act.put, List.setIfInBounds_toArray, List.set_cons_zero, List.set_cons_succ]
    refine wpAnyH_ready (rs := [2]) (by kernel_rfl) (by simp) (AllReadyH.cons (o := _) (by rw [List.getElem?_toArray]; rfl) (fun K hK => ?_) AllReadyH.nil)
    go_simp
    go_at_call 26
    refine (HSH.out _).mono ?_
    rintro e w2 ⟨rfl, hB2⟩
    have T2 := T.keep (((Below.refl _ X).drew).trans hB2)
    have hB3 := hb0.drew.trans (hB2.mono hb0.drew.size)
    clear hHeld
    refine hK.out _ _ (T2) (fun hHeld => ?_)
    clear hK K
    try simp only [Act.put, List.setIfInBounds_toArray, List.set_cons_zero, List.set_cons_succ]
    refine wpAnyH_take (i := 3) (oi := _) (v := ?_) (by rw [List.getElem?_toArray]; rfl) (by kernel_rfl) (by kernel_rfl) (by kernel_rfl) (by exact fun _ _ _ h => h) (Or.inl ⟨by rfl, ?_⟩) (by assumption) ?_
    rotate_left
    · intro w hSw
      try simp only [Cells, blk, List.cons_append, List.nil_append, and_true, Nat.reduceAdd, Nat.add_zero, Nat.zero_add] at hSw
      go_simp
      try with_reducible rfl
    simp only [Act.put, List.setIfInBounds_toArray, List.set_cons_zero, List.set_cons_succ]
    refine wpAnyH_take (i := 4) (oi := _) (v := ?_) (by rw [List.getElem?_toArray]; rfl) (by kernel_rfl) (by kernel_rfl) (by kernel_rfl) (by exact fun _ _ _ h => h) (Or.inl ⟨by rfl, ?_⟩) (by assumption) ?_
    rotate_left
    · intro w hSw
      try simp only [Cells, blk, List.cons_append, List.nil_append, and_true, Nat.reduceAdd, Nat.add_zero, Nat.zero_add] at hSw
      go_simp
      try with_reducible rfl
    simp only [Act.put, List.setIfInBounds_toArray, List.set_cons_zero, List.set_cons_succ]
    refine wpAnyH_done (by kernel_rfl) ?_ _
    go_wp2
    go_ret
    exact ⟨ret_bool rfl, hB3⟩
theorem is_p (hi lo : Int) (w : World) : Calls Try.prog 59 #[.agg #[.int .u64 hi, .int .u64 lo], .int .u16 10240] w fun e w' => e = .returned (.bool (isU 43980465115136 hi lo)) ∧ Below w.heap.size w w' := is_any hi lo 10240 (by decide) w
theorem is_s (hi lo : Int) (w : World) : Calls Try.prog 59 #[.agg #[.int .u64 hi, .int .u64 lo], .int .u16 10241] w fun e w' => e = .returned (.bool (isU 43984760082432 hi lo)) ∧ Below w.heap.size w w' := is_any hi lo 10241 (by decide) w
theorem is_i (hi lo : Int) (w : World) : Calls Try.prog 59 #[.agg #[.int .u64 hi, .int .u64 lo], .int .u16 10242] w fun e w' => e = .returned (.bool (isU 43989055049728 hi lo)) ∧ Below w.heap.size w w' := is_any hi lo 10242 (by decide) w
theorem is_c (hi lo : Int) (w : World) : Calls Try.prog 59 #[.agg #[.int .u64 hi, .int .u64 lo], .int .u16 10243] w fun e w' => e = .returned (.bool (isU 43993350017024 hi lo)) ∧ Below w.heap.size w w' := is_any hi lo 10243 (by decide) w
theorem is_g (hi lo : Int) (w : World) : Calls Try.prog 59 #[.agg #[.int .u64 hi, .int .u64 lo], .int .u16 10498] w fun e w' => e = .returned (.bool (isU 45088566677504 hi lo)) ∧ Below w.heap.size w w' := is_any hi lo 10498 (by decide) w
set_option linter.unusedSimpArgs false in
set_option linter.unusedVariables false in
set_option maxRecDepth 100000 in
set_option maxHeartbeats 2000000 in
theorem isCh_any (ha hi lo pe : Int) (bv : Value) (w : World) : Calls Try.prog 48 #[.agg #[.int .u16 ha, .int .u64 hi, .int .u64 lo, .int .i64 pe, bv]] w fun e w' => e = .returned (.bool (chU hi lo)) ∧ Below w.heap.size w w' := by
  have hb0 : Below w.heap.size w (w.alloc (.cells #[.int .u16 ha, .int .u64 hi, .int .u64 lo, .int .i64 pe, bv] 58)) := (Below.refl _ _).alloc (Nat.le_refl _) _
  unfold chU
  obtain ⟨B, hB⟩ : ∃ B, isU 43993350017024 hi lo = B := ⟨_, rfl⟩
  have h1 := fun W => is_c hi lo W
  simp only [hB] at h1
  rw [hB]
  have H1 := Lib.hid h1
  clear h1 hB
  go_enter Try.func48, Try.ntmps48
  go_wp2_with fail
  refine (H1.out _).mono ?_
  rintro e w2 ⟨rfl, hB2⟩
  go_wp2
  go_ret
  exact ⟨rfl, hb0.trans (hB2.mono hb0.size)⟩
set_option linter.unusedSimpArgs false in
set_option linter.unusedVariables false in
set_option maxRecDepth 100000 in
set_option maxHeartbeats 2000000 in
theorem isSv_any (ha hi lo pe : Int) (bv : Value) (w : World) : Calls Try.prog 49 #[.agg #[.int .u16 ha, .int .u64 hi, .int .u64 lo, .int .i64 pe, bv]] w fun e w' => e = .returned (.bool (svU hi lo)) ∧ Below w.heap.size w w' := by
  have hb0 : Below w.heap.size w (w.alloc (.cells #[.int .u16 ha, .int .u64 hi, .int .u64 lo, .int .i64 pe, bv] 58)) := (Below.refl _ _).alloc (Nat.le_refl _) _
  have T := cells_new w [.int .u16 ha, .int .u64 hi, .int .u64 lo, .int .i64 pe, bv] 58
  unfold svU
  obtain ⟨B, hB⟩ : ∃ B, isU 43980465115136 hi lo = B := ⟨_, rfl⟩
  obtain ⟨C, hC⟩ : ∃ C, isU 43984760082432 hi lo = C := ⟨_, rfl⟩
  have h1 := fun W => is_p hi lo W
  have h2 := fun W => is_s hi lo W
  simp only [hB] at h1
  simp only [hC] at h2
  rw [hB, hC]
  have H1 := Lib.hid h1
  have H2 := Lib.hid h2
  have HT := Lib.hid T
  clear h1 h2 hB hC T
  cases B with
  | true =>
    go_enter Try.func49, Try.ntmps49
    go_wp2_with fail
    refine (H1.out _).mono ?_
    rintro e w2 ⟨rfl, hB2⟩
    go_wp2
    go_ret
    exact ⟨rfl, hb0.trans (hB2.mono hb0.size)⟩
  | false =>
    go_enter Try.func49, Try.ntmps49
    go_wp2_with fail
    refine (H1.out _).mono ?_
    rintro e w2 ⟨rfl, hB2⟩
    have T2 := HT.out.keep hB2
    have hOpen := T2
    simp only [Cells, blk, List.cons_append, List.nil_append, and_true, Nat.reduceAdd, Nat.add_zero, Nat.zero_add] at hOpen
    obtain ⟨m0, m1, m2, m3, m4⟩ := hOpen
    have hB3 := hb0.trans (hB2.mono hb0.size)
    clear T2 hB2
    go_wp2_with fail
    refine (H2.out _).mono ?_
    rintro e w3 ⟨rfl, hB4⟩
    clear m0 m1 m2 m3 m4
    go_wp2
    go_ret
    exact ⟨rfl, hB3.trans (hB4.mono hB3.size)⟩
set_option linter.unusedSimpArgs false in
set_option linter.unusedVariables false in
set_option maxRecDepth 100000 in
set_option maxHeartbeats 2000000 in
theorem declares_any (hi lo : Int) (w : World) : Calls Try.prog 57 #[.agg #[.int .u64 hi, .int .u64 lo]] w fun e w' => e = .returned (.bool (dcU hi lo)) ∧ Below w.heap.size w w' := by
  have hb0 : Below w.heap.size w (w.alloc (.cells #[.int .u64 hi, .int .u64 lo] 34)) := (Below.refl _ _).alloc (Nat.le_refl _) _
  have T := cells_new w [.int .u64 hi, .int .u64 lo] 34
  unfold dcU
  obtain ⟨B0, hB0⟩ : ∃ B, isU 43980465115136 hi lo = B := ⟨_, rfl⟩
  have h0 := fun W => is_p hi lo W
  simp only [hB0] at h0
  rw [hB0]
  have H0 := Lib.hid h0
  clear h0 hB0
  obtain ⟨B1, hB1⟩ : ∃ B, isU 43984760082432 hi lo = B := ⟨_, rfl⟩
  have h1 := fun W => is_s hi lo W
  simp only [hB1] at h1
  rw [hB1]
  have H1 := Lib.hid h1
  clear h1 hB1
  obtain ⟨B2, hB2⟩ : ∃ B, isU 43989055049728 hi lo = B := ⟨_, rfl⟩
  have h2 := fun W => is_i hi lo W
  simp only [hB2] at h2
  rw [hB2]
  have H2 := Lib.hid h2
  clear h2 hB2
  obtain ⟨B3, hB3⟩ : ∃ B, isU 43993350017024 hi lo = B := ⟨_, rfl⟩
  have h3 := fun W => is_c hi lo W
  simp only [hB3] at h3
  rw [hB3]
  have H3 := Lib.hid h3
  clear h3 hB3
  have HT := Lib.hid T
  clear T
  cases B0 with
  | true =>
    go_enter Try.func57, Try.ntmps57
    go_wp2_with fail
    refine (H0.out _).mono ?_
    rintro e w2 ⟨rfl, hC0⟩
    have hD0 := hb0.trans (hC0.mono hb0.size)
    go_wp2
    go_ret
    exact ⟨rfl, hD0⟩
  | false =>
  cases B1 with
  | true =>
    go_enter Try.func57, Try.ntmps57
    go_wp2_with fail
    refine (H0.out _).mono ?_
    rintro e w2 ⟨rfl, hC0⟩
    have hD0 := hb0.trans (hC0.mono hb0.size)
    have hK0 := hC0
    have T0 := HT.out.keep hK0
    have hOpen := T0
    simp only [Cells, blk, List.cons_append, List.nil_append, and_true, Nat.reduceAdd, Nat.add_zero, Nat.zero_add] at hOpen
    obtain ⟨m0a, m0b⟩ := hOpen
    clear T0 hC0
    go_wp2_with fail
    refine (H1.out _).mono ?_
    rintro e w3 ⟨rfl, hC1⟩
    have hD1 := hD0.trans (hC1.mono hD0.size)
    go_wp2
    go_ret
    exact ⟨rfl, hD1⟩
  | false =>
  cases B2 with
  | true =>
    go_enter Try.func57, Try.ntmps57
    go_wp2_with fail
    refine (H0.out _).mono ?_
    rintro e w2 ⟨rfl, hC0⟩
    have hD0 := hb0.trans (hC0.mono hb0.size)
    have hK0 := hC0
    have T0 := HT.out.keep hK0
    have hOpen := T0
    simp only [Cells, blk, List.cons_append, List.nil_append, and_true, Nat.reduceAdd, Nat.add_zero, Nat.zero_add] at hOpen
    obtain ⟨m0a, m0b⟩ := hOpen
    clear T0 hC0
    go_wp2_with fail
    refine (H1.out _).mono ?_
    rintro e w3 ⟨rfl, hC1⟩
    have hD1 := hD0.trans (hC1.mono hD0.size)
    have hK1 := hK0.trans (hC1.mono hK0.size)
    have T1 := HT.out.keep hK1
    have hOpen := T1
    simp only [Cells, blk, List.cons_append, List.nil_append, and_true, Nat.reduceAdd, Nat.add_zero, Nat.zero_add] at hOpen
    obtain ⟨m1a, m1b⟩ := hOpen
    clear T1 hC1
    clear m0a m0b
    go_wp2_with fail
    refine (H2.out _).mono ?_
    rintro e w4 ⟨rfl, hC2⟩
    have hD2 := hD1.trans (hC2.mono hD1.size)
    go_wp2
    go_ret
    exact ⟨rfl, hD2⟩
  | false =>
  go_enter Try.func57, Try.ntmps57
  go_wp2_with fail
  refine (H0.out _).mono ?_
  rintro e w2 ⟨rfl, hC0⟩
  have hD0 := hb0.trans (hC0.mono hb0.size)
  have hK0 := hC0
  have T0 := HT.out.keep hK0
  have hOpen := T0
  simp only [Cells, blk, List.cons_append, List.nil_append, and_true, Nat.reduceAdd, Nat.add_zero, Nat.zero_add] at hOpen
  obtain ⟨m0a, m0b⟩ := hOpen
  clear T0 hC0
  go_wp2_with fail
  refine (H1.out _).mono ?_
  rintro e w3 ⟨rfl, hC1⟩
  have hD1 := hD0.trans (hC1.mono hD0.size)
  have hK1 := hK0.trans (hC1.mono hK0.size)
  have T1 := HT.out.keep hK1
  have hOpen := T1
  simp only [Cells, blk, List.cons_append, List.nil_append, and_true, Nat.reduceAdd, Nat.add_zero, Nat.zero_add] at hOpen
  obtain ⟨m1a, m1b⟩ := hOpen
  clear T1 hC1
  clear m0a m0b
  go_wp2_with fail
  refine (H2.out _).mono ?_
  rintro e w4 ⟨rfl, hC2⟩
  have hD2 := hD1.trans (hC2.mono hD1.size)
  have hK2 := hK1.trans (hC2.mono hK1.size)
  have T2 := HT.out.keep hK2
  have hOpen := T2
  simp only [Cells, blk, List.cons_append, List.nil_append, and_true, Nat.reduceAdd, Nat.add_zero, Nat.zero_add] at hOpen
  obtain ⟨m2a, m2b⟩ := hOpen
  clear T2 hC2
  clear m1a m1b
  go_wp2_with fail
  refine (H3.out _).mono ?_
  rintro e w5 ⟨rfl, hC3⟩
  have hD3 := hD2.trans (hC3.mono hD2.size)
  go_wp2
  go_ret
  exact ⟨rfl, hD3⟩
set_option linter.unusedSimpArgs false in
set_option linter.unusedVariables false in
set_option maxRecDepth 100000 in
set_option maxHeartbeats 2000000 in
theorem kept_any (hi lo : Int) (w : World) : Calls Try.prog 65 #[.agg #[.int .u64 hi, .int .u64 lo]] w fun e w' => e = .returned (.bool (kpU hi lo)) ∧ Below w.heap.size w w' := by
  have hb0 : Below w.heap.size w (w.alloc (.cells #[.int .u64 hi, .int .u64 lo] 34)) := (Below.refl _ _).alloc (Nat.le_refl _) _
  have T := cells_new w [.int .u64 hi, .int .u64 lo] 34
  unfold kpU
  obtain ⟨B0, hB0⟩ : ∃ B, dcU hi lo = B := ⟨_, rfl⟩
  have h0 := fun W => declares_any hi lo W
  simp only [hB0] at h0
  rw [hB0]
  have H0 := Lib.hid h0
  clear h0 hB0
  obtain ⟨B1, hB1⟩ : ∃ B, cfU hi lo = B := ⟨_, rfl⟩
  have h1 : ∀ W, Calls Try.prog 59 #[.agg #[.int .u64 hi, .int .u64 lo], .int .u16 10498] W fun e w' => e = .returned (.bool (cfU hi lo)) ∧ Below W.heap.size W w' := fun W => is_g hi lo W
  simp only [hB1] at h1
  rw [hB1]
  have H1 := Lib.hid h1
  clear h1 hB1
  have HT := Lib.hid T
  clear T
  cases B0 with
  | true =>
    go_enter Try.func65, Try.ntmps65
    go_wp2_with fail
    refine (H0.out _).mono ?_
    rintro e w2 ⟨rfl, hC0⟩
    have hD0 := hb0.trans (hC0.mono hb0.size)
    go_wp2
    go_ret
    exact ⟨rfl, hD0⟩
  | false =>
  go_enter Try.func65, Try.ntmps65
  go_wp2_with fail
  refine (H0.out _).mono ?_
  rintro e w2 ⟨rfl, hC0⟩
  have hD0 := hb0.trans (hC0.mono hb0.size)
  have hK0 := hC0
  have T0 := HT.out.keep hK0
  have hOpen := T0
  simp only [Cells, blk, List.cons_append, List.nil_append, and_true, Nat.reduceAdd, Nat.add_zero, Nat.zero_add] at hOpen
  obtain ⟨m0a, m0b⟩ := hOpen
  clear T0 hC0
  go_wp2_with fail
  refine (H1.out _).mono ?_
  rintro e w3 ⟨rfl, hC1⟩
  have hD1 := hD0.trans (hC1.mono hD0.size)
  go_wp2
  go_ret
  exact ⟨rfl, hD1⟩
end Go.Proofs.Yteblimdbkiiaaaa
