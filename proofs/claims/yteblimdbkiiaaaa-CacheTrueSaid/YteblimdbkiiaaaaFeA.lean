/- cache: the chapter's example. -/
import Derived.Test.YteblimdbkiiaaaaFdY
import Derived.Test.YteblimdbkiiaaaaFdQ
import Derived.Test.YteblimdbkiiaaaaFdV
import Derived.Test.YteblimdbkiiaaaaFdK
namespace Go.Proofs.Yteblimdbkiiaaaa
open Go.RowKit

theorem CaK.below {w w' : World} {v : Value} {c : Ca} (h : CaK w v c) (hb : Below w.heap.size w w') : CaK w' v c := ⟨h.1.below hb, h.2⟩
theorem CaK.lit {w : World} {v : Value} {c : Ca} (h : CaK w v c) : ∃ a n cp, v = .agg #[.bool c.va, .int .u64 c.ha, .slice a n cp, .bool c.du] := by
  obtain ⟨⟨fv, rfl, _, _, _, ao, cap, rfl, _⟩, _⟩ := h
  exact ⟨_, _, _, rfl⟩
theorem learn_ca (v : Value) (l : List Fd) (hash : Int) (w : World) (h : SR w v l.length 6 (fcells l)) (hn : l.length ≤ 900000) :
    Calls Try.prog 10 #[v, .int .u64 hash] w fun e w' => ∃ v', e = .returned v' ∧ CaK w' v' ⟨true, hash, rlTo l l.length, false⟩ ∧ Below w.heap.size w w' := by
  refine (learn_any v l hash w h (by omega)).mono ?_
  rintro e w' ⟨v', r, rfl, hl, hf, hB⟩
  obtain rfl := learnt_rl hl
  obtain ⟨a, c, rfl⟩ := hf.len
  exact ⟨_, rfl, ⟨⟨_, rfl, hf.sr⟩, ⟨_, _, _, _, _, _, rfl, hf.cap⟩⟩, hB⟩

/-- what is learnt of the example -/
def smL : List Fd := [⟨1, 4, 0, 0, 26392574038016, 9223372588214596859⟩, ⟨2, 0, 3, 0, 46200963207168, 9223372588214596859⟩, ⟨4, 0, 0, 0, 45088566677504, 9223372588214596859⟩]
theorem smp_learnt : rlTo smp 3 = smL := by kernel_rfl
theorem sm_use (d : Bool) : useC ⟨true, 9, smL, d⟩ 26392574038016 9223372588214596859 46200963207168 9223372588214596859 = if d then (0, 21) else (3, 0) := by cases d <;> decide +kernel
theorem sm_cfg (d : Bool) : cfgC ⟨true, 9, smL, d⟩ 3 = if d then (0, 21) else (4, 0) := by cases d <;> decide +kernel
set_option linter.unusedSimpArgs false in
set_option linter.unusedVariables false in
set_option maxRecDepth 100000 in
set_option maxHeartbeats 4000000 in
theorem example_any (w : World) : Calls Try.prog 8 #[] w fun e w' => e = .returned (.bool true) ∧ Below w.heap.size w w' := by
  go_enter Try.func8, Try.ntmps8
  go_wp2_with fail
  go_at_call 27
  refine (sample_any _).mono ?_
  rintro e w1 ⟨a1, c1, rfl, hs1, hB1⟩
  go_wp2_with fail
  go_at_call 10
  refine (learn_ca _ smp 9 _ hs1 (by decide)).mono ?_
  rintro e w2 ⟨v2, rfl, hk2, hB2⟩
  obtain ⟨a2, n2, p2, rfl⟩ := hk2.lit
  rw [show rlTo smp smp.length = smL from smp_learnt] at hk2
  have hBw2 := hB1.trans (hB2.mono hB1.size)
  clear hs1 hB1 hB2
  have T0 := cells_new w2 [.bool true, .int .u64 9, .slice a2 n2 p2, .bool false] 26
  have hB3 := hBw2.alloc hBw2.size (.cells #[.bool true, .int .u64 9, .slice a2 n2 p2, .bool false] 26)
  have hk3 := hk2.below ((Below.refl _ _).alloc (Nat.le_refl _) (.cells #[.bool true, .int .u64 9, .slice a2 n2 p2, .bool false] 26))
  have HK3 := Lib.hid hk3
  clear hk2 hk3
  simp only at HK3
  go_upto_region 2 with fail
  generalize hV : World.alloc _ _ = V at T0 hB3 HK3 ⊢
  clear hV
  go_upto_region 2 with fail
  go_cut [2, 3] (fun a e wx => a = .int .u16 3 ∧ e = .int .i64 0 ∧ Below V.heap.size V wx)
  case first =>
    refine wp_region_held_drew (S := (fun W' : World => Below V.heap.size V W' ∧ V.heap.size ≤ W'.heap.size ∧ Cells W' (blk w2.heap.size 0 0 [.bool true, .int .u64 9, .slice a2 n2 p2, .bool false]))) (by kernel_rfl) (⟨(Below.refl _ _).drew, Nat.le_refl _, T0.drew⟩) (fun hHeld => ?_)
    generalize World.drew _ = wd at hHeld ⊢
    have hz := hHeld.2.1
    refine wpAnyH_take (i := 0) (oi := _) (v := ?_) (by rw [List.getElem?_toArray]; rfl) (by kernel_rfl) (by kernel_rfl) (by kernel_rfl) (by exact fun _ _ _ h => h) (Or.inl ⟨by rfl, ?_⟩) (by assumption) ?_
    rotate_left
    · intro w hSw
      try simp only [Cells, blk, List.cons_append, List.nil_append, and_true, Nat.reduceAdd, Nat.add_zero, Nat.zero_add] at hSw
      go_simp
      try with_reducible rfl
    simp only [Act.put, List.setIfInBounds_toArray, List.set_cons_zero, List.set_cons_succ]
    refine wpAnyH_ready (rs := [1]) (by kernel_rfl) (by simp) (AllReadyH.cons (o := _) (by rw [List.getElem?_toArray]; rfl) (fun K hK => ?_) AllReadyH.nil)
    go_simp
    go_at_call 26
    refine (rshort_a _).mono ?_
    rintro e wb ⟨rfl, hBb⟩
    refine hK.out _ _ (⟨hHeld.1.trans (hBb.mono (by have := hHeld.2.1; omega)), Nat.le_trans hHeld.2.1 hBb.size, hHeld.2.2.keep hBb⟩) (fun hHeld2 => ?_)
    replace hHeld := hHeld2
    clear hK K hHeld2
    try simp only [Act.put, List.setIfInBounds_toArray, List.set_cons_zero, List.set_cons_succ]
    refine wpAnyH_ready (rs := [2]) (by kernel_rfl) (by simp) (AllReadyH.cons (o := _) (by rw [List.getElem?_toArray]; rfl) (fun K hK => ?_) AllReadyH.nil)
    go_simp
    go_at_call 26
    refine (rshort_b _).mono ?_
    rintro e wb ⟨rfl, hBb⟩
    refine hK.out _ _ (⟨hHeld.1.trans (hBb.mono (by have := hHeld.2.1; omega)), Nat.le_trans hHeld.2.1 hBb.size, hHeld.2.2.keep hBb⟩) (fun hHeld2 => ?_)
    replace hHeld := hHeld2
    clear hK K hHeld2
    try simp only [Act.put, List.setIfInBounds_toArray, List.set_cons_zero, List.set_cons_succ]
    refine wpAnyH_ready (rs := [3]) (by kernel_rfl) (by simp) (AllReadyH.cons (o := _) (by rw [List.getElem?_toArray]; rfl) (fun K hK => ?_) AllReadyH.nil)
    go_simp
    go_at_call 16
    refine (use_any _ ⟨true, 9, smL, false⟩ _ _ _ _ _ (HK3.out.below hHeld.1).1 (by decide)).mono ?_
    rw [sm_use]
    rintro e wb ⟨rfl, hBb⟩
    refine hK.out _ _ (⟨hHeld.1.trans (hBb.mono (by have := hHeld.2.1; omega)), Nat.le_trans hHeld.2.1 hBb.size, hHeld.2.2.keep hBb⟩) (fun hHeld2 => ?_)
    replace hHeld := hHeld2
    clear hK K hHeld2
    try simp only [Act.put, List.setIfInBounds_toArray, List.set_cons_zero, List.set_cons_succ]
    refine wpAnyH_take (i := 4) (oi := _) (v := ?_) (by rw [List.getElem?_toArray]; rfl) (by kernel_rfl) (by kernel_rfl) (by kernel_rfl) (by exact fun _ _ _ h => h) (Or.inl ⟨by rfl, ?_⟩) (by assumption) ?_
    rotate_left
    · intro w hSw
      try simp only [Cells, blk, List.cons_append, List.nil_append, and_true, Nat.reduceAdd, Nat.add_zero, Nat.zero_add] at hSw
      go_simp
      try with_reducible rfl
    simp only [Act.put, List.setIfInBounds_toArray, List.set_cons_zero, List.set_cons_succ]
    refine wpAnyH_take (i := 5) (oi := _) (v := ?_) (by rw [List.getElem?_toArray]; rfl) (by kernel_rfl) (by kernel_rfl) (by kernel_rfl) (by exact fun _ _ _ h => h) (Or.inl ⟨by rfl, ?_⟩) (by assumption) ?_
    rotate_left
    · intro w hSw
      try simp only [Cells, blk, List.cons_append, List.nil_append, and_true, Nat.reduceAdd, Nat.add_zero, Nat.zero_add] at hSw
      go_simp
      try with_reducible rfl
    simp only [Act.put, List.setIfInBounds_toArray, List.set_cons_zero, List.set_cons_succ]
    refine wpAnyH_take (i := 6) (oi := _) (v := ?_) (by rw [List.getElem?_toArray]; rfl) (by kernel_rfl) (by kernel_rfl) (by kernel_rfl) (by exact fun _ _ _ h => h) (Or.inl ⟨by rfl, ?_⟩) (by assumption) ?_
    rotate_left
    · intro w hSw
      try simp only [Cells, blk, List.cons_append, List.nil_append, and_true, Nat.reduceAdd, Nat.add_zero, Nat.zero_add] at hSw
      go_simp
      try with_reducible rfl
    simp only [Act.put, List.setIfInBounds_toArray, List.set_cons_zero, List.set_cons_succ]
    refine wpAnyH_take (i := 7) (oi := _) (v := ?_) (by rw [List.getElem?_toArray]; rfl) (by kernel_rfl) (by kernel_rfl) (by kernel_rfl) (by exact fun _ _ _ h => h) (Or.inl ⟨by rfl, ?_⟩) (by assumption) ?_
    rotate_left
    · intro w hSw
      try simp only [Cells, blk, List.cons_append, List.nil_append, and_true, Nat.reduceAdd, Nat.add_zero, Nat.zero_add] at hSw
      go_simp
      try with_reducible rfl
    simp only [Act.put, List.setIfInBounds_toArray, List.set_cons_zero, List.set_cons_succ]
    refine wpAnyH_take (i := 8) (oi := _) (v := ?_) (by rw [List.getElem?_toArray]; rfl) (by kernel_rfl) (by kernel_rfl) (by kernel_rfl) (by exact fun _ _ _ h => h) (Or.inl ⟨by rfl, ?_⟩) (by assumption) ?_
    rotate_left
    · intro w hSw
      try simp only [Cells, blk, List.cons_append, List.nil_append, and_true, Nat.reduceAdd, Nat.add_zero, Nat.zero_add] at hSw
      go_simp
      try with_reducible rfl
    simp only [Act.put, List.setIfInBounds_toArray, List.set_cons_zero, List.set_cons_succ]
    refine wpAnyH_done (by kernel_rfl) ?_ _
    go_wp2_with fail
    go_meet
    exact ⟨rfl, rfl, hHeld.1⟩
  case rest =>
  obtain ⟨rfl, rfl, hB4⟩ := hcut
  rename World => V4
  have T4 := T0.keep hB4
  have hk4 := HK3.out.below hB4
  have hBw4 := hB3.trans (hB4.mono hB3.size)
  have HK4 := Lib.hid hk4
  have HB4 := Lib.hid hBw4
  have hOpen := T4
  simp only [Cells, blk, List.cons_append, List.nil_append, and_true, Nat.reduceAdd, Nat.add_zero, Nat.zero_add] at hOpen
  obtain ⟨m0, m1, m2, m3⟩ := hOpen
  have HT4 := Lib.hid T4
  clear T4 hk4 hB4 hBw4 hB3 T0 HK3 hBw2
  go_wp2_with fail
  go_at_call 18
  refine (cfg_any _ ⟨true, 9, smL, false⟩ _ _ HK4.out (by decide)).mono ?_
  rw [sm_cfg]
  rintro e w5 ⟨rfl, hB5⟩
  have T5 := HT4.out.keep hB5
  have hk5 := HK4.out.below hB5
  have hBw5 := HB4.out.trans (hB5.mono HB4.out.size)
  clear m0 m1 m2 m3 HT4 HK4 HB4 hB5
  have hOpen := T5
  simp only [Cells, blk, List.cons_append, List.nil_append, and_true, Nat.reduceAdd, Nat.add_zero, Nat.zero_add] at hOpen
  obtain ⟨m0, m1, m2, m3⟩ := hOpen
  have HK5 := Lib.hid hk5
  have HB5 := Lib.hid hBw5
  clear T5 hk5 hBw5
  go_wp2_with fail
  go_at_call 14
  refine (doubt_any _ ⟨true, 9, smL, false⟩ _ HK5.out.1 (by decide)).mono ?_
  rintro e w6 ⟨v6, rfl, hk6, hB6⟩
  obtain ⟨a6, n6, p6, rfl⟩ := hk6.lit
  have hBw6 := HB5.out.trans (hB6.mono HB5.out.size)
  clear m0 m1 m2 m3 HK5 HB5 hB6
  simp only [dbtC, Bool.false_or] at hk6 ⊢
  have U0 := cells_new w6 [.bool true, .int .u64 9, .slice a6 n6 p6, .bool true] 26
  have hB7 := hBw6.alloc hBw6.size (.cells #[.bool true, .int .u64 9, .slice a6 n6 p6, .bool true] 26)
  have hk7 := hk6.below ((Below.refl _ _).alloc (Nat.le_refl _) (.cells #[.bool true, .int .u64 9, .slice a6 n6 p6, .bool true] 26))
  have HK7 := Lib.hid hk7
  clear hk6 hk7 hBw6
  go_upto_region 5 with fail
  generalize hV : World.alloc _ _ = V7 at U0 hB7 HK7 ⊢
  clear hV
  go_upto_region 5 with fail
  go_cut [7, 8] (fun a e wx => e = .int .i64 21 ∧ Below V7.heap.size V7 wx)
  case first =>
    refine wp_region_held_drew (S := (fun W' : World => Below V7.heap.size V7 W' ∧ V7.heap.size ≤ W'.heap.size ∧ Cells W' (blk w6.heap.size 0 0 [.bool true, .int .u64 9, .slice a6 n6 p6, .bool true]))) (by kernel_rfl) (⟨(Below.refl _ _).drew, Nat.le_refl _, U0.drew⟩) (fun hHeld => ?_)
    generalize World.drew _ = wd at hHeld ⊢
    have hz := hHeld.2.1
    refine wpAnyH_take (i := 0) (oi := _) (v := ?_) (by rw [List.getElem?_toArray]; rfl) (by kernel_rfl) (by kernel_rfl) (by kernel_rfl) (by exact fun _ _ _ h => h) (Or.inl ⟨by rfl, ?_⟩) (by assumption) ?_
    rotate_left
    · intro w hSw
      try simp only [Cells, blk, List.cons_append, List.nil_append, and_true, Nat.reduceAdd, Nat.add_zero, Nat.zero_add] at hSw
      go_simp
      try with_reducible rfl
    simp only [Act.put, List.setIfInBounds_toArray, List.set_cons_zero, List.set_cons_succ]
    refine wpAnyH_ready (rs := [1]) (by kernel_rfl) (by simp) (AllReadyH.cons (o := _) (by rw [List.getElem?_toArray]; rfl) (fun K hK => ?_) AllReadyH.nil)
    go_simp
    go_at_call 26
    refine (rshort_a _).mono ?_
    rintro e wb ⟨rfl, hBb⟩
    refine hK.out _ _ (⟨hHeld.1.trans (hBb.mono (by have := hHeld.2.1; omega)), Nat.le_trans hHeld.2.1 hBb.size, hHeld.2.2.keep hBb⟩) (fun hHeld2 => ?_)
    replace hHeld := hHeld2
    clear hK K hHeld2
    try simp only [Act.put, List.setIfInBounds_toArray, List.set_cons_zero, List.set_cons_succ]
    refine wpAnyH_ready (rs := [2]) (by kernel_rfl) (by simp) (AllReadyH.cons (o := _) (by rw [List.getElem?_toArray]; rfl) (fun K hK => ?_) AllReadyH.nil)
    go_simp
    go_at_call 26
    refine (rshort_b _).mono ?_
    rintro e wb ⟨rfl, hBb⟩
    refine hK.out _ _ (⟨hHeld.1.trans (hBb.mono (by have := hHeld.2.1; omega)), Nat.le_trans hHeld.2.1 hBb.size, hHeld.2.2.keep hBb⟩) (fun hHeld2 => ?_)
    replace hHeld := hHeld2
    clear hK K hHeld2
    try simp only [Act.put, List.setIfInBounds_toArray, List.set_cons_zero, List.set_cons_succ]
    refine wpAnyH_ready (rs := [3]) (by kernel_rfl) (by simp) (AllReadyH.cons (o := _) (by rw [List.getElem?_toArray]; rfl) (fun K hK => ?_) AllReadyH.nil)
    go_simp
    go_at_call 16
    refine (use_any _ ⟨true, 9, smL, true⟩ _ _ _ _ _ (HK7.out.below hHeld.1).1 (by decide)).mono ?_
    rw [sm_use]
    rintro e wb ⟨rfl, hBb⟩
    refine hK.out _ _ (⟨hHeld.1.trans (hBb.mono (by have := hHeld.2.1; omega)), Nat.le_trans hHeld.2.1 hBb.size, hHeld.2.2.keep hBb⟩) (fun hHeld2 => ?_)
    replace hHeld := hHeld2
    clear hK K hHeld2
    try simp only [Act.put, List.setIfInBounds_toArray, List.set_cons_zero, List.set_cons_succ]
    refine wpAnyH_take (i := 4) (oi := _) (v := ?_) (by rw [List.getElem?_toArray]; rfl) (by kernel_rfl) (by kernel_rfl) (by kernel_rfl) (by exact fun _ _ _ h => h) (Or.inl ⟨by rfl, ?_⟩) (by assumption) ?_
    rotate_left
    · intro w hSw
      try simp only [Cells, blk, List.cons_append, List.nil_append, and_true, Nat.reduceAdd, Nat.add_zero, Nat.zero_add] at hSw
      go_simp
      try with_reducible rfl
    simp only [Act.put, List.setIfInBounds_toArray, List.set_cons_zero, List.set_cons_succ]
    refine wpAnyH_take (i := 5) (oi := _) (v := ?_) (by rw [List.getElem?_toArray]; rfl) (by kernel_rfl) (by kernel_rfl) (by kernel_rfl) (by exact fun _ _ _ h => h) (Or.inl ⟨by rfl, ?_⟩) (by assumption) ?_
    rotate_left
    · intro w hSw
      try simp only [Cells, blk, List.cons_append, List.nil_append, and_true, Nat.reduceAdd, Nat.add_zero, Nat.zero_add] at hSw
      go_simp
      try with_reducible rfl
    simp only [Act.put, List.setIfInBounds_toArray, List.set_cons_zero, List.set_cons_succ]
    refine wpAnyH_take (i := 6) (oi := _) (v := ?_) (by rw [List.getElem?_toArray]; rfl) (by kernel_rfl) (by kernel_rfl) (by kernel_rfl) (by exact fun _ _ _ h => h) (Or.inl ⟨by rfl, ?_⟩) (by assumption) ?_
    rotate_left
    · intro w hSw
      try simp only [Cells, blk, List.cons_append, List.nil_append, and_true, Nat.reduceAdd, Nat.add_zero, Nat.zero_add] at hSw
      go_simp
      try with_reducible rfl
    simp only [Act.put, List.setIfInBounds_toArray, List.set_cons_zero, List.set_cons_succ]
    refine wpAnyH_take (i := 7) (oi := _) (v := ?_) (by rw [List.getElem?_toArray]; rfl) (by kernel_rfl) (by kernel_rfl) (by kernel_rfl) (by exact fun _ _ _ h => h) (Or.inl ⟨by rfl, ?_⟩) (by assumption) ?_
    rotate_left
    · intro w hSw
      try simp only [Cells, blk, List.cons_append, List.nil_append, and_true, Nat.reduceAdd, Nat.add_zero, Nat.zero_add] at hSw
      go_simp
      try with_reducible rfl
    simp only [Act.put, List.setIfInBounds_toArray, List.set_cons_zero, List.set_cons_succ]
    refine wpAnyH_take (i := 8) (oi := _) (v := ?_) (by rw [List.getElem?_toArray]; rfl) (by kernel_rfl) (by kernel_rfl) (by kernel_rfl) (by exact fun _ _ _ h => h) (Or.inl ⟨by rfl, ?_⟩) (by assumption) ?_
    rotate_left
    · intro w hSw
      try simp only [Cells, blk, List.cons_append, List.nil_append, and_true, Nat.reduceAdd, Nat.add_zero, Nat.zero_add] at hSw
      go_simp
      try with_reducible rfl
    simp only [Act.put, List.setIfInBounds_toArray, List.set_cons_zero, List.set_cons_succ]
    refine wpAnyH_done (by kernel_rfl) ?_ _
    go_wp2_with fail
    go_meet
    exact ⟨rfl, hHeld.1⟩
  case rest =>
  obtain ⟨rfl, hB8⟩ := hcut
  rename World => V8
  have T8 := U0.keep hB8
  have hk8 := HK7.out.below hB8
  have hBw8 := hB7.trans (hB8.mono hB7.size)
  have HK8 := Lib.hid hk8
  have HB8 := Lib.hid hBw8
  have hOpen := T8
  simp only [Cells, blk, List.cons_append, List.nil_append, and_true, Nat.reduceAdd, Nat.add_zero, Nat.zero_add] at hOpen
  obtain ⟨m0, m1, m2, m3⟩ := hOpen
  have HT8 := Lib.hid T8
  clear T8 hk8 hB8 hBw8 hB7 U0 HK7
  go_wp2_with fail
  go_at_call 18
  refine (cfg_any _ ⟨true, 9, smL, true⟩ _ _ HK8.out (by decide)).mono ?_
  rw [sm_cfg]
  rintro e w9 ⟨rfl, hB9⟩
  have T9 := HT8.out.keep hB9
  have hk9 := HK8.out.below hB9
  have hBw9 := HB8.out.trans (hB9.mono HB8.out.size)
  clear m0 m1 m2 m3 HT8 HK8 HB8 hB9
  have hOpen := T9
  simp only [Cells, blk, List.cons_append, List.nil_append, and_true, Nat.reduceAdd, Nat.add_zero, Nat.zero_add] at hOpen
  obtain ⟨m0, m1, m2, m3⟩ := hOpen
  have HK9 := Lib.hid hk9
  have HB9 := Lib.hid hBw9
  clear T9 hk9 hBw9
  go_wp2_with fail
  go_at_call 12
  refine (verify_any _ ⟨true, 9, smL, true⟩ 9 _ HK9.out.1 (by decide)).mono ?_
  rintro e w10 ⟨v10, rfl, hk10, hB10⟩
  rw [show verC ⟨true, 9, smL, true⟩ 9 = ⟨true, 9, smL, false⟩ from rfl] at hk10
  have hBw10 := HB9.out.trans (hB10.mono HB9.out.size)
  have HB10 := Lib.hid hBw10
  clear hB10 hBw10 HB9 HK9 m0 m1 m2 m3
  go_wp2_with fail
  go_at_call 18
  refine (cfg_any _ ⟨true, 9, smL, false⟩ _ _ hk10 (by decide)).mono ?_
  rw [sm_cfg]
  rintro e w11 ⟨rfl, hB11⟩
  have hBw11 := HB10.out.trans (hB11.mono HB10.out.size)
  have HB11 := Lib.hid hBw11
  clear hk10 hB11 hBw11 HB10
  go_wp2_with fail
  go_at_call 20
  refine (aware_any 0 false _).mono ?_
  rintro e w12 ⟨rfl, hB12⟩
  have hBw12 := HB11.out.trans (hB12.mono HB11.out.size)
  have HB12 := Lib.hid hBw12
  clear hB12 hBw12 HB11
  go_wp2_with fail
  go_at_call 20
  refine (aware_any 1 false _).mono ?_
  rintro e w13 ⟨rfl, hB13⟩
  have hBw13 := HB12.out.trans (hB13.mono HB12.out.size)
  have HB13 := Lib.hid hBw13
  clear hB13 hBw13 HB12
  go_wp2
  go_ret
  exact ⟨rfl, HB13.out⟩
end Go.Proofs.Yteblimdbkiiaaaa
