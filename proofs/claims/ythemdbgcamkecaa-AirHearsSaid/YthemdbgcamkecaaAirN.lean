/- Walks of air: Own, slices.Clone. -/
import Derived.Test.YthemdbgcamkecaaAirK
import Derived.Test.YthemdbgcamkecaaFresh
namespace Go.Proofs.Ythemdbgcamkecaa
open Go.RowKit

theorem Try.info_pair : (Try.prog.info? 62).map (fun i => (i.zero, i.size, i.bytes)) = some (some (.agg #[.int .i64 0, .int .i64 0]), 2, 16) := by kernel_rfl
theorem Try.info_jam : (Try.prog.info? 64).map (fun i => (i.zero, i.size, i.bytes)) = some (some (.agg #[.int .i64 0, .int .i64 0, .int .i64 0]), 3, 24) := by kernel_rfl
theorem Try.info_loss : (Try.prog.info? 66).map (fun i => (i.zero, i.size, i.bytes)) = some (some (.agg #[.int .i64 0, .int .i64 0]), 2, 16) := by kernel_rfl
theorem Try.info_byte : (Try.prog.info? 5).map (fun i => (i.zero, i.size, i.bytes)) = some (some (.int .u8 0), 1, 1) := by kernel_rfl

theorem Cells.setCell {W : World} {p : Addr} : ∀ {l : List (Nat × Nat × Value)}, Cells W l → (∀ x ∈ l, x.1 ≠ p.block) → ∀ u, Cells (W.setCell p u) l
  | [], _, _, _ => trivial
  | (b, o, v) :: l, h, hne, u => ⟨(World.cell?_of_block (a := ⟨b, o, none⟩) (Below.heap_setCell _ _ _ _ (hne (b, o, v) (by simp)))).trans h.1, Cells.setCell h.2 (fun x hx => hne x (by simp [hx])) u⟩

set_option linter.unusedSimpArgs false in
set_option linter.unusedVariables false in
set_option maxHeartbeats 4000000 in
theorem own_any (d : Int) (lv jv sv : Value) (ls : List (Int × Int)) (js : List (Int × Int × Int)) (ss : List (Int × Int)) (w : World)
    (h1 : SR w lv ls.length 2 (tcells ls)) (h2 : SR w jv js.length 3 (jcells js)) (h3 : SR w sv ss.length 2 (tcells ss))
    (b1 : ls.length * 16 ≤ 140737488355328) (b2 : js.length * 24 ≤ 140737488355328) (b3 : ss.length * 16 ≤ 140737488355328) :
    Calls Try.prog 18 #[.agg #[.int .i64 d, lv, jv, sv]] w
      fun e w' => ∃ lv' jv' sv', e = .returned (.agg #[.int .i64 d, lv', jv', sv']) ∧ SRO w.heap.size w' lv' ls.length 2 (tcells ls) ∧ SRO w.heap.size w' jv' js.length 3 (jcells js) ∧ SRO w.heap.size w' sv' ss.length 2 (tcells ss) ∧ Below w.heap.size w w' := by
  obtain ⟨i1, hi1, hz1, hs1, hb1⟩ := info_parts Try.info_pair
  obtain ⟨i2, hi2, hz2, hs2, hb2⟩ := info_parts Try.info_jam
  obtain ⟨i3, hi3, hz3, hs3, hb3⟩ := info_parts Try.info_loss
  have H1 := Lib.hid h1
  have H2 := Lib.hid h2
  have H3 := Lib.hid h3
  have hb0 : Below w.heap.size w (w.alloc (.cells #[.int .i64 d, lv, jv, sv] 34)) := (Below.refl _ _).alloc (Nat.le_refl _) _
  have T0 := cells_new w [.int .i64 d, lv, jv, sv] 34
  have hBW := hb0.alloc hb0.size (.cells #[.int .i64 0, .slice none 0 0, .slice none 0 0, .slice none 0 0] 34)
  have T := T0.keep ((Below.refl _ _).alloc (Nat.le_refl _) (.cells #[.int .i64 0, .slice none 0 0, .slice none 0 0, .slice none 0 0] 34))
  have hblk := heap_alloc_new (w.alloc (.cells #[.int .i64 d, lv, jv, sv] 34)) (.cells #[.int .i64 0, .slice none 0 0, .slice none 0 0, .slice none 0 0] 34)
  have e1 : (w.alloc (.cells #[.int .i64 d, lv, jv, sv] 34)).heap.size = w.heap.size + 1 := by simp
  have hsz : w.heap.size + 2 ≤ ((w.alloc (.cells #[.int .i64 d, lv, jv, sv] 34)).alloc (.cells #[.int .i64 0, .slice none 0 0, .slice none 0 0, .slice none 0 0] 34)).heap.size := by simp
  rw [e1] at hblk
  clear h1 h2 h3 T0 hb0 e1
  go_enter Try.func18, Try.ntmps18
  go_wp2_with fail
  generalize hW : (w.alloc (.cells _ 34)).alloc (.cells _ 34) = W at T hBW hblk hsz ⊢
  clear hW
  refine wp_region_held_drew (S := (fun W' : World => Below w.heap.size w W' ∧ w.heap.size + 2 ≤ W'.heap.size ∧ Cells W' (blk w.heap.size 0 0 [.int .i64 d, lv, jv, sv]))) (by kernel_rfl) (⟨hBW.drew, hsz, T.drew⟩) (fun hHeld => ?_)
  refine wpAnyH_take (i := 0) (oi := _) (v := ?_) (by rw [List.getElem?_toArray]; rfl) (by kernel_rfl) (by kernel_rfl) (by kernel_rfl) (by exact fun _ _ _ h => h) (Or.inl ⟨by rfl, ?_⟩) (by assumption) ?_
  rotate_left
  · intro w hSw
    try simp only [Cells, blk, List.cons_append, List.nil_append, and_true, Nat.reduceAdd, Nat.add_zero, Nat.zero_add] at hSw
    go_simp
    try with_reducible rfl
  simp only [Act.put, List.setIfInBounds_toArray, List.set_cons_zero, List.set_cons_succ]
  refine wpAnyH_take (i := 1) (oi := _) (v := ?_) (by rw [List.getElem?_toArray]; rfl) (by kernel_rfl) (by kernel_rfl) (by kernel_rfl) (by exact fun _ _ _ h => h) (Or.inl ⟨by rfl, ?_⟩) (by assumption) ?_
  rotate_left
  · intro w hSw
    try simp only [Cells, blk, List.cons_append, List.nil_append, and_true, Nat.reduceAdd, Nat.add_zero, Nat.zero_add] at hSw
    go_simp
    try with_reducible rfl
  simp only [Act.put, List.setIfInBounds_toArray, List.set_cons_zero, List.set_cons_succ]
  refine wpAnyH_take (i := 3) (oi := _) (v := ?_) (by rw [List.getElem?_toArray]; rfl) (by kernel_rfl) (by kernel_rfl) (by kernel_rfl) (by exact fun _ _ _ h => h) (Or.inl ⟨by rfl, ?_⟩) (by assumption) ?_
  rotate_left
  · intro w hSw
    try simp only [Cells, blk, List.cons_append, List.nil_append, and_true, Nat.reduceAdd, Nat.add_zero, Nat.zero_add] at hSw
    go_simp
    try with_reducible rfl
  simp only [Act.put, List.setIfInBounds_toArray, List.set_cons_zero, List.set_cons_succ]
  refine wpAnyH_take (i := 4) (oi := _) (v := ?_) (by rw [List.getElem?_toArray]; rfl) (by kernel_rfl) (by kernel_rfl) (by kernel_rfl) (by exact fun _ _ _ h => h) (Or.inl ⟨by rfl, ?_⟩) (by assumption) ?_
  rotate_left
  · intro w hSw
    try simp only [Cells, blk, List.cons_append, List.nil_append, and_true, Nat.reduceAdd, Nat.add_zero, Nat.zero_add] at hSw
    go_simp
    try with_reducible rfl
  simp only [Act.put, List.setIfInBounds_toArray, List.set_cons_zero, List.set_cons_succ]
  refine wpAnyH_take (i := 7) (oi := _) (v := ?_) (by rw [List.getElem?_toArray]; rfl) (by kernel_rfl) (by kernel_rfl) (by kernel_rfl) (by exact fun _ _ _ h => h) (Or.inl ⟨by rfl, ?_⟩) (by assumption) ?_
  rotate_left
  · intro w hSw
    try simp only [Cells, blk, List.cons_append, List.nil_append, and_true, Nat.reduceAdd, Nat.add_zero, Nat.zero_add] at hSw
    go_simp
    try with_reducible rfl
  simp only [Act.put, List.setIfInBounds_toArray, List.set_cons_zero, List.set_cons_succ]
  refine wpAnyH_take (i := 8) (oi := _) (v := ?_) (by rw [List.getElem?_toArray]; rfl) (by kernel_rfl) (by kernel_rfl) (by kernel_rfl) (by exact fun _ _ _ h => h) (Or.inl ⟨by rfl, ?_⟩) (by assumption) ?_
  rotate_left
  · intro w hSw
    try simp only [Cells, blk, List.cons_append, List.nil_append, and_true, Nat.reduceAdd, Nat.add_zero, Nat.zero_add] at hSw
    go_simp
    try with_reducible rfl
  simp only [Act.put, List.setIfInBounds_toArray, List.set_cons_zero, List.set_cons_succ]
  refine wpAnyH_take (i := 11) (oi := _) (v := ?_) (by rw [List.getElem?_toArray]; rfl) (by kernel_rfl) (by kernel_rfl) (by kernel_rfl) (by exact fun _ _ _ h => h) (Or.inl ⟨by rfl, ?_⟩) (by assumption) ?_
  rotate_left
  · intro w hSw
    try simp only [Cells, blk, List.cons_append, List.nil_append, and_true, Nat.reduceAdd, Nat.add_zero, Nat.zero_add] at hSw
    go_simp
    try with_reducible rfl
  simp only [Act.put, List.setIfInBounds_toArray, List.set_cons_zero, List.set_cons_succ]
  refine wpAnyH_take (i := 12) (oi := _) (v := ?_) (by rw [List.getElem?_toArray]; rfl) (by kernel_rfl) (by kernel_rfl) (by kernel_rfl) (by exact fun _ _ _ h => h) (Or.inl ⟨by rfl, ?_⟩) (by assumption) ?_
  rotate_left
  · intro w hSw
    try simp only [Cells, blk, List.cons_append, List.nil_append, and_true, Nat.reduceAdd, Nat.add_zero, Nat.zero_add] at hSw
    go_simp
    try with_reducible rfl
  simp only [Act.put, List.setIfInBounds_toArray, List.set_cons_zero, List.set_cons_succ]
  refine wpAnyH_ready (rs := [2, 6, 10]) (by kernel_rfl) (by simp) (AllReadyH.cons (o := _) (by rw [List.getElem?_toArray]; rfl) (fun K hK => ?_) (AllReadyH.cons (o := _) (by rw [List.getElem?_toArray]; rfl) (fun K hK => ?_) (AllReadyH.cons (o := _) (by rw [List.getElem?_toArray]; rfl) (fun K hK => ?_) AllReadyH.nil)))
  · go_simp
    refine hK.out _ _ (⟨hHeld.1.alloc hHeld.1.size _, Nat.le_trans hHeld.2.1 (by simp), hHeld.2.2.keep ((Below.refl _ _).alloc (Nat.le_refl _) _)⟩) (fun hHeld2 => ?_)
    replace hHeld := hHeld2
    clear hK K hHeld2
    try simp only [Act.put, List.setIfInBounds_toArray, List.set_cons_zero, List.set_cons_succ]
    have hz := hHeld.2.1
    try simp at hz
    replace hblk := (Below.heap_alloc _ (.cells #[] 62) _ (by (try simp); omega)).trans hblk
    try replace r5 := r5.alloc (.cells #[] 62)
    try replace r9 := r9.alloc (.cells #[] 62)
    refine wpAnyH_ready (rs := [5, 6, 10]) (by kernel_rfl) (by simp) (AllReadyH.cons (o := _) (by rw [List.getElem?_toArray]; rfl) (fun K hK => ?_) (AllReadyH.cons (o := _) (by rw [List.getElem?_toArray]; rfl) (fun K hK => ?_) (AllReadyH.cons (o := _) (by rw [List.getElem?_toArray]; rfl) (fun K hK => ?_) AllReadyH.nil)))
    · refine step_append_empty (by rfl) _ _ 30 (by rfl) 62 i1 _ 2 16 Try.underlying30 hi1 hz1 hs1 hb1 rfl (by decide) _ (by rfl) lv _ (tcells ls) (by rfl) (H1.out.below hHeld.1) b1 ?_
      intro v5 w5 r5 hB5 ho5 hn5
      have o5 : Own (w.heap.size + 2) v5 := by
        intro k hk
        have hq := hHeld.2.1
        try simp at hq
        rcases ho5 with h | h <;> (rw [h] at hk; simp at hk; omega)
      replace r5 : SRO (w.heap.size + 2) w5 v5 _ _ _ := ⟨r5, o5⟩
      obtain ⟨a5, c5, rfl⟩ := r5.1.val
      clear ho5 o5
      refine hK.out _ _ (⟨hHeld.1.trans (hB5.mono hHeld.1.size), Nat.le_trans hHeld.2.1 hB5.size, hHeld.2.2.keep hB5⟩) (fun hHeld2 => ?_)
      replace hHeld := hHeld2
      clear hK K hHeld2
      try simp only [Act.put, List.setIfInBounds_toArray, List.set_cons_zero, List.set_cons_succ]
      have hz := hHeld.2.1
      replace hblk := (hB5.block _ (by (try simp); omega)).trans hblk
      try simp at hz
      refine wpAnyH_ready (rs := [6, 10]) (by kernel_rfl) (by simp) (AllReadyH.cons (o := _) (by rw [List.getElem?_toArray]; rfl) (fun K hK => ?_) (AllReadyH.cons (o := _) (by rw [List.getElem?_toArray]; rfl) (fun K hK => ?_) AllReadyH.nil))
      · go_simp
        refine hK.out _ _ (⟨hHeld.1.alloc hHeld.1.size _, Nat.le_trans hHeld.2.1 (by simp), hHeld.2.2.keep ((Below.refl _ _).alloc (Nat.le_refl _) _)⟩) (fun hHeld2 => ?_)
        replace hHeld := hHeld2
        clear hK K hHeld2
        try simp only [Act.put, List.setIfInBounds_toArray, List.set_cons_zero, List.set_cons_succ]
        have hz := hHeld.2.1
        try simp at hz
        replace hblk := (Below.heap_alloc _ (.cells #[] 64) _ (by (try simp); omega)).trans hblk
        try replace r5 := r5.alloc (.cells #[] 64)
        try replace r9 := r9.alloc (.cells #[] 64)
        refine wpAnyH_ready (rs := [9, 10]) (by kernel_rfl) (by simp) (AllReadyH.cons (o := _) (by rw [List.getElem?_toArray]; rfl) (fun K hK => ?_) (AllReadyH.cons (o := _) (by rw [List.getElem?_toArray]; rfl) (fun K hK => ?_) AllReadyH.nil))
        · refine step_append_empty (by rfl) _ _ 31 (by rfl) 64 i2 _ 3 24 Try.underlying31 hi2 hz2 hs2 hb2 rfl (by decide) _ (by rfl) jv _ (jcells js) (by rfl) (H2.out.below hHeld.1) b2 ?_
          intro v9 w9 r9 hB9 ho9 hn9
          have o9 : Own (w.heap.size + 2) v9 := by
            intro k hk
            have hq := hHeld.2.1
            try simp at hq
            rcases ho9 with h | h <;> (rw [h] at hk; simp at hk; omega)
          replace r9 : SRO (w.heap.size + 2) w9 v9 _ _ _ := ⟨r9, o9⟩
          obtain ⟨a9, c9, rfl⟩ := r9.1.val
          clear ho9 o9
          refine hK.out _ _ (⟨hHeld.1.trans (hB9.mono hHeld.1.size), Nat.le_trans hHeld.2.1 hB9.size, hHeld.2.2.keep hB9⟩) (fun hHeld2 => ?_)
          replace hHeld := hHeld2
          clear hK K hHeld2
          try simp only [Act.put, List.setIfInBounds_toArray, List.set_cons_zero, List.set_cons_succ]
          have hz := hHeld.2.1
          replace hblk := (hB9.block _ (by (try simp); omega)).trans hblk
          try simp at hz
          replace r5 := r5.below hB9
          refine wpAnyH_ready (rs := [10]) (by kernel_rfl) (by simp) (AllReadyH.cons (o := _) (by rw [List.getElem?_toArray]; rfl) (fun K hK => ?_) AllReadyH.nil)
          go_simp
          refine hK.out _ _ (⟨hHeld.1.alloc hHeld.1.size _, Nat.le_trans hHeld.2.1 (by simp), hHeld.2.2.keep ((Below.refl _ _).alloc (Nat.le_refl _) _)⟩) (fun hHeld2 => ?_)
          replace hHeld := hHeld2
          clear hK K hHeld2
          try simp only [Act.put, List.setIfInBounds_toArray, List.set_cons_zero, List.set_cons_succ]
          have hz := hHeld.2.1
          try simp at hz
          replace hblk := (Below.heap_alloc _ (.cells #[] 66) _ (by (try simp); omega)).trans hblk
          try replace r5 := r5.alloc (.cells #[] 66)
          try replace r9 := r9.alloc (.cells #[] 66)
          refine wpAnyH_ready (rs := [13]) (by kernel_rfl) (by simp) (AllReadyH.cons (o := _) (by rw [List.getElem?_toArray]; rfl) (fun K hK => ?_) AllReadyH.nil)
          refine step_append_empty (by rfl) _ _ 32 (by rfl) 66 i3 _ 2 16 Try.underlying32 hi3 hz3 hs3 hb3 rfl (by decide) _ (by rfl) sv _ (tcells ss) (by rfl) (H3.out.below hHeld.1) b3 ?_
          intro v13 w13 r13 hB13 ho13 hn13
          have o13 : Own (w.heap.size + 2) v13 := by
            intro k hk
            have hq := hHeld.2.1
            try simp at hq
            rcases ho13 with h | h <;> (rw [h] at hk; simp at hk; omega)
          replace r13 : SRO (w.heap.size + 2) w13 v13 _ _ _ := ⟨r13, o13⟩
          obtain ⟨a13, c13, rfl⟩ := r13.1.val
          clear ho13 o13
          refine hK.out _ _ (⟨hHeld.1.trans (hB13.mono hHeld.1.size), Nat.le_trans hHeld.2.1 hB13.size, hHeld.2.2.keep hB13⟩) (fun hHeld2 => ?_)
          replace hHeld := hHeld2
          clear hK K hHeld2
          try simp only [Act.put, List.setIfInBounds_toArray, List.set_cons_zero, List.set_cons_succ]
          have hz := hHeld.2.1
          replace hblk := (hB13.block _ (by (try simp); omega)).trans hblk
          try simp at hz
          replace r5 := r5.below hB13
          replace r9 := r9.below hB13
          have f0 : w13.cell? ⟨w.heap.size + 1, 0, none⟩ = some (.int .i64 0) := cell_of_row _ _ 0 _ _ _ hblk
          have f1 : w13.cell? ⟨w.heap.size + 1, 1, none⟩ = some (.slice none 0 0) := cell_of_row _ _ 1 _ _ _ hblk
          have f2 : w13.cell? ⟨w.heap.size + 1, 2, none⟩ = some (.slice none 0 0) := cell_of_row _ _ 2 _ _ _ hblk
          have f3 : w13.cell? ⟨w.heap.size + 1, 3, none⟩ = some (.slice none 0 0) := cell_of_row _ _ 3 _ _ _ hblk
          have z0 := frozen_of_row _ _ 0 _ _ hblk
          have z1 := frozen_of_row _ _ 1 _ _ hblk
          have z2 := frozen_of_row _ _ 2 _ _ hblk
          have z3 := frozen_of_row _ _ 3 _ _ hblk
          refine wpAnyH_take (i := 14) (oi := _) (v := ?_) (by rw [List.getElem?_toArray]; rfl) (by kernel_rfl) (by kernel_rfl) (by kernel_rfl) (by exact fun _ _ _ h => h) (Or.inl ⟨by rfl, ?_⟩) (by assumption) ?_
          rotate_left
          · intro w hSw
            try simp only [Cells, blk, List.cons_append, List.nil_append, and_true, Nat.reduceAdd, Nat.add_zero, Nat.zero_add] at hSw
            go_simp
            try with_reducible rfl
          simp only [Act.put, List.setIfInBounds_toArray, List.set_cons_zero, List.set_cons_succ]
          refine wpAnyH_ready (rs := [15]) (by kernel_rfl) (by simp) (AllReadyH.cons (o := _) (by rw [List.getElem?_toArray]; rfl) (fun K hK => ?_) AllReadyH.nil)
          go_simp
          refine hK.out _ _ (⟨(((hHeld.1.setCell (by simp) _).setCell (by simp) _).setCell (by simp) _).setCell (by simp) _, by simpa [World.setCell] using hHeld.2.1, (((hHeld.2.2.setCell (by simp [blk]) _).setCell (by simp [blk]) _).setCell (by simp [blk]) _).setCell (by simp [blk]) _⟩) (fun hHeld2 => ?_)
          replace hHeld := hHeld2
          clear hK K hHeld2
          try simp only [Act.put, List.setIfInBounds_toArray, List.set_cons_zero, List.set_cons_succ]
          have s5 := (((r5.set (p := ⟨w.heap.size + 1, 0, none⟩) (by simp) (.int .i64 d)).set (p := ⟨w.heap.size + 1, 1, none⟩) (by simp) (.slice a5 ls.length c5)).set (p := ⟨w.heap.size + 1, 2, none⟩) (by simp) (.slice a9 js.length c9)).set (p := ⟨w.heap.size + 1, 3, none⟩) (by simp) (.slice a13 ss.length c13)
          have s9 := (((r9.set (p := ⟨w.heap.size + 1, 0, none⟩) (by simp) (.int .i64 d)).set (p := ⟨w.heap.size + 1, 1, none⟩) (by simp) (.slice a5 ls.length c5)).set (p := ⟨w.heap.size + 1, 2, none⟩) (by simp) (.slice a9 js.length c9)).set (p := ⟨w.heap.size + 1, 3, none⟩) (by simp) (.slice a13 ss.length c13)
          have s13 := (((r13.set (p := ⟨w.heap.size + 1, 0, none⟩) (by simp) (.int .i64 d)).set (p := ⟨w.heap.size + 1, 1, none⟩) (by simp) (.slice a5 ls.length c5)).set (p := ⟨w.heap.size + 1, 2, none⟩) (by simp) (.slice a9 js.length c9)).set (p := ⟨w.heap.size + 1, 3, none⟩) (by simp) (.slice a13 ss.length c13)
          have hend := hHeld.1
          refine wpAnyH_done (by kernel_rfl) ?_ _
          go_wp2
          refine bodyPost_ret (v := .agg #[.int .i64 d, .slice a5 ls.length c5, .slice a9 js.length c9, .slice a13 ss.length c13]) (by simp [results, Try.results18, go_sem, f0, f1, f2, f3]) rfl ?_
          exact ⟨_, _, _, rfl, ⟨s5.1, s5.2.mono (by omega)⟩, ⟨s9.1, s9.2.mono (by omega)⟩, ⟨s13.1, s13.2.mono (by omega)⟩, hend⟩
        · go_simp
          refine hK.out _ _ (⟨hHeld.1.alloc hHeld.1.size _, Nat.le_trans hHeld.2.1 (by simp), hHeld.2.2.keep ((Below.refl _ _).alloc (Nat.le_refl _) _)⟩) (fun hHeld2 => ?_)
          replace hHeld := hHeld2
          clear hK K hHeld2
          try simp only [Act.put, List.setIfInBounds_toArray, List.set_cons_zero, List.set_cons_succ]
          have hz := hHeld.2.1
          try simp at hz
          replace hblk := (Below.heap_alloc _ (.cells #[] 66) _ (by (try simp); omega)).trans hblk
          try replace r5 := r5.alloc (.cells #[] 66)
          try replace r9 := r9.alloc (.cells #[] 66)
          refine wpAnyH_ready (rs := [9]) (by kernel_rfl) (by simp) (AllReadyH.cons (o := _) (by rw [List.getElem?_toArray]; rfl) (fun K hK => ?_) AllReadyH.nil)
          refine step_append_empty (by rfl) _ _ 31 (by rfl) 64 i2 _ 3 24 Try.underlying31 hi2 hz2 hs2 hb2 rfl (by decide) _ (by rfl) jv _ (jcells js) (by rfl) (H2.out.below hHeld.1) b2 ?_
          intro v9 w9 r9 hB9 ho9 hn9
          have o9 : Own (w.heap.size + 2) v9 := by
            intro k hk
            have hq := hHeld.2.1
            try simp at hq
            rcases ho9 with h | h <;> (rw [h] at hk; simp at hk; omega)
          replace r9 : SRO (w.heap.size + 2) w9 v9 _ _ _ := ⟨r9, o9⟩
          obtain ⟨a9, c9, rfl⟩ := r9.1.val
          clear ho9 o9
          refine hK.out _ _ (⟨hHeld.1.trans (hB9.mono hHeld.1.size), Nat.le_trans hHeld.2.1 hB9.size, hHeld.2.2.keep hB9⟩) (fun hHeld2 => ?_)
          replace hHeld := hHeld2
          clear hK K hHeld2
          try simp only [Act.put, List.setIfInBounds_toArray, List.set_cons_zero, List.set_cons_succ]
          have hz := hHeld.2.1
          replace hblk := (hB9.block _ (by (try simp); omega)).trans hblk
          try simp at hz
          replace r5 := r5.below hB9
          refine wpAnyH_ready (rs := [13]) (by kernel_rfl) (by simp) (AllReadyH.cons (o := _) (by rw [List.getElem?_toArray]; rfl) (fun K hK => ?_) AllReadyH.nil)
          refine step_append_empty (by rfl) _ _ 32 (by rfl) 66 i3 _ 2 16 Try.underlying32 hi3 hz3 hs3 hb3 rfl (by decide) _ (by rfl) sv _ (tcells ss) (by rfl) (H3.out.below hHeld.1) b3 ?_
          intro v13 w13 r13 hB13 ho13 hn13
          have o13 : Own (w.heap.size + 2) v13 := by
            intro k hk
            have hq := hHeld.2.1
            try simp at hq
            rcases ho13 with h | h <;> (rw [h] at hk; simp at hk; omega)
          replace r13 : SRO (w.heap.size + 2) w13 v13 _ _ _ := ⟨r13, o13⟩
          obtain ⟨a13, c13, rfl⟩ := r13.1.val
          clear ho13 o13
          refine hK.out _ _ (⟨hHeld.1.trans (hB13.mono hHeld.1.size), Nat.le_trans hHeld.2.1 hB13.size, hHeld.2.2.keep hB13⟩) (fun hHeld2 => ?_)
          replace hHeld := hHeld2
          clear hK K hHeld2
          try simp only [Act.put, List.setIfInBounds_toArray, List.set_cons_zero, List.set_cons_succ]
          have hz := hHeld.2.1
          replace hblk := (hB13.block _ (by (try simp); omega)).trans hblk
          try simp at hz
          replace r5 := r5.below hB13
          replace r9 := r9.below hB13
          have f0 : w13.cell? ⟨w.heap.size + 1, 0, none⟩ = some (.int .i64 0) := cell_of_row _ _ 0 _ _ _ hblk
          have f1 : w13.cell? ⟨w.heap.size + 1, 1, none⟩ = some (.slice none 0 0) := cell_of_row _ _ 1 _ _ _ hblk
          have f2 : w13.cell? ⟨w.heap.size + 1, 2, none⟩ = some (.slice none 0 0) := cell_of_row _ _ 2 _ _ _ hblk
          have f3 : w13.cell? ⟨w.heap.size + 1, 3, none⟩ = some (.slice none 0 0) := cell_of_row _ _ 3 _ _ _ hblk
          have z0 := frozen_of_row _ _ 0 _ _ hblk
          have z1 := frozen_of_row _ _ 1 _ _ hblk
          have z2 := frozen_of_row _ _ 2 _ _ hblk
          have z3 := frozen_of_row _ _ 3 _ _ hblk
          refine wpAnyH_take (i := 14) (oi := _) (v := ?_) (by rw [List.getElem?_toArray]; rfl) (by kernel_rfl) (by kernel_rfl) (by kernel_rfl) (by exact fun _ _ _ h => h) (Or.inl ⟨by rfl, ?_⟩) (by assumption) ?_
          rotate_left
          · intro w hSw
            try simp only [Cells, blk, List.cons_append, List.nil_append, and_true, Nat.reduceAdd, Nat.add_zero, Nat.zero_add] at hSw
            go_simp
            try with_reducible rfl
          simp only [Act.put, List.setIfInBounds_toArray, List.set_cons_zero, List.set_cons_succ]
          refine wpAnyH_ready (rs := [15]) (by kernel_rfl) (by simp) (AllReadyH.cons (o := _) (by rw [List.getElem?_toArray]; rfl) (fun K hK => ?_) AllReadyH.nil)
          go_simp
          refine hK.out _ _ (⟨(((hHeld.1.setCell (by simp) _).setCell (by simp) _).setCell (by simp) _).setCell (by simp) _, by simpa [World.setCell] using hHeld.2.1, (((hHeld.2.2.setCell (by simp [blk]) _).setCell (by simp [blk]) _).setCell (by simp [blk]) _).setCell (by simp [blk]) _⟩) (fun hHeld2 => ?_)
          replace hHeld := hHeld2
          clear hK K hHeld2
          try simp only [Act.put, List.setIfInBounds_toArray, List.set_cons_zero, List.set_cons_succ]
          have s5 := (((r5.set (p := ⟨w.heap.size + 1, 0, none⟩) (by simp) (.int .i64 d)).set (p := ⟨w.heap.size + 1, 1, none⟩) (by simp) (.slice a5 ls.length c5)).set (p := ⟨w.heap.size + 1, 2, none⟩) (by simp) (.slice a9 js.length c9)).set (p := ⟨w.heap.size + 1, 3, none⟩) (by simp) (.slice a13 ss.length c13)
          have s9 := (((r9.set (p := ⟨w.heap.size + 1, 0, none⟩) (by simp) (.int .i64 d)).set (p := ⟨w.heap.size + 1, 1, none⟩) (by simp) (.slice a5 ls.length c5)).set (p := ⟨w.heap.size + 1, 2, none⟩) (by simp) (.slice a9 js.length c9)).set (p := ⟨w.heap.size + 1, 3, none⟩) (by simp) (.slice a13 ss.length c13)
          have s13 := (((r13.set (p := ⟨w.heap.size + 1, 0, none⟩) (by simp) (.int .i64 d)).set (p := ⟨w.heap.size + 1, 1, none⟩) (by simp) (.slice a5 ls.length c5)).set (p := ⟨w.heap.size + 1, 2, none⟩) (by simp) (.slice a9 js.length c9)).set (p := ⟨w.heap.size + 1, 3, none⟩) (by simp) (.slice a13 ss.length c13)
          have hend := hHeld.1
          refine wpAnyH_done (by kernel_rfl) ?_ _
          go_wp2
          refine bodyPost_ret (v := .agg #[.int .i64 d, .slice a5 ls.length c5, .slice a9 js.length c9, .slice a13 ss.length c13]) (by simp [results, Try.results18, go_sem, f0, f1, f2, f3]) rfl ?_
          exact ⟨_, _, _, rfl, ⟨s5.1, s5.2.mono (by omega)⟩, ⟨s9.1, s9.2.mono (by omega)⟩, ⟨s13.1, s13.2.mono (by omega)⟩, hend⟩
      · go_simp
        refine hK.out _ _ (⟨hHeld.1.alloc hHeld.1.size _, Nat.le_trans hHeld.2.1 (by simp), hHeld.2.2.keep ((Below.refl _ _).alloc (Nat.le_refl _) _)⟩) (fun hHeld2 => ?_)
        replace hHeld := hHeld2
        clear hK K hHeld2
        try simp only [Act.put, List.setIfInBounds_toArray, List.set_cons_zero, List.set_cons_succ]
        have hz := hHeld.2.1
        try simp at hz
        replace hblk := (Below.heap_alloc _ (.cells #[] 66) _ (by (try simp); omega)).trans hblk
        try replace r5 := r5.alloc (.cells #[] 66)
        try replace r9 := r9.alloc (.cells #[] 66)
        refine wpAnyH_ready (rs := [6]) (by kernel_rfl) (by simp) (AllReadyH.cons (o := _) (by rw [List.getElem?_toArray]; rfl) (fun K hK => ?_) AllReadyH.nil)
        go_simp
        refine hK.out _ _ (⟨hHeld.1.alloc hHeld.1.size _, Nat.le_trans hHeld.2.1 (by simp), hHeld.2.2.keep ((Below.refl _ _).alloc (Nat.le_refl _) _)⟩) (fun hHeld2 => ?_)
        replace hHeld := hHeld2
        clear hK K hHeld2
        try simp only [Act.put, List.setIfInBounds_toArray, List.set_cons_zero, List.set_cons_succ]
        have hz := hHeld.2.1
        try simp at hz
        replace hblk := (Below.heap_alloc _ (.cells #[] 64) _ (by (try simp); omega)).trans hblk
        try replace r5 := r5.alloc (.cells #[] 64)
        try replace r9 := r9.alloc (.cells #[] 64)
        refine wpAnyH_ready (rs := [9]) (by kernel_rfl) (by simp) (AllReadyH.cons (o := _) (by rw [List.getElem?_toArray]; rfl) (fun K hK => ?_) AllReadyH.nil)
        refine step_append_empty (by rfl) _ _ 31 (by rfl) 64 i2 _ 3 24 Try.underlying31 hi2 hz2 hs2 hb2 rfl (by decide) _ (by rfl) jv _ (jcells js) (by rfl) (H2.out.below hHeld.1) b2 ?_
        intro v9 w9 r9 hB9 ho9 hn9
        have o9 : Own (w.heap.size + 2) v9 := by
          intro k hk
          have hq := hHeld.2.1
          try simp at hq
          rcases ho9 with h | h <;> (rw [h] at hk; simp at hk; omega)
        replace r9 : SRO (w.heap.size + 2) w9 v9 _ _ _ := ⟨r9, o9⟩
        obtain ⟨a9, c9, rfl⟩ := r9.1.val
        clear ho9 o9
        refine hK.out _ _ (⟨hHeld.1.trans (hB9.mono hHeld.1.size), Nat.le_trans hHeld.2.1 hB9.size, hHeld.2.2.keep hB9⟩) (fun hHeld2 => ?_)
        replace hHeld := hHeld2
        clear hK K hHeld2
        try simp only [Act.put, List.setIfInBounds_toArray, List.set_cons_zero, List.set_cons_succ]
        have hz := hHeld.2.1
        replace hblk := (hB9.block _ (by (try simp); omega)).trans hblk
        try simp at hz
        replace r5 := r5.below hB9
        refine wpAnyH_ready (rs := [13]) (by kernel_rfl) (by simp) (AllReadyH.cons (o := _) (by rw [List.getElem?_toArray]; rfl) (fun K hK => ?_) AllReadyH.nil)
        refine step_append_empty (by rfl) _ _ 32 (by rfl) 66 i3 _ 2 16 Try.underlying32 hi3 hz3 hs3 hb3 rfl (by decide) _ (by rfl) sv _ (tcells ss) (by rfl) (H3.out.below hHeld.1) b3 ?_
        intro v13 w13 r13 hB13 ho13 hn13
        have o13 : Own (w.heap.size + 2) v13 := by
          intro k hk
          have hq := hHeld.2.1
          try simp at hq
          rcases ho13 with h | h <;> (rw [h] at hk; simp at hk; omega)
        replace r13 : SRO (w.heap.size + 2) w13 v13 _ _ _ := ⟨r13, o13⟩
        obtain ⟨a13, c13, rfl⟩ := r13.1.val
        clear ho13 o13
        refine hK.out _ _ (⟨hHeld.1.trans (hB13.mono hHeld.1.size), Nat.le_trans hHeld.2.1 hB13.size, hHeld.2.2.keep hB13⟩) (fun hHeld2 => ?_)
        replace hHeld := hHeld2
        clear hK K hHeld2
        try simp only [Act.put, List.setIfInBounds_toArray, List.set_cons_zero, List.set_cons_succ]
        have hz := hHeld.2.1
        replace hblk := (hB13.block _ (by (try simp); omega)).trans hblk
        try simp at hz
        replace r5 := r5.below hB13
        replace r9 := r9.below hB13
        have f0 : w13.cell? ⟨w.heap.size + 1, 0, none⟩ = some (.int .i64 0) := cell_of_row _ _ 0 _ _ _ hblk
        have f1 : w13.cell? ⟨w.heap.size + 1, 1, none⟩ = some (.slice none 0 0) := cell_of_row _ _ 1 _ _ _ hblk
        have f2 : w13.cell? ⟨w.heap.size + 1, 2, none⟩ = some (.slice none 0 0) := cell_of_row _ _ 2 _ _ _ hblk
        have f3 : w13.cell? ⟨w.heap.size + 1, 3, none⟩ = some (.slice none 0 0) := cell_of_row _ _ 3 _ _ _ hblk
        have z0 := frozen_of_row _ _ 0 _ _ hblk
        have z1 := frozen_of_row _ _ 1 _ _ hblk
        have z2 := frozen_of_row _ _ 2 _ _ hblk
        have z3 := frozen_of_row _ _ 3 _ _ hblk
        refine wpAnyH_take (i := 14) (oi := _) (v := ?_) (by rw [List.getElem?_toArray]; rfl) (by kernel_rfl) (by kernel_rfl) (by kernel_rfl) (by exact fun _ _ _ h => h) (Or.inl ⟨by rfl, ?_⟩) (by assumption) ?_
        rotate_left
        · intro w hSw
          try simp only [Cells, blk, List.cons_append, List.nil_append, and_true, Nat.reduceAdd, Nat.add_zero, Nat.zero_add] at hSw
          go_simp
          try with_reducible rfl
        simp only [Act.put, List.setIfInBounds_toArray, List.set_cons_zero, List.set_cons_succ]
        refine wpAnyH_ready (rs := [15]) (by kernel_rfl) (by simp) (AllReadyH.cons (o := _) (by rw [List.getElem?_toArray]; rfl) (fun K hK => ?_) AllReadyH.nil)
        go_simp
        refine hK.out _ _ (⟨(((hHeld.1.setCell (by simp) _).setCell (by simp) _).setCell (by simp) _).setCell (by simp) _, by simpa [World.setCell] using hHeld.2.1, (((hHeld.2.2.setCell (by simp [blk]) _).setCell (by simp [blk]) _).setCell (by simp [blk]) _).setCell (by simp [blk]) _⟩) (fun hHeld2 => ?_)
        replace hHeld := hHeld2
        clear hK K hHeld2
        try simp only [Act.put, List.setIfInBounds_toArray, List.set_cons_zero, List.set_cons_succ]
        have s5 := (((r5.set (p := ⟨w.heap.size + 1, 0, none⟩) (by simp) (.int .i64 d)).set (p := ⟨w.heap.size + 1, 1, none⟩) (by simp) (.slice a5 ls.length c5)).set (p := ⟨w.heap.size + 1, 2, none⟩) (by simp) (.slice a9 js.length c9)).set (p := ⟨w.heap.size + 1, 3, none⟩) (by simp) (.slice a13 ss.length c13)
        have s9 := (((r9.set (p := ⟨w.heap.size + 1, 0, none⟩) (by simp) (.int .i64 d)).set (p := ⟨w.heap.size + 1, 1, none⟩) (by simp) (.slice a5 ls.length c5)).set (p := ⟨w.heap.size + 1, 2, none⟩) (by simp) (.slice a9 js.length c9)).set (p := ⟨w.heap.size + 1, 3, none⟩) (by simp) (.slice a13 ss.length c13)
        have s13 := (((r13.set (p := ⟨w.heap.size + 1, 0, none⟩) (by simp) (.int .i64 d)).set (p := ⟨w.heap.size + 1, 1, none⟩) (by simp) (.slice a5 ls.length c5)).set (p := ⟨w.heap.size + 1, 2, none⟩) (by simp) (.slice a9 js.length c9)).set (p := ⟨w.heap.size + 1, 3, none⟩) (by simp) (.slice a13 ss.length c13)
        have hend := hHeld.1
        refine wpAnyH_done (by kernel_rfl) ?_ _
        go_wp2
        refine bodyPost_ret (v := .agg #[.int .i64 d, .slice a5 ls.length c5, .slice a9 js.length c9, .slice a13 ss.length c13]) (by simp [results, Try.results18, go_sem, f0, f1, f2, f3]) rfl ?_
        exact ⟨_, _, _, rfl, ⟨s5.1, s5.2.mono (by omega)⟩, ⟨s9.1, s9.2.mono (by omega)⟩, ⟨s13.1, s13.2.mono (by omega)⟩, hend⟩
    · go_simp
      refine hK.out _ _ (⟨hHeld.1.alloc hHeld.1.size _, Nat.le_trans hHeld.2.1 (by simp), hHeld.2.2.keep ((Below.refl _ _).alloc (Nat.le_refl _) _)⟩) (fun hHeld2 => ?_)
      replace hHeld := hHeld2
      clear hK K hHeld2
      try simp only [Act.put, List.setIfInBounds_toArray, List.set_cons_zero, List.set_cons_succ]
      have hz := hHeld.2.1
      try simp at hz
      replace hblk := (Below.heap_alloc _ (.cells #[] 64) _ (by (try simp); omega)).trans hblk
      try replace r5 := r5.alloc (.cells #[] 64)
      try replace r9 := r9.alloc (.cells #[] 64)
      refine wpAnyH_ready (rs := [5, 10]) (by kernel_rfl) (by simp) (AllReadyH.cons (o := _) (by rw [List.getElem?_toArray]; rfl) (fun K hK => ?_) (AllReadyH.cons (o := _) (by rw [List.getElem?_toArray]; rfl) (fun K hK => ?_) AllReadyH.nil))
      · refine step_append_empty (by rfl) _ _ 30 (by rfl) 62 i1 _ 2 16 Try.underlying30 hi1 hz1 hs1 hb1 rfl (by decide) _ (by rfl) lv _ (tcells ls) (by rfl) (H1.out.below hHeld.1) b1 ?_
        intro v5 w5 r5 hB5 ho5 hn5
        have o5 : Own (w.heap.size + 2) v5 := by
          intro k hk
          have hq := hHeld.2.1
          try simp at hq
          rcases ho5 with h | h <;> (rw [h] at hk; simp at hk; omega)
        replace r5 : SRO (w.heap.size + 2) w5 v5 _ _ _ := ⟨r5, o5⟩
        obtain ⟨a5, c5, rfl⟩ := r5.1.val
        clear ho5 o5
        refine hK.out _ _ (⟨hHeld.1.trans (hB5.mono hHeld.1.size), Nat.le_trans hHeld.2.1 hB5.size, hHeld.2.2.keep hB5⟩) (fun hHeld2 => ?_)
        replace hHeld := hHeld2
        clear hK K hHeld2
        try simp only [Act.put, List.setIfInBounds_toArray, List.set_cons_zero, List.set_cons_succ]
        have hz := hHeld.2.1
        replace hblk := (hB5.block _ (by (try simp); omega)).trans hblk
        try simp at hz
        refine wpAnyH_ready (rs := [9, 10]) (by kernel_rfl) (by simp) (AllReadyH.cons (o := _) (by rw [List.getElem?_toArray]; rfl) (fun K hK => ?_) (AllReadyH.cons (o := _) (by rw [List.getElem?_toArray]; rfl) (fun K hK => ?_) AllReadyH.nil))
        · refine step_append_empty (by rfl) _ _ 31 (by rfl) 64 i2 _ 3 24 Try.underlying31 hi2 hz2 hs2 hb2 rfl (by decide) _ (by rfl) jv _ (jcells js) (by rfl) (H2.out.below hHeld.1) b2 ?_
          intro v9 w9 r9 hB9 ho9 hn9
          have o9 : Own (w.heap.size + 2) v9 := by
            intro k hk
            have hq := hHeld.2.1
            try simp at hq
            rcases ho9 with h | h <;> (rw [h] at hk; simp at hk; omega)
          replace r9 : SRO (w.heap.size + 2) w9 v9 _ _ _ := ⟨r9, o9⟩
          obtain ⟨a9, c9, rfl⟩ := r9.1.val
          clear ho9 o9
          refine hK.out _ _ (⟨hHeld.1.trans (hB9.mono hHeld.1.size), Nat.le_trans hHeld.2.1 hB9.size, hHeld.2.2.keep hB9⟩) (fun hHeld2 => ?_)
          replace hHeld := hHeld2
          clear hK K hHeld2
          try simp only [Act.put, List.setIfInBounds_toArray, List.set_cons_zero, List.set_cons_succ]
          have hz := hHeld.2.1
          replace hblk := (hB9.block _ (by (try simp); omega)).trans hblk
          try simp at hz
          replace r5 := r5.below hB9
          refine wpAnyH_ready (rs := [10]) (by kernel_rfl) (by simp) (AllReadyH.cons (o := _) (by rw [List.getElem?_toArray]; rfl) (fun K hK => ?_) AllReadyH.nil)
          go_simp
          refine hK.out _ _ (⟨hHeld.1.alloc hHeld.1.size _, Nat.le_trans hHeld.2.1 (by simp), hHeld.2.2.keep ((Below.refl _ _).alloc (Nat.le_refl _) _)⟩) (fun hHeld2 => ?_)
          replace hHeld := hHeld2
          clear hK K hHeld2
          try simp only [Act.put, List.setIfInBounds_toArray, List.set_cons_zero, List.set_cons_succ]
          have hz := hHeld.2.1
          try simp at hz
          replace hblk := (Below.heap_alloc _ (.cells #[] 66) _ (by (try simp); omega)).trans hblk
          try replace r5 := r5.alloc (.cells #[] 66)
          try replace r9 := r9.alloc (.cells #[] 66)
          refine wpAnyH_ready (rs := [13]) (by kernel_rfl) (by simp) (AllReadyH.cons (o := _) (by rw [List.getElem?_toArray]; rfl) (fun K hK => ?_) AllReadyH.nil)
          refine step_append_empty (by rfl) _ _ 32 (by rfl) 66 i3 _ 2 16 Try.underlying32 hi3 hz3 hs3 hb3 rfl (by decide) _ (by rfl) sv _ (tcells ss) (by rfl) (H3.out.below hHeld.1) b3 ?_
          intro v13 w13 r13 hB13 ho13 hn13
          have o13 : Own (w.heap.size + 2) v13 := by
            intro k hk
            have hq := hHeld.2.1
            try simp at hq
            rcases ho13 with h | h <;> (rw [h] at hk; simp at hk; omega)
          replace r13 : SRO (w.heap.size + 2) w13 v13 _ _ _ := ⟨r13, o13⟩
          obtain ⟨a13, c13, rfl⟩ := r13.1.val
          clear ho13 o13
          refine hK.out _ _ (⟨hHeld.1.trans (hB13.mono hHeld.1.size), Nat.le_trans hHeld.2.1 hB13.size, hHeld.2.2.keep hB13⟩) (fun hHeld2 => ?_)
          replace hHeld := hHeld2
          clear hK K hHeld2
          try simp only [Act.put, List.setIfInBounds_toArray, List.set_cons_zero, List.set_cons_succ]
          have hz := hHeld.2.1
          replace hblk := (hB13.block _ (by (try simp); omega)).trans hblk
          try simp at hz
          replace r5 := r5.below hB13
          replace r9 := r9.below hB13
          have f0 : w13.cell? ⟨w.heap.size + 1, 0, none⟩ = some (.int .i64 0) := cell_of_row _ _ 0 _ _ _ hblk
          have f1 : w13.cell? ⟨w.heap.size + 1, 1, none⟩ = some (.slice none 0 0) := cell_of_row _ _ 1 _ _ _ hblk
          have f2 : w13.cell? ⟨w.heap.size + 1, 2, none⟩ = some (.slice none 0 0) := cell_of_row _ _ 2 _ _ _ hblk
          have f3 : w13.cell? ⟨w.heap.size + 1, 3, none⟩ = some (.slice none 0 0) := cell_of_row _ _ 3 _ _ _ hblk
          have z0 := frozen_of_row _ _ 0 _ _ hblk
          have z1 := frozen_of_row _ _ 1 _ _ hblk
          have z2 := frozen_of_row _ _ 2 _ _ hblk
          have z3 := frozen_of_row _ _ 3 _ _ hblk
          refine wpAnyH_take (i := 14) (oi := _) (v := ?_) (by rw [List.getElem?_toArray]; rfl) (by kernel_rfl) (by kernel_rfl) (by kernel_rfl) (by exact fun _ _ _ h => h) (Or.inl ⟨by rfl, ?_⟩) (by assumption) ?_
          rotate_left
          · intro w hSw
            try simp only [Cells, blk, List.cons_append, List.nil_append, and_true, Nat.reduceAdd, Nat.add_zero, Nat.zero_add] at hSw
            go_simp
            try with_reducible rfl
          simp only [Act.put, List.setIfInBounds_toArray, List.set_cons_zero, List.set_cons_succ]
          refine wpAnyH_ready (rs := [15]) (by kernel_rfl) (by simp) (AllReadyH.cons (o := _) (by rw [List.getElem?_toArray]; rfl) (fun K hK => ?_) AllReadyH.nil)
          go_simp
          refine hK.out _ _ (⟨(((hHeld.1.setCell (by simp) _).setCell (by simp) _).setCell (by simp) _).setCell (by simp) _, by simpa [World.setCell] using hHeld.2.1, (((hHeld.2.2.setCell (by simp [blk]) _).setCell (by simp [blk]) _).setCell (by simp [blk]) _).setCell (by simp [blk]) _⟩) (fun hHeld2 => ?_)
          replace hHeld := hHeld2
          clear hK K hHeld2
          try simp only [Act.put, List.setIfInBounds_toArray, List.set_cons_zero, List.set_cons_succ]
          have s5 := (((r5.set (p := ⟨w.heap.size + 1, 0, none⟩) (by simp) (.int .i64 d)).set (p := ⟨w.heap.size + 1, 1, none⟩) (by simp) (.slice a5 ls.length c5)).set (p := ⟨w.heap.size + 1, 2, none⟩) (by simp) (.slice a9 js.length c9)).set (p := ⟨w.heap.size + 1, 3, none⟩) (by simp) (.slice a13 ss.length c13)
          have s9 := (((r9.set (p := ⟨w.heap.size + 1, 0, none⟩) (by simp) (.int .i64 d)).set (p := ⟨w.heap.size + 1, 1, none⟩) (by simp) (.slice a5 ls.length c5)).set (p := ⟨w.heap.size + 1, 2, none⟩) (by simp) (.slice a9 js.length c9)).set (p := ⟨w.heap.size + 1, 3, none⟩) (by simp) (.slice a13 ss.length c13)
          have s13 := (((r13.set (p := ⟨w.heap.size + 1, 0, none⟩) (by simp) (.int .i64 d)).set (p := ⟨w.heap.size + 1, 1, none⟩) (by simp) (.slice a5 ls.length c5)).set (p := ⟨w.heap.size + 1, 2, none⟩) (by simp) (.slice a9 js.length c9)).set (p := ⟨w.heap.size + 1, 3, none⟩) (by simp) (.slice a13 ss.length c13)
          have hend := hHeld.1
          refine wpAnyH_done (by kernel_rfl) ?_ _
          go_wp2
          refine bodyPost_ret (v := .agg #[.int .i64 d, .slice a5 ls.length c5, .slice a9 js.length c9, .slice a13 ss.length c13]) (by simp [results, Try.results18, go_sem, f0, f1, f2, f3]) rfl ?_
          exact ⟨_, _, _, rfl, ⟨s5.1, s5.2.mono (by omega)⟩, ⟨s9.1, s9.2.mono (by omega)⟩, ⟨s13.1, s13.2.mono (by omega)⟩, hend⟩
        · go_simp
          refine hK.out _ _ (⟨hHeld.1.alloc hHeld.1.size _, Nat.le_trans hHeld.2.1 (by simp), hHeld.2.2.keep ((Below.refl _ _).alloc (Nat.le_refl _) _)⟩) (fun hHeld2 => ?_)
          replace hHeld := hHeld2
          clear hK K hHeld2
          try simp only [Act.put, List.setIfInBounds_toArray, List.set_cons_zero, List.set_cons_succ]
          have hz := hHeld.2.1
          try simp at hz
          replace hblk := (Below.heap_alloc _ (.cells #[] 66) _ (by (try simp); omega)).trans hblk
          try replace r5 := r5.alloc (.cells #[] 66)
          try replace r9 := r9.alloc (.cells #[] 66)
          refine wpAnyH_ready (rs := [9]) (by kernel_rfl) (by simp) (AllReadyH.cons (o := _) (by rw [List.getElem?_toArray]; rfl) (fun K hK => ?_) AllReadyH.nil)
          refine step_append_empty (by rfl) _ _ 31 (by rfl) 64 i2 _ 3 24 Try.underlying31 hi2 hz2 hs2 hb2 rfl (by decide) _ (by rfl) jv _ (jcells js) (by rfl) (H2.out.below hHeld.1) b2 ?_
          intro v9 w9 r9 hB9 ho9 hn9
          have o9 : Own (w.heap.size + 2) v9 := by
            intro k hk
            have hq := hHeld.2.1
            try simp at hq
            rcases ho9 with h | h <;> (rw [h] at hk; simp at hk; omega)
          replace r9 : SRO (w.heap.size + 2) w9 v9 _ _ _ := ⟨r9, o9⟩
          obtain ⟨a9, c9, rfl⟩ := r9.1.val
          clear ho9 o9
          refine hK.out _ _ (⟨hHeld.1.trans (hB9.mono hHeld.1.size), Nat.le_trans hHeld.2.1 hB9.size, hHeld.2.2.keep hB9⟩) (fun hHeld2 => ?_)
          replace hHeld := hHeld2
          clear hK K hHeld2
          try simp only [Act.put, List.setIfInBounds_toArray, List.set_cons_zero, List.set_cons_succ]
          have hz := hHeld.2.1
          replace hblk := (hB9.block _ (by (try simp); omega)).trans hblk
          try simp at hz
          replace r5 := r5.below hB9
          refine wpAnyH_ready (rs := [13]) (by kernel_rfl) (by simp) (AllReadyH.cons (o := _) (by rw [List.getElem?_toArray]; rfl) (fun K hK => ?_) AllReadyH.nil)
          refine step_append_empty (by rfl) _ _ 32 (by rfl) 66 i3 _ 2 16 Try.underlying32 hi3 hz3 hs3 hb3 rfl (by decide) _ (by rfl) sv _ (tcells ss) (by rfl) (H3.out.below hHeld.1) b3 ?_
          intro v13 w13 r13 hB13 ho13 hn13
          have o13 : Own (w.heap.size + 2) v13 := by
            intro k hk
            have hq := hHeld.2.1
            try simp at hq
            rcases ho13 with h | h <;> (rw [h] at hk; simp at hk; omega)
          replace r13 : SRO (w.heap.size + 2) w13 v13 _ _ _ := ⟨r13, o13⟩
          obtain ⟨a13, c13, rfl⟩ := r13.1.val
          clear ho13 o13
          refine hK.out _ _ (⟨hHeld.1.trans (hB13.mono hHeld.1.size), Nat.le_trans hHeld.2.1 hB13.size, hHeld.2.2.keep hB13⟩) (fun hHeld2 => ?_)
          replace hHeld := hHeld2
          clear hK K hHeld2
          try simp only [Act.put, List.setIfInBounds_toArray, List.set_cons_zero, List.set_cons_succ]
          have hz := hHeld.2.1
          replace hblk := (hB13.block _ (by (try simp); omega)).trans hblk
          try simp at hz
          replace r5 := r5.below hB13
          replace r9 := r9.below hB13
          have f0 : w13.cell? ⟨w.heap.size + 1, 0, none⟩ = some (.int .i64 0) := cell_of_row _ _ 0 _ _ _ hblk
          have f1 : w13.cell? ⟨w.heap.size + 1, 1, none⟩ = some (.slice none 0 0) := cell_of_row _ _ 1 _ _ _ hblk
          have f2 : w13.cell? ⟨w.heap.size + 1, 2, none⟩ = some (.slice none 0 0) := cell_of_row _ _ 2 _ _ _ hblk
          have f3 : w13.cell? ⟨w.heap.size + 1, 3, none⟩ = some (.slice none 0 0) := cell_of_row _ _ 3 _ _ _ hblk
          have z0 := frozen_of_row _ _ 0 _ _ hblk
          have z1 := frozen_of_row _ _ 1 _ _ hblk
          have z2 := frozen_of_row _ _ 2 _ _ hblk
          have z3 := frozen_of_row _ _ 3 _ _ hblk
          refine wpAnyH_take (i := 14) (oi := _) (v := ?_) (by rw [List.getElem?_toArray]; rfl) (by kernel_rfl) (by kernel_rfl) (by kernel_rfl) (by exact fun _ _ _ h => h) (Or.inl ⟨by rfl, ?_⟩) (by assumption) ?_
          rotate_left
          · intro w hSw
            try simp only [Cells, blk, List.cons_append, List.nil_append, and_true, Nat.reduceAdd, Nat.add_zero, Nat.zero_add] at hSw
            go_simp
            try with_reducible rfl
          simp only [Act.put, List.setIfInBounds_toArray, List.set_cons_zero, List.set_cons_succ]
          refine wpAnyH_ready (rs := [15]) (by kernel_rfl) (by simp) (AllReadyH.cons (o := _) (by rw [List.getElem?_toArray]; rfl) (fun K hK => ?_) AllReadyH.nil)
          go_simp
          refine hK.out _ _ (⟨(((hHeld.1.setCell (by simp) _).setCell (by simp) _).setCell (by simp) _).setCell (by simp) _, by simpa [World.setCell] using hHeld.2.1, (((hHeld.2.2.setCell (by simp [blk]) _).setCell (by simp [blk]) _).setCell (by simp [blk]) _).setCell (by simp [blk]) _⟩) (fun hHeld2 => ?_)
          replace hHeld := hHeld2
          clear hK K hHeld2
          try simp only [Act.put, List.setIfInBounds_toArray, List.set_cons_zero, List.set_cons_succ]
          have s5 := (((r5.set (p := ⟨w.heap.size + 1, 0, none⟩) (by simp) (.int .i64 d)).set (p := ⟨w.heap.size + 1, 1, none⟩) (by simp) (.slice a5 ls.length c5)).set (p := ⟨w.heap.size + 1, 2, none⟩) (by simp) (.slice a9 js.length c9)).set (p := ⟨w.heap.size + 1, 3, none⟩) (by simp) (.slice a13 ss.length c13)
          have s9 := (((r9.set (p := ⟨w.heap.size + 1, 0, none⟩) (by simp) (.int .i64 d)).set (p := ⟨w.heap.size + 1, 1, none⟩) (by simp) (.slice a5 ls.length c5)).set (p := ⟨w.heap.size + 1, 2, none⟩) (by simp) (.slice a9 js.length c9)).set (p := ⟨w.heap.size + 1, 3, none⟩) (by simp) (.slice a13 ss.length c13)
          have s13 := (((r13.set (p := ⟨w.heap.size + 1, 0, none⟩) (by simp) (.int .i64 d)).set (p := ⟨w.heap.size + 1, 1, none⟩) (by simp) (.slice a5 ls.length c5)).set (p := ⟨w.heap.size + 1, 2, none⟩) (by simp) (.slice a9 js.length c9)).set (p := ⟨w.heap.size + 1, 3, none⟩) (by simp) (.slice a13 ss.length c13)
          have hend := hHeld.1
          refine wpAnyH_done (by kernel_rfl) ?_ _
          go_wp2
          refine bodyPost_ret (v := .agg #[.int .i64 d, .slice a5 ls.length c5, .slice a9 js.length c9, .slice a13 ss.length c13]) (by simp [results, Try.results18, go_sem, f0, f1, f2, f3]) rfl ?_
          exact ⟨_, _, _, rfl, ⟨s5.1, s5.2.mono (by omega)⟩, ⟨s9.1, s9.2.mono (by omega)⟩, ⟨s13.1, s13.2.mono (by omega)⟩, hend⟩
      · go_simp
        refine hK.out _ _ (⟨hHeld.1.alloc hHeld.1.size _, Nat.le_trans hHeld.2.1 (by simp), hHeld.2.2.keep ((Below.refl _ _).alloc (Nat.le_refl _) _)⟩) (fun hHeld2 => ?_)
        replace hHeld := hHeld2
        clear hK K hHeld2
        try simp only [Act.put, List.setIfInBounds_toArray, List.set_cons_zero, List.set_cons_succ]
        have hz := hHeld.2.1
        try simp at hz
        replace hblk := (Below.heap_alloc _ (.cells #[] 66) _ (by (try simp); omega)).trans hblk
        try replace r5 := r5.alloc (.cells #[] 66)
        try replace r9 := r9.alloc (.cells #[] 66)
        refine wpAnyH_ready (rs := [5]) (by kernel_rfl) (by simp) (AllReadyH.cons (o := _) (by rw [List.getElem?_toArray]; rfl) (fun K hK => ?_) AllReadyH.nil)
        refine step_append_empty (by rfl) _ _ 30 (by rfl) 62 i1 _ 2 16 Try.underlying30 hi1 hz1 hs1 hb1 rfl (by decide) _ (by rfl) lv _ (tcells ls) (by rfl) (H1.out.below hHeld.1) b1 ?_
        intro v5 w5 r5 hB5 ho5 hn5
        have o5 : Own (w.heap.size + 2) v5 := by
          intro k hk
          have hq := hHeld.2.1
          try simp at hq
          rcases ho5 with h | h <;> (rw [h] at hk; simp at hk; omega)
        replace r5 : SRO (w.heap.size + 2) w5 v5 _ _ _ := ⟨r5, o5⟩
        obtain ⟨a5, c5, rfl⟩ := r5.1.val
        clear ho5 o5
        refine hK.out _ _ (⟨hHeld.1.trans (hB5.mono hHeld.1.size), Nat.le_trans hHeld.2.1 hB5.size, hHeld.2.2.keep hB5⟩) (fun hHeld2 => ?_)
        replace hHeld := hHeld2
        clear hK K hHeld2
        try simp only [Act.put, List.setIfInBounds_toArray, List.set_cons_zero, List.set_cons_succ]
        have hz := hHeld.2.1
        replace hblk := (hB5.block _ (by (try simp); omega)).trans hblk
        try simp at hz
        refine wpAnyH_ready (rs := [9]) (by kernel_rfl) (by simp) (AllReadyH.cons (o := _) (by rw [List.getElem?_toArray]; rfl) (fun K hK => ?_) AllReadyH.nil)
        refine step_append_empty (by rfl) _ _ 31 (by rfl) 64 i2 _ 3 24 Try.underlying31 hi2 hz2 hs2 hb2 rfl (by decide) _ (by rfl) jv _ (jcells js) (by rfl) (H2.out.below hHeld.1) b2 ?_
        intro v9 w9 r9 hB9 ho9 hn9
        have o9 : Own (w.heap.size + 2) v9 := by
          intro k hk
          have hq := hHeld.2.1
          try simp at hq
          rcases ho9 with h | h <;> (rw [h] at hk; simp at hk; omega)
        replace r9 : SRO (w.heap.size + 2) w9 v9 _ _ _ := ⟨r9, o9⟩
        obtain ⟨a9, c9, rfl⟩ := r9.1.val
        clear ho9 o9
        refine hK.out _ _ (⟨hHeld.1.trans (hB9.mono hHeld.1.size), Nat.le_trans hHeld.2.1 hB9.size, hHeld.2.2.keep hB9⟩) (fun hHeld2 => ?_)
        replace hHeld := hHeld2
        clear hK K hHeld2
        try simp only [Act.put, List.setIfInBounds_toArray, List.set_cons_zero, List.set_cons_succ]
        have hz := hHeld.2.1
        replace hblk := (hB9.block _ (by (try simp); omega)).trans hblk
        try simp at hz
        replace r5 := r5.below hB9
        refine wpAnyH_ready (rs := [13]) (by kernel_rfl) (by simp) (AllReadyH.cons (o := _) (by rw [List.getElem?_toArray]; rfl) (fun K hK => ?_) AllReadyH.nil)
        refine step_append_empty (by rfl) _ _ 32 (by rfl) 66 i3 _ 2 16 Try.underlying32 hi3 hz3 hs3 hb3 rfl (by decide) _ (by rfl) sv _ (tcells ss) (by rfl) (H3.out.below hHeld.1) b3 ?_
        intro v13 w13 r13 hB13 ho13 hn13
        have o13 : Own (w.heap.size + 2) v13 := by
          intro k hk
          have hq := hHeld.2.1
          try simp at hq
          rcases ho13 with h | h <;> (rw [h] at hk; simp at hk; omega)
        replace r13 : SRO (w.heap.size + 2) w13 v13 _ _ _ := ⟨r13, o13⟩
        obtain ⟨a13, c13, rfl⟩ := r13.1.val
        clear ho13 o13
        refine hK.out _ _ (⟨hHeld.1.trans (hB13.mono hHeld.1.size), Nat.le_trans hHeld.2.1 hB13.size, hHeld.2.2.keep hB13⟩) (fun hHeld2 => ?_)
        replace hHeld := hHeld2
        clear hK K hHeld2
        try simp only [Act.put, List.setIfInBounds_toArray, List.set_cons_zero, List.set_cons_succ]
        have hz := hHeld.2.1
        replace hblk := (hB13.block _ (by (try simp); omega)).trans hblk
        try simp at hz
        replace r5 := r5.below hB13
        replace r9 := r9.below hB13
        have f0 : w13.cell? ⟨w.heap.size + 1, 0, none⟩ = some (.int .i64 0) := cell_of_row _ _ 0 _ _ _ hblk
        have f1 : w13.cell? ⟨w.heap.size + 1, 1, none⟩ = some (.slice none 0 0) := cell_of_row _ _ 1 _ _ _ hblk
        have f2 : w13.cell? ⟨w.heap.size + 1, 2, none⟩ = some (.slice none 0 0) := cell_of_row _ _ 2 _ _ _ hblk
        have f3 : w13.cell? ⟨w.heap.size + 1, 3, none⟩ = some (.slice none 0 0) := cell_of_row _ _ 3 _ _ _ hblk
        have z0 := frozen_of_row _ _ 0 _ _ hblk
        have z1 := frozen_of_row _ _ 1 _ _ hblk
        have z2 := frozen_of_row _ _ 2 _ _ hblk
        have z3 := frozen_of_row _ _ 3 _ _ hblk
        refine wpAnyH_take (i := 14) (oi := _) (v := ?_) (by rw [List.getElem?_toArray]; rfl) (by kernel_rfl) (by kernel_rfl) (by kernel_rfl) (by exact fun _ _ _ h => h) (Or.inl ⟨by rfl, ?_⟩) (by assumption) ?_
        rotate_left
        · intro w hSw
          try simp only [Cells, blk, List.cons_append, List.nil_append, and_true, Nat.reduceAdd, Nat.add_zero, Nat.zero_add] at hSw
          go_simp
          try with_reducible rfl
        simp only [Act.put, List.setIfInBounds_toArray, List.set_cons_zero, List.set_cons_succ]
        refine wpAnyH_ready (rs := [15]) (by kernel_rfl) (by simp) (AllReadyH.cons (o := _) (by rw [List.getElem?_toArray]; rfl) (fun K hK => ?_) AllReadyH.nil)
        go_simp
        refine hK.out _ _ (⟨(((hHeld.1.setCell (by simp) _).setCell (by simp) _).setCell (by simp) _).setCell (by simp) _, by simpa [World.setCell] using hHeld.2.1, (((hHeld.2.2.setCell (by simp [blk]) _).setCell (by simp [blk]) _).setCell (by simp [blk]) _).setCell (by simp [blk]) _⟩) (fun hHeld2 => ?_)
        replace hHeld := hHeld2
        clear hK K hHeld2
        try simp only [Act.put, List.setIfInBounds_toArray, List.set_cons_zero, List.set_cons_succ]
        have s5 := (((r5.set (p := ⟨w.heap.size + 1, 0, none⟩) (by simp) (.int .i64 d)).set (p := ⟨w.heap.size + 1, 1, none⟩) (by simp) (.slice a5 ls.length c5)).set (p := ⟨w.heap.size + 1, 2, none⟩) (by simp) (.slice a9 js.length c9)).set (p := ⟨w.heap.size + 1, 3, none⟩) (by simp) (.slice a13 ss.length c13)
        have s9 := (((r9.set (p := ⟨w.heap.size + 1, 0, none⟩) (by simp) (.int .i64 d)).set (p := ⟨w.heap.size + 1, 1, none⟩) (by simp) (.slice a5 ls.length c5)).set (p := ⟨w.heap.size + 1, 2, none⟩) (by simp) (.slice a9 js.length c9)).set (p := ⟨w.heap.size + 1, 3, none⟩) (by simp) (.slice a13 ss.length c13)
        have s13 := (((r13.set (p := ⟨w.heap.size + 1, 0, none⟩) (by simp) (.int .i64 d)).set (p := ⟨w.heap.size + 1, 1, none⟩) (by simp) (.slice a5 ls.length c5)).set (p := ⟨w.heap.size + 1, 2, none⟩) (by simp) (.slice a9 js.length c9)).set (p := ⟨w.heap.size + 1, 3, none⟩) (by simp) (.slice a13 ss.length c13)
        have hend := hHeld.1
        refine wpAnyH_done (by kernel_rfl) ?_ _
        go_wp2
        refine bodyPost_ret (v := .agg #[.int .i64 d, .slice a5 ls.length c5, .slice a9 js.length c9, .slice a13 ss.length c13]) (by simp [results, Try.results18, go_sem, f0, f1, f2, f3]) rfl ?_
        exact ⟨_, _, _, rfl, ⟨s5.1, s5.2.mono (by omega)⟩, ⟨s9.1, s9.2.mono (by omega)⟩, ⟨s13.1, s13.2.mono (by omega)⟩, hend⟩
    · go_simp
      refine hK.out _ _ (⟨hHeld.1.alloc hHeld.1.size _, Nat.le_trans hHeld.2.1 (by simp), hHeld.2.2.keep ((Below.refl _ _).alloc (Nat.le_refl _) _)⟩) (fun hHeld2 => ?_)
      replace hHeld := hHeld2
      clear hK K hHeld2
      try simp only [Act.put, List.setIfInBounds_toArray, List.set_cons_zero, List.set_cons_succ]
      have hz := hHeld.2.1
      try simp at hz
      replace hblk := (Below.heap_alloc _ (.cells #[] 66) _ (by (try simp); omega)).trans hblk
      try replace r5 := r5.alloc (.cells #[] 66)
      try replace r9 := r9.alloc (.cells #[] 66)
      refine wpAnyH_ready (rs := [5, 6]) (by kernel_rfl) (by simp) (AllReadyH.cons (o := _) (by rw [List.getElem?_toArray]; rfl) (fun K hK => ?_) (AllReadyH.cons (o := _) (by rw [List.getElem?_toArray]; rfl) (fun K hK => ?_) AllReadyH.nil))
      · refine step_append_empty (by rfl) _ _ 30 (by rfl) 62 i1 _ 2 16 Try.underlying30 hi1 hz1 hs1 hb1 rfl (by decide) _ (by rfl) lv _ (tcells ls) (by rfl) (H1.out.below hHeld.1) b1 ?_
        intro v5 w5 r5 hB5 ho5 hn5
        have o5 : Own (w.heap.size + 2) v5 := by
          intro k hk
          have hq := hHeld.2.1
          try simp at hq
          rcases ho5 with h | h <;> (rw [h] at hk; simp at hk; omega)
        replace r5 : SRO (w.heap.size + 2) w5 v5 _ _ _ := ⟨r5, o5⟩
        obtain ⟨a5, c5, rfl⟩ := r5.1.val
        clear ho5 o5
        refine hK.out _ _ (⟨hHeld.1.trans (hB5.mono hHeld.1.size), Nat.le_trans hHeld.2.1 hB5.size, hHeld.2.2.keep hB5⟩) (fun hHeld2 => ?_)
        replace hHeld := hHeld2
        clear hK K hHeld2
        try simp only [Act.put, List.setIfInBounds_toArray, List.set_cons_zero, List.set_cons_succ]
        have hz := hHeld.2.1
        replace hblk := (hB5.block _ (by (try simp); omega)).trans hblk
        try simp at hz
        refine wpAnyH_ready (rs := [6]) (by kernel_rfl) (by simp) (AllReadyH.cons (o := _) (by rw [List.getElem?_toArray]; rfl) (fun K hK => ?_) AllReadyH.nil)
        go_simp
        refine hK.out _ _ (⟨hHeld.1.alloc hHeld.1.size _, Nat.le_trans hHeld.2.1 (by simp), hHeld.2.2.keep ((Below.refl _ _).alloc (Nat.le_refl _) _)⟩) (fun hHeld2 => ?_)
        replace hHeld := hHeld2
        clear hK K hHeld2
        try simp only [Act.put, List.setIfInBounds_toArray, List.set_cons_zero, List.set_cons_succ]
        have hz := hHeld.2.1
        try simp at hz
        replace hblk := (Below.heap_alloc _ (.cells #[] 64) _ (by (try simp); omega)).trans hblk
        try replace r5 := r5.alloc (.cells #[] 64)
        try replace r9 := r9.alloc (.cells #[] 64)
        refine wpAnyH_ready (rs := [9]) (by kernel_rfl) (by simp) (AllReadyH.cons (o := _) (by rw [List.getElem?_toArray]; rfl) (fun K hK => ?_) AllReadyH.nil)
        refine step_append_empty (by rfl) _ _ 31 (by rfl) 64 i2 _ 3 24 Try.underlying31 hi2 hz2 hs2 hb2 rfl (by decide) _ (by rfl) jv _ (jcells js) (by rfl) (H2.out.below hHeld.1) b2 ?_
        intro v9 w9 r9 hB9 ho9 hn9
        have o9 : Own (w.heap.size + 2) v9 := by
          intro k hk
          have hq := hHeld.2.1
          try simp at hq
          rcases ho9 with h | h <;> (rw [h] at hk; simp at hk; omega)
        replace r9 : SRO (w.heap.size + 2) w9 v9 _ _ _ := ⟨r9, o9⟩
        obtain ⟨a9, c9, rfl⟩ := r9.1.val
        clear ho9 o9
        refine hK.out _ _ (⟨hHeld.1.trans (hB9.mono hHeld.1.size), Nat.le_trans hHeld.2.1 hB9.size, hHeld.2.2.keep hB9⟩) (fun hHeld2 => ?_)
        replace hHeld := hHeld2
        clear hK K hHeld2
        try simp only [Act.put, List.setIfInBounds_toArray, List.set_cons_zero, List.set_cons_succ]
        have hz := hHeld.2.1
        replace hblk := (hB9.block _ (by (try simp); omega)).trans hblk
        try simp at hz
        replace r5 := r5.below hB9
        refine wpAnyH_ready (rs := [13]) (by kernel_rfl) (by simp) (AllReadyH.cons (o := _) (by rw [List.getElem?_toArray]; rfl) (fun K hK => ?_) AllReadyH.nil)
        refine step_append_empty (by rfl) _ _ 32 (by rfl) 66 i3 _ 2 16 Try.underlying32 hi3 hz3 hs3 hb3 rfl (by decide) _ (by rfl) sv _ (tcells ss) (by rfl) (H3.out.below hHeld.1) b3 ?_
        intro v13 w13 r13 hB13 ho13 hn13
        have o13 : Own (w.heap.size + 2) v13 := by
          intro k hk
          have hq := hHeld.2.1
          try simp at hq
          rcases ho13 with h | h <;> (rw [h] at hk; simp at hk; omega)
        replace r13 : SRO (w.heap.size + 2) w13 v13 _ _ _ := ⟨r13, o13⟩
        obtain ⟨a13, c13, rfl⟩ := r13.1.val
        clear ho13 o13
        refine hK.out _ _ (⟨hHeld.1.trans (hB13.mono hHeld.1.size), Nat.le_trans hHeld.2.1 hB13.size, hHeld.2.2.keep hB13⟩) (fun hHeld2 => ?_)
        replace hHeld := hHeld2
        clear hK K hHeld2
        try simp only [Act.put, List.setIfInBounds_toArray, List.set_cons_zero, List.set_cons_succ]
        have hz := hHeld.2.1
        replace hblk := (hB13.block _ (by (try simp); omega)).trans hblk
        try simp at hz
        replace r5 := r5.below hB13
        replace r9 := r9.below hB13
        have f0 : w13.cell? ⟨w.heap.size + 1, 0, none⟩ = some (.int .i64 0) := cell_of_row _ _ 0 _ _ _ hblk
        have f1 : w13.cell? ⟨w.heap.size + 1, 1, none⟩ = some (.slice none 0 0) := cell_of_row _ _ 1 _ _ _ hblk
        have f2 : w13.cell? ⟨w.heap.size + 1, 2, none⟩ = some (.slice none 0 0) := cell_of_row _ _ 2 _ _ _ hblk
        have f3 : w13.cell? ⟨w.heap.size + 1, 3, none⟩ = some (.slice none 0 0) := cell_of_row _ _ 3 _ _ _ hblk
        have z0 := frozen_of_row _ _ 0 _ _ hblk
        have z1 := frozen_of_row _ _ 1 _ _ hblk
        have z2 := frozen_of_row _ _ 2 _ _ hblk
        have z3 := frozen_of_row _ _ 3 _ _ hblk
        refine wpAnyH_take (i := 14) (oi := _) (v := ?_) (by rw [List.getElem?_toArray]; rfl) (by kernel_rfl) (by kernel_rfl) (by kernel_rfl) (by exact fun _ _ _ h => h) (Or.inl ⟨by rfl, ?_⟩) (by assumption) ?_
        rotate_left
        · intro w hSw
          try simp only [Cells, blk, List.cons_append, List.nil_append, and_true, Nat.reduceAdd, Nat.add_zero, Nat.zero_add] at hSw
          go_simp
          try with_reducible rfl
        simp only [Act.put, List.setIfInBounds_toArray, List.set_cons_zero, List.set_cons_succ]
        refine wpAnyH_ready (rs := [15]) (by kernel_rfl) (by simp) (AllReadyH.cons (o := _) (by rw [List.getElem?_toArray]; rfl) (fun K hK => ?_) AllReadyH.nil)
        go_simp
        refine hK.out _ _ (⟨(((hHeld.1.setCell (by simp) _).setCell (by simp) _).setCell (by simp) _).setCell (by simp) _, by simpa [World.setCell] using hHeld.2.1, (((hHeld.2.2.setCell (by simp [blk]) _).setCell (by simp [blk]) _).setCell (by simp [blk]) _).setCell (by simp [blk]) _⟩) (fun hHeld2 => ?_)
        replace hHeld := hHeld2
        clear hK K hHeld2
        try simp only [Act.put, List.setIfInBounds_toArray, List.set_cons_zero, List.set_cons_succ]
        have s5 := (((r5.set (p := ⟨w.heap.size + 1, 0, none⟩) (by simp) (.int .i64 d)).set (p := ⟨w.heap.size + 1, 1, none⟩) (by simp) (.slice a5 ls.length c5)).set (p := ⟨w.heap.size + 1, 2, none⟩) (by simp) (.slice a9 js.length c9)).set (p := ⟨w.heap.size + 1, 3, none⟩) (by simp) (.slice a13 ss.length c13)
        have s9 := (((r9.set (p := ⟨w.heap.size + 1, 0, none⟩) (by simp) (.int .i64 d)).set (p := ⟨w.heap.size + 1, 1, none⟩) (by simp) (.slice a5 ls.length c5)).set (p := ⟨w.heap.size + 1, 2, none⟩) (by simp) (.slice a9 js.length c9)).set (p := ⟨w.heap.size + 1, 3, none⟩) (by simp) (.slice a13 ss.length c13)
        have s13 := (((r13.set (p := ⟨w.heap.size + 1, 0, none⟩) (by simp) (.int .i64 d)).set (p := ⟨w.heap.size + 1, 1, none⟩) (by simp) (.slice a5 ls.length c5)).set (p := ⟨w.heap.size + 1, 2, none⟩) (by simp) (.slice a9 js.length c9)).set (p := ⟨w.heap.size + 1, 3, none⟩) (by simp) (.slice a13 ss.length c13)
        have hend := hHeld.1
        refine wpAnyH_done (by kernel_rfl) ?_ _
        go_wp2
        refine bodyPost_ret (v := .agg #[.int .i64 d, .slice a5 ls.length c5, .slice a9 js.length c9, .slice a13 ss.length c13]) (by simp [results, Try.results18, go_sem, f0, f1, f2, f3]) rfl ?_
        exact ⟨_, _, _, rfl, ⟨s5.1, s5.2.mono (by omega)⟩, ⟨s9.1, s9.2.mono (by omega)⟩, ⟨s13.1, s13.2.mono (by omega)⟩, hend⟩
      · go_simp
        refine hK.out _ _ (⟨hHeld.1.alloc hHeld.1.size _, Nat.le_trans hHeld.2.1 (by simp), hHeld.2.2.keep ((Below.refl _ _).alloc (Nat.le_refl _) _)⟩) (fun hHeld2 => ?_)
        replace hHeld := hHeld2
        clear hK K hHeld2
        try simp only [Act.put, List.setIfInBounds_toArray, List.set_cons_zero, List.set_cons_succ]
        have hz := hHeld.2.1
        try simp at hz
        replace hblk := (Below.heap_alloc _ (.cells #[] 64) _ (by (try simp); omega)).trans hblk
        try replace r5 := r5.alloc (.cells #[] 64)
        try replace r9 := r9.alloc (.cells #[] 64)
        refine wpAnyH_ready (rs := [5]) (by kernel_rfl) (by simp) (AllReadyH.cons (o := _) (by rw [List.getElem?_toArray]; rfl) (fun K hK => ?_) AllReadyH.nil)
        refine step_append_empty (by rfl) _ _ 30 (by rfl) 62 i1 _ 2 16 Try.underlying30 hi1 hz1 hs1 hb1 rfl (by decide) _ (by rfl) lv _ (tcells ls) (by rfl) (H1.out.below hHeld.1) b1 ?_
        intro v5 w5 r5 hB5 ho5 hn5
        have o5 : Own (w.heap.size + 2) v5 := by
          intro k hk
          have hq := hHeld.2.1
          try simp at hq
          rcases ho5 with h | h <;> (rw [h] at hk; simp at hk; omega)
        replace r5 : SRO (w.heap.size + 2) w5 v5 _ _ _ := ⟨r5, o5⟩
        obtain ⟨a5, c5, rfl⟩ := r5.1.val
        clear ho5 o5
        refine hK.out _ _ (⟨hHeld.1.trans (hB5.mono hHeld.1.size), Nat.le_trans hHeld.2.1 hB5.size, hHeld.2.2.keep hB5⟩) (fun hHeld2 => ?_)
        replace hHeld := hHeld2
        clear hK K hHeld2
        try simp only [Act.put, List.setIfInBounds_toArray, List.set_cons_zero, List.set_cons_succ]
        have hz := hHeld.2.1
        replace hblk := (hB5.block _ (by (try simp); omega)).trans hblk
        try simp at hz
        refine wpAnyH_ready (rs := [9]) (by kernel_rfl) (by simp) (AllReadyH.cons (o := _) (by rw [List.getElem?_toArray]; rfl) (fun K hK => ?_) AllReadyH.nil)
        refine step_append_empty (by rfl) _ _ 31 (by rfl) 64 i2 _ 3 24 Try.underlying31 hi2 hz2 hs2 hb2 rfl (by decide) _ (by rfl) jv _ (jcells js) (by rfl) (H2.out.below hHeld.1) b2 ?_
        intro v9 w9 r9 hB9 ho9 hn9
        have o9 : Own (w.heap.size + 2) v9 := by
          intro k hk
          have hq := hHeld.2.1
          try simp at hq
          rcases ho9 with h | h <;> (rw [h] at hk; simp at hk; omega)
        replace r9 : SRO (w.heap.size + 2) w9 v9 _ _ _ := ⟨r9, o9⟩
        obtain ⟨a9, c9, rfl⟩ := r9.1.val
        clear ho9 o9
        refine hK.out _ _ (⟨hHeld.1.trans (hB9.mono hHeld.1.size), Nat.le_trans hHeld.2.1 hB9.size, hHeld.2.2.keep hB9⟩) (fun hHeld2 => ?_)
        replace hHeld := hHeld2
        clear hK K hHeld2
        try simp only [Act.put, List.setIfInBounds_toArray, List.set_cons_zero, List.set_cons_succ]
        have hz := hHeld.2.1
        replace hblk := (hB9.block _ (by (try simp); omega)).trans hblk
        try simp at hz
        replace r5 := r5.below hB9
        refine wpAnyH_ready (rs := [13]) (by kernel_rfl) (by simp) (AllReadyH.cons (o := _) (by rw [List.getElem?_toArray]; rfl) (fun K hK => ?_) AllReadyH.nil)
        refine step_append_empty (by rfl) _ _ 32 (by rfl) 66 i3 _ 2 16 Try.underlying32 hi3 hz3 hs3 hb3 rfl (by decide) _ (by rfl) sv _ (tcells ss) (by rfl) (H3.out.below hHeld.1) b3 ?_
        intro v13 w13 r13 hB13 ho13 hn13
        have o13 : Own (w.heap.size + 2) v13 := by
          intro k hk
          have hq := hHeld.2.1
          try simp at hq
          rcases ho13 with h | h <;> (rw [h] at hk; simp at hk; omega)
        replace r13 : SRO (w.heap.size + 2) w13 v13 _ _ _ := ⟨r13, o13⟩
        obtain ⟨a13, c13, rfl⟩ := r13.1.val
        clear ho13 o13
        refine hK.out _ _ (⟨hHeld.1.trans (hB13.mono hHeld.1.size), Nat.le_trans hHeld.2.1 hB13.size, hHeld.2.2.keep hB13⟩) (fun hHeld2 => ?_)
        replace hHeld := hHeld2
        clear hK K hHeld2
        try simp only [Act.put, List.setIfInBounds_toArray, List.set_cons_zero, List.set_cons_succ]
        have hz := hHeld.2.1
        replace hblk := (hB13.block _ (by (try simp); omega)).trans hblk
        try simp at hz
        replace r5 := r5.below hB13
        replace r9 := r9.below hB13
        have f0 : w13.cell? ⟨w.heap.size + 1, 0, none⟩ = some (.int .i64 0) := cell_of_row _ _ 0 _ _ _ hblk
        have f1 : w13.cell? ⟨w.heap.size + 1, 1, none⟩ = some (.slice none 0 0) := cell_of_row _ _ 1 _ _ _ hblk
        have f2 : w13.cell? ⟨w.heap.size + 1, 2, none⟩ = some (.slice none 0 0) := cell_of_row _ _ 2 _ _ _ hblk
        have f3 : w13.cell? ⟨w.heap.size + 1, 3, none⟩ = some (.slice none 0 0) := cell_of_row _ _ 3 _ _ _ hblk
        have z0 := frozen_of_row _ _ 0 _ _ hblk
        have z1 := frozen_of_row _ _ 1 _ _ hblk
        have z2 := frozen_of_row _ _ 2 _ _ hblk
        have z3 := frozen_of_row _ _ 3 _ _ hblk
        refine wpAnyH_take (i := 14) (oi := _) (v := ?_) (by rw [List.getElem?_toArray]; rfl) (by kernel_rfl) (by kernel_rfl) (by kernel_rfl) (by exact fun _ _ _ h => h) (Or.inl ⟨by rfl, ?_⟩) (by assumption) ?_
        rotate_left
        · intro w hSw
          try simp only [Cells, blk, List.cons_append, List.nil_append, and_true, Nat.reduceAdd, Nat.add_zero, Nat.zero_add] at hSw
          go_simp
          try with_reducible rfl
        simp only [Act.put, List.setIfInBounds_toArray, List.set_cons_zero, List.set_cons_succ]
        refine wpAnyH_ready (rs := [15]) (by kernel_rfl) (by simp) (AllReadyH.cons (o := _) (by rw [List.getElem?_toArray]; rfl) (fun K hK => ?_) AllReadyH.nil)
        go_simp
        refine hK.out _ _ (⟨(((hHeld.1.setCell (by simp) _).setCell (by simp) _).setCell (by simp) _).setCell (by simp) _, by simpa [World.setCell] using hHeld.2.1, (((hHeld.2.2.setCell (by simp [blk]) _).setCell (by simp [blk]) _).setCell (by simp [blk]) _).setCell (by simp [blk]) _⟩) (fun hHeld2 => ?_)
        replace hHeld := hHeld2
        clear hK K hHeld2
        try simp only [Act.put, List.setIfInBounds_toArray, List.set_cons_zero, List.set_cons_succ]
        have s5 := (((r5.set (p := ⟨w.heap.size + 1, 0, none⟩) (by simp) (.int .i64 d)).set (p := ⟨w.heap.size + 1, 1, none⟩) (by simp) (.slice a5 ls.length c5)).set (p := ⟨w.heap.size + 1, 2, none⟩) (by simp) (.slice a9 js.length c9)).set (p := ⟨w.heap.size + 1, 3, none⟩) (by simp) (.slice a13 ss.length c13)
        have s9 := (((r9.set (p := ⟨w.heap.size + 1, 0, none⟩) (by simp) (.int .i64 d)).set (p := ⟨w.heap.size + 1, 1, none⟩) (by simp) (.slice a5 ls.length c5)).set (p := ⟨w.heap.size + 1, 2, none⟩) (by simp) (.slice a9 js.length c9)).set (p := ⟨w.heap.size + 1, 3, none⟩) (by simp) (.slice a13 ss.length c13)
        have s13 := (((r13.set (p := ⟨w.heap.size + 1, 0, none⟩) (by simp) (.int .i64 d)).set (p := ⟨w.heap.size + 1, 1, none⟩) (by simp) (.slice a5 ls.length c5)).set (p := ⟨w.heap.size + 1, 2, none⟩) (by simp) (.slice a9 js.length c9)).set (p := ⟨w.heap.size + 1, 3, none⟩) (by simp) (.slice a13 ss.length c13)
        have hend := hHeld.1
        refine wpAnyH_done (by kernel_rfl) ?_ _
        go_wp2
        refine bodyPost_ret (v := .agg #[.int .i64 d, .slice a5 ls.length c5, .slice a9 js.length c9, .slice a13 ss.length c13]) (by simp [results, Try.results18, go_sem, f0, f1, f2, f3]) rfl ?_
        exact ⟨_, _, _, rfl, ⟨s5.1, s5.2.mono (by omega)⟩, ⟨s9.1, s9.2.mono (by omega)⟩, ⟨s13.1, s13.2.mono (by omega)⟩, hend⟩
  · go_simp
    refine hK.out _ _ (⟨hHeld.1.alloc hHeld.1.size _, Nat.le_trans hHeld.2.1 (by simp), hHeld.2.2.keep ((Below.refl _ _).alloc (Nat.le_refl _) _)⟩) (fun hHeld2 => ?_)
    replace hHeld := hHeld2
    clear hK K hHeld2
    try simp only [Act.put, List.setIfInBounds_toArray, List.set_cons_zero, List.set_cons_succ]
    have hz := hHeld.2.1
    try simp at hz
    replace hblk := (Below.heap_alloc _ (.cells #[] 64) _ (by (try simp); omega)).trans hblk
    try replace r5 := r5.alloc (.cells #[] 64)
    try replace r9 := r9.alloc (.cells #[] 64)
    refine wpAnyH_ready (rs := [2, 10]) (by kernel_rfl) (by simp) (AllReadyH.cons (o := _) (by rw [List.getElem?_toArray]; rfl) (fun K hK => ?_) (AllReadyH.cons (o := _) (by rw [List.getElem?_toArray]; rfl) (fun K hK => ?_) AllReadyH.nil))
    · go_simp
      refine hK.out _ _ (⟨hHeld.1.alloc hHeld.1.size _, Nat.le_trans hHeld.2.1 (by simp), hHeld.2.2.keep ((Below.refl _ _).alloc (Nat.le_refl _) _)⟩) (fun hHeld2 => ?_)
      replace hHeld := hHeld2
      clear hK K hHeld2
      try simp only [Act.put, List.setIfInBounds_toArray, List.set_cons_zero, List.set_cons_succ]
      have hz := hHeld.2.1
      try simp at hz
      replace hblk := (Below.heap_alloc _ (.cells #[] 62) _ (by (try simp); omega)).trans hblk
      try replace r5 := r5.alloc (.cells #[] 62)
      try replace r9 := r9.alloc (.cells #[] 62)
      refine wpAnyH_ready (rs := [5, 10]) (by kernel_rfl) (by simp) (AllReadyH.cons (o := _) (by rw [List.getElem?_toArray]; rfl) (fun K hK => ?_) (AllReadyH.cons (o := _) (by rw [List.getElem?_toArray]; rfl) (fun K hK => ?_) AllReadyH.nil))
      · refine step_append_empty (by rfl) _ _ 30 (by rfl) 62 i1 _ 2 16 Try.underlying30 hi1 hz1 hs1 hb1 rfl (by decide) _ (by rfl) lv _ (tcells ls) (by rfl) (H1.out.below hHeld.1) b1 ?_
        intro v5 w5 r5 hB5 ho5 hn5
        have o5 : Own (w.heap.size + 2) v5 := by
          intro k hk
          have hq := hHeld.2.1
          try simp at hq
          rcases ho5 with h | h <;> (rw [h] at hk; simp at hk; omega)
        replace r5 : SRO (w.heap.size + 2) w5 v5 _ _ _ := ⟨r5, o5⟩
        obtain ⟨a5, c5, rfl⟩ := r5.1.val
        clear ho5 o5
        refine hK.out _ _ (⟨hHeld.1.trans (hB5.mono hHeld.1.size), Nat.le_trans hHeld.2.1 hB5.size, hHeld.2.2.keep hB5⟩) (fun hHeld2 => ?_)
        replace hHeld := hHeld2
        clear hK K hHeld2
        try simp only [Act.put, List.setIfInBounds_toArray, List.set_cons_zero, List.set_cons_succ]
        have hz := hHeld.2.1
        replace hblk := (hB5.block _ (by (try simp); omega)).trans hblk
        try simp at hz
        refine wpAnyH_ready (rs := [9, 10]) (by kernel_rfl) (by simp) (AllReadyH.cons (o := _) (by rw [List.getElem?_toArray]; rfl) (fun K hK => ?_) (AllReadyH.cons (o := _) (by rw [List.getElem?_toArray]; rfl) (fun K hK => ?_) AllReadyH.nil))
        · refine step_append_empty (by rfl) _ _ 31 (by rfl) 64 i2 _ 3 24 Try.underlying31 hi2 hz2 hs2 hb2 rfl (by decide) _ (by rfl) jv _ (jcells js) (by rfl) (H2.out.below hHeld.1) b2 ?_
          intro v9 w9 r9 hB9 ho9 hn9
          have o9 : Own (w.heap.size + 2) v9 := by
            intro k hk
            have hq := hHeld.2.1
            try simp at hq
            rcases ho9 with h | h <;> (rw [h] at hk; simp at hk; omega)
          replace r9 : SRO (w.heap.size + 2) w9 v9 _ _ _ := ⟨r9, o9⟩
          obtain ⟨a9, c9, rfl⟩ := r9.1.val
          clear ho9 o9
          refine hK.out _ _ (⟨hHeld.1.trans (hB9.mono hHeld.1.size), Nat.le_trans hHeld.2.1 hB9.size, hHeld.2.2.keep hB9⟩) (fun hHeld2 => ?_)
          replace hHeld := hHeld2
          clear hK K hHeld2
          try simp only [Act.put, List.setIfInBounds_toArray, List.set_cons_zero, List.set_cons_succ]
          have hz := hHeld.2.1
          replace hblk := (hB9.block _ (by (try simp); omega)).trans hblk
          try simp at hz
          replace r5 := r5.below hB9
          refine wpAnyH_ready (rs := [10]) (by kernel_rfl) (by simp) (AllReadyH.cons (o := _) (by rw [List.getElem?_toArray]; rfl) (fun K hK => ?_) AllReadyH.nil)
          go_simp
          refine hK.out _ _ (⟨hHeld.1.alloc hHeld.1.size _, Nat.le_trans hHeld.2.1 (by simp), hHeld.2.2.keep ((Below.refl _ _).alloc (Nat.le_refl _) _)⟩) (fun hHeld2 => ?_)
          replace hHeld := hHeld2
          clear hK K hHeld2
          try simp only [Act.put, List.setIfInBounds_toArray, List.set_cons_zero, List.set_cons_succ]
          have hz := hHeld.2.1
          try simp at hz
          replace hblk := (Below.heap_alloc _ (.cells #[] 66) _ (by (try simp); omega)).trans hblk
          try replace r5 := r5.alloc (.cells #[] 66)
          try replace r9 := r9.alloc (.cells #[] 66)
          refine wpAnyH_ready (rs := [13]) (by kernel_rfl) (by simp) (AllReadyH.cons (o := _) (by rw [List.getElem?_toArray]; rfl) (fun K hK => ?_) AllReadyH.nil)
          refine step_append_empty (by rfl) _ _ 32 (by rfl) 66 i3 _ 2 16 Try.underlying32 hi3 hz3 hs3 hb3 rfl (by decide) _ (by rfl) sv _ (tcells ss) (by rfl) (H3.out.below hHeld.1) b3 ?_
          intro v13 w13 r13 hB13 ho13 hn13
          have o13 : Own (w.heap.size + 2) v13 := by
            intro k hk
            have hq := hHeld.2.1
            try simp at hq
            rcases ho13 with h | h <;> (rw [h] at hk; simp at hk; omega)
          replace r13 : SRO (w.heap.size + 2) w13 v13 _ _ _ := ⟨r13, o13⟩
          obtain ⟨a13, c13, rfl⟩ := r13.1.val
          clear ho13 o13
          refine hK.out _ _ (⟨hHeld.1.trans (hB13.mono hHeld.1.size), Nat.le_trans hHeld.2.1 hB13.size, hHeld.2.2.keep hB13⟩) (fun hHeld2 => ?_)
          replace hHeld := hHeld2
          clear hK K hHeld2
          try simp only [Act.put, List.setIfInBounds_toArray, List.set_cons_zero, List.set_cons_succ]
          have hz := hHeld.2.1
          replace hblk := (hB13.block _ (by (try simp); omega)).trans hblk
          try simp at hz
          replace r5 := r5.below hB13
          replace r9 := r9.below hB13
          have f0 : w13.cell? ⟨w.heap.size + 1, 0, none⟩ = some (.int .i64 0) := cell_of_row _ _ 0 _ _ _ hblk
          have f1 : w13.cell? ⟨w.heap.size + 1, 1, none⟩ = some (.slice none 0 0) := cell_of_row _ _ 1 _ _ _ hblk
          have f2 : w13.cell? ⟨w.heap.size + 1, 2, none⟩ = some (.slice none 0 0) := cell_of_row _ _ 2 _ _ _ hblk
          have f3 : w13.cell? ⟨w.heap.size + 1, 3, none⟩ = some (.slice none 0 0) := cell_of_row _ _ 3 _ _ _ hblk
          have z0 := frozen_of_row _ _ 0 _ _ hblk
          have z1 := frozen_of_row _ _ 1 _ _ hblk
          have z2 := frozen_of_row _ _ 2 _ _ hblk
          have z3 := frozen_of_row _ _ 3 _ _ hblk
          refine wpAnyH_take (i := 14) (oi := _) (v := ?_) (by rw [List.getElem?_toArray]; rfl) (by kernel_rfl) (by kernel_rfl) (by kernel_rfl) (by exact fun _ _ _ h => h) (Or.inl ⟨by rfl, ?_⟩) (by assumption) ?_
          rotate_left
          · intro w hSw
            try simp only [Cells, blk, List.cons_append, List.nil_append, and_true, Nat.reduceAdd, Nat.add_zero, Nat.zero_add] at hSw
            go_simp
            try with_reducible rfl
          simp only [Act.put, List.setIfInBounds_toArray, List.set_cons_zero, List.set_cons_succ]
          refine wpAnyH_ready (rs := [15]) (by kernel_rfl) (by simp) (AllReadyH.cons (o := _) (by rw [List.getElem?_toArray]; rfl) (fun K hK => ?_) AllReadyH.nil)
          go_simp
          refine hK.out _ _ (⟨(((hHeld.1.setCell (by simp) _).setCell (by simp) _).setCell (by simp) _).setCell (by simp) _, by simpa [World.setCell] using hHeld.2.1, (((hHeld.2.2.setCell (by simp [blk]) _).setCell (by simp [blk]) _).setCell (by simp [blk]) _).setCell (by simp [blk]) _⟩) (fun hHeld2 => ?_)
          replace hHeld := hHeld2
          clear hK K hHeld2
          try simp only [Act.put, List.setIfInBounds_toArray, List.set_cons_zero, List.set_cons_succ]
          have s5 := (((r5.set (p := ⟨w.heap.size + 1, 0, none⟩) (by simp) (.int .i64 d)).set (p := ⟨w.heap.size + 1, 1, none⟩) (by simp) (.slice a5 ls.length c5)).set (p := ⟨w.heap.size + 1, 2, none⟩) (by simp) (.slice a9 js.length c9)).set (p := ⟨w.heap.size + 1, 3, none⟩) (by simp) (.slice a13 ss.length c13)
          have s9 := (((r9.set (p := ⟨w.heap.size + 1, 0, none⟩) (by simp) (.int .i64 d)).set (p := ⟨w.heap.size + 1, 1, none⟩) (by simp) (.slice a5 ls.length c5)).set (p := ⟨w.heap.size + 1, 2, none⟩) (by simp) (.slice a9 js.length c9)).set (p := ⟨w.heap.size + 1, 3, none⟩) (by simp) (.slice a13 ss.length c13)
          have s13 := (((r13.set (p := ⟨w.heap.size + 1, 0, none⟩) (by simp) (.int .i64 d)).set (p := ⟨w.heap.size + 1, 1, none⟩) (by simp) (.slice a5 ls.length c5)).set (p := ⟨w.heap.size + 1, 2, none⟩) (by simp) (.slice a9 js.length c9)).set (p := ⟨w.heap.size + 1, 3, none⟩) (by simp) (.slice a13 ss.length c13)
          have hend := hHeld.1
          refine wpAnyH_done (by kernel_rfl) ?_ _
          go_wp2
          refine bodyPost_ret (v := .agg #[.int .i64 d, .slice a5 ls.length c5, .slice a9 js.length c9, .slice a13 ss.length c13]) (by simp [results, Try.results18, go_sem, f0, f1, f2, f3]) rfl ?_
          exact ⟨_, _, _, rfl, ⟨s5.1, s5.2.mono (by omega)⟩, ⟨s9.1, s9.2.mono (by omega)⟩, ⟨s13.1, s13.2.mono (by omega)⟩, hend⟩
        · go_simp
          refine hK.out _ _ (⟨hHeld.1.alloc hHeld.1.size _, Nat.le_trans hHeld.2.1 (by simp), hHeld.2.2.keep ((Below.refl _ _).alloc (Nat.le_refl _) _)⟩) (fun hHeld2 => ?_)
          replace hHeld := hHeld2
          clear hK K hHeld2
          try simp only [Act.put, List.setIfInBounds_toArray, List.set_cons_zero, List.set_cons_succ]
          have hz := hHeld.2.1
          try simp at hz
          replace hblk := (Below.heap_alloc _ (.cells #[] 66) _ (by (try simp); omega)).trans hblk
          try replace r5 := r5.alloc (.cells #[] 66)
          try replace r9 := r9.alloc (.cells #[] 66)
          refine wpAnyH_ready (rs := [9]) (by kernel_rfl) (by simp) (AllReadyH.cons (o := _) (by rw [List.getElem?_toArray]; rfl) (fun K hK => ?_) AllReadyH.nil)
          refine step_append_empty (by rfl) _ _ 31 (by rfl) 64 i2 _ 3 24 Try.underlying31 hi2 hz2 hs2 hb2 rfl (by decide) _ (by rfl) jv _ (jcells js) (by rfl) (H2.out.below hHeld.1) b2 ?_
          intro v9 w9 r9 hB9 ho9 hn9
          have o9 : Own (w.heap.size + 2) v9 := by
            intro k hk
            have hq := hHeld.2.1
            try simp at hq
            rcases ho9 with h | h <;> (rw [h] at hk; simp at hk; omega)
          replace r9 : SRO (w.heap.size + 2) w9 v9 _ _ _ := ⟨r9, o9⟩
          obtain ⟨a9, c9, rfl⟩ := r9.1.val
          clear ho9 o9
          refine hK.out _ _ (⟨hHeld.1.trans (hB9.mono hHeld.1.size), Nat.le_trans hHeld.2.1 hB9.size, hHeld.2.2.keep hB9⟩) (fun hHeld2 => ?_)
          replace hHeld := hHeld2
          clear hK K hHeld2
          try simp only [Act.put, List.setIfInBounds_toArray, List.set_cons_zero, List.set_cons_succ]
          have hz := hHeld.2.1
          replace hblk := (hB9.block _ (by (try simp); omega)).trans hblk
          try simp at hz
          replace r5 := r5.below hB9
          refine wpAnyH_ready (rs := [13]) (by kernel_rfl) (by simp) (AllReadyH.cons (o := _) (by rw [List.getElem?_toArray]; rfl) (fun K hK => ?_) AllReadyH.nil)
          refine step_append_empty (by rfl) _ _ 32 (by rfl) 66 i3 _ 2 16 Try.underlying32 hi3 hz3 hs3 hb3 rfl (by decide) _ (by rfl) sv _ (tcells ss) (by rfl) (H3.out.below hHeld.1) b3 ?_
          intro v13 w13 r13 hB13 ho13 hn13
          have o13 : Own (w.heap.size + 2) v13 := by
            intro k hk
            have hq := hHeld.2.1
            try simp at hq
            rcases ho13 with h | h <;> (rw [h] at hk; simp at hk; omega)
          replace r13 : SRO (w.heap.size + 2) w13 v13 _ _ _ := ⟨r13, o13⟩
          obtain ⟨a13, c13, rfl⟩ := r13.1.val
          clear ho13 o13
          refine hK.out _ _ (⟨hHeld.1.trans (hB13.mono hHeld.1.size), Nat.le_trans hHeld.2.1 hB13.size, hHeld.2.2.keep hB13⟩) (fun hHeld2 => ?_)
          replace hHeld := hHeld2
          clear hK K hHeld2
          try simp only [Act.put, List.setIfInBounds_toArray, List.set_cons_zero, List.set_cons_succ]
          have hz := hHeld.2.1
          replace hblk := (hB13.block _ (by (try simp); omega)).trans hblk
          try simp at hz
          replace r5 := r5.below hB13
          replace r9 := r9.below hB13
          have f0 : w13.cell? ⟨w.heap.size + 1, 0, none⟩ = some (.int .i64 0) := cell_of_row _ _ 0 _ _ _ hblk
          have f1 : w13.cell? ⟨w.heap.size + 1, 1, none⟩ = some (.slice none 0 0) := cell_of_row _ _ 1 _ _ _ hblk
          have f2 : w13.cell? ⟨w.heap.size + 1, 2, none⟩ = some (.slice none 0 0) := cell_of_row _ _ 2 _ _ _ hblk
          have f3 : w13.cell? ⟨w.heap.size + 1, 3, none⟩ = some (.slice none 0 0) := cell_of_row _ _ 3 _ _ _ hblk
          have z0 := frozen_of_row _ _ 0 _ _ hblk
          have z1 := frozen_of_row _ _ 1 _ _ hblk
          have z2 := frozen_of_row _ _ 2 _ _ hblk
          have z3 := frozen_of_row _ _ 3 _ _ hblk
          refine wpAnyH_take (i := 14) (oi := _) (v := ?_) (by rw [List.getElem?_toArray]; rfl) (by kernel_rfl) (by kernel_rfl) (by kernel_rfl) (by exact fun _ _ _ h => h) (Or.inl ⟨by rfl, ?_⟩) (by assumption) ?_
          rotate_left
          · intro w hSw
            try simp only [Cells, blk, List.cons_append, List.nil_append, and_true, Nat.reduceAdd, Nat.add_zero, Nat.zero_add] at hSw
            go_simp
            try with_reducible rfl
          simp only [Act.put, List.setIfInBounds_toArray, List.set_cons_zero, List.set_cons_succ]
          refine wpAnyH_ready (rs := [15]) (by kernel_rfl) (by simp) (AllReadyH.cons (o := _) (by rw [List.getElem?_toArray]; rfl) (fun K hK => ?_) AllReadyH.nil)
          go_simp
          refine hK.out _ _ (⟨(((hHeld.1.setCell (by simp) _).setCell (by simp) _).setCell (by simp) _).setCell (by simp) _, by simpa [World.setCell] using hHeld.2.1, (((hHeld.2.2.setCell (by simp [blk]) _).setCell (by simp [blk]) _).setCell (by simp [blk]) _).setCell (by simp [blk]) _⟩) (fun hHeld2 => ?_)
          replace hHeld := hHeld2
          clear hK K hHeld2
          try simp only [Act.put, List.setIfInBounds_toArray, List.set_cons_zero, List.set_cons_succ]
          have s5 := (((r5.set (p := ⟨w.heap.size + 1, 0, none⟩) (by simp) (.int .i64 d)).set (p := ⟨w.heap.size + 1, 1, none⟩) (by simp) (.slice a5 ls.length c5)).set (p := ⟨w.heap.size + 1, 2, none⟩) (by simp) (.slice a9 js.length c9)).set (p := ⟨w.heap.size + 1, 3, none⟩) (by simp) (.slice a13 ss.length c13)
          have s9 := (((r9.set (p := ⟨w.heap.size + 1, 0, none⟩) (by simp) (.int .i64 d)).set (p := ⟨w.heap.size + 1, 1, none⟩) (by simp) (.slice a5 ls.length c5)).set (p := ⟨w.heap.size + 1, 2, none⟩) (by simp) (.slice a9 js.length c9)).set (p := ⟨w.heap.size + 1, 3, none⟩) (by simp) (.slice a13 ss.length c13)
          have s13 := (((r13.set (p := ⟨w.heap.size + 1, 0, none⟩) (by simp) (.int .i64 d)).set (p := ⟨w.heap.size + 1, 1, none⟩) (by simp) (.slice a5 ls.length c5)).set (p := ⟨w.heap.size + 1, 2, none⟩) (by simp) (.slice a9 js.length c9)).set (p := ⟨w.heap.size + 1, 3, none⟩) (by simp) (.slice a13 ss.length c13)
          have hend := hHeld.1
          refine wpAnyH_done (by kernel_rfl) ?_ _
          go_wp2
          refine bodyPost_ret (v := .agg #[.int .i64 d, .slice a5 ls.length c5, .slice a9 js.length c9, .slice a13 ss.length c13]) (by simp [results, Try.results18, go_sem, f0, f1, f2, f3]) rfl ?_
          exact ⟨_, _, _, rfl, ⟨s5.1, s5.2.mono (by omega)⟩, ⟨s9.1, s9.2.mono (by omega)⟩, ⟨s13.1, s13.2.mono (by omega)⟩, hend⟩
      · go_simp
        refine hK.out _ _ (⟨hHeld.1.alloc hHeld.1.size _, Nat.le_trans hHeld.2.1 (by simp), hHeld.2.2.keep ((Below.refl _ _).alloc (Nat.le_refl _) _)⟩) (fun hHeld2 => ?_)
        replace hHeld := hHeld2
        clear hK K hHeld2
        try simp only [Act.put, List.setIfInBounds_toArray, List.set_cons_zero, List.set_cons_succ]
        have hz := hHeld.2.1
        try simp at hz
        replace hblk := (Below.heap_alloc _ (.cells #[] 66) _ (by (try simp); omega)).trans hblk
        try replace r5 := r5.alloc (.cells #[] 66)
        try replace r9 := r9.alloc (.cells #[] 66)
        refine wpAnyH_ready (rs := [5]) (by kernel_rfl) (by simp) (AllReadyH.cons (o := _) (by rw [List.getElem?_toArray]; rfl) (fun K hK => ?_) AllReadyH.nil)
        refine step_append_empty (by rfl) _ _ 30 (by rfl) 62 i1 _ 2 16 Try.underlying30 hi1 hz1 hs1 hb1 rfl (by decide) _ (by rfl) lv _ (tcells ls) (by rfl) (H1.out.below hHeld.1) b1 ?_
        intro v5 w5 r5 hB5 ho5 hn5
        have o5 : Own (w.heap.size + 2) v5 := by
          intro k hk
          have hq := hHeld.2.1
          try simp at hq
          rcases ho5 with h | h <;> (rw [h] at hk; simp at hk; omega)
        replace r5 : SRO (w.heap.size + 2) w5 v5 _ _ _ := ⟨r5, o5⟩
        obtain ⟨a5, c5, rfl⟩ := r5.1.val
        clear ho5 o5
        refine hK.out _ _ (⟨hHeld.1.trans (hB5.mono hHeld.1.size), Nat.le_trans hHeld.2.1 hB5.size, hHeld.2.2.keep hB5⟩) (fun hHeld2 => ?_)
        replace hHeld := hHeld2
        clear hK K hHeld2
        try simp only [Act.put, List.setIfInBounds_toArray, List.set_cons_zero, List.set_cons_succ]
        have hz := hHeld.2.1
        replace hblk := (hB5.block _ (by (try simp); omega)).trans hblk
        try simp at hz
        refine wpAnyH_ready (rs := [9]) (by kernel_rfl) (by simp) (AllReadyH.cons (o := _) (by rw [List.getElem?_toArray]; rfl) (fun K hK => ?_) AllReadyH.nil)
        refine step_append_empty (by rfl) _ _ 31 (by rfl) 64 i2 _ 3 24 Try.underlying31 hi2 hz2 hs2 hb2 rfl (by decide) _ (by rfl) jv _ (jcells js) (by rfl) (H2.out.below hHeld.1) b2 ?_
        intro v9 w9 r9 hB9 ho9 hn9
        have o9 : Own (w.heap.size + 2) v9 := by
          intro k hk
          have hq := hHeld.2.1
          try simp at hq
          rcases ho9 with h | h <;> (rw [h] at hk; simp at hk; omega)
        replace r9 : SRO (w.heap.size + 2) w9 v9 _ _ _ := ⟨r9, o9⟩
        obtain ⟨a9, c9, rfl⟩ := r9.1.val
        clear ho9 o9
        refine hK.out _ _ (⟨hHeld.1.trans (hB9.mono hHeld.1.size), Nat.le_trans hHeld.2.1 hB9.size, hHeld.2.2.keep hB9⟩) (fun hHeld2 => ?_)
        replace hHeld := hHeld2
        clear hK K hHeld2
        try simp only [Act.put, List.setIfInBounds_toArray, List.set_cons_zero, List.set_cons_succ]
        have hz := hHeld.2.1
        replace hblk := (hB9.block _ (by (try simp); omega)).trans hblk
        try simp at hz
        replace r5 := r5.below hB9
        refine wpAnyH_ready (rs := [13]) (by kernel_rfl) (by simp) (AllReadyH.cons (o := _) (by rw [List.getElem?_toArray]; rfl) (fun K hK => ?_) AllReadyH.nil)
        refine step_append_empty (by rfl) _ _ 32 (by rfl) 66 i3 _ 2 16 Try.underlying32 hi3 hz3 hs3 hb3 rfl (by decide) _ (by rfl) sv _ (tcells ss) (by rfl) (H3.out.below hHeld.1) b3 ?_
        intro v13 w13 r13 hB13 ho13 hn13
        have o13 : Own (w.heap.size + 2) v13 := by
          intro k hk
          have hq := hHeld.2.1
          try simp at hq
          rcases ho13 with h | h <;> (rw [h] at hk; simp at hk; omega)
        replace r13 : SRO (w.heap.size + 2) w13 v13 _ _ _ := ⟨r13, o13⟩
        obtain ⟨a13, c13, rfl⟩ := r13.1.val
        clear ho13 o13
        refine hK.out _ _ (⟨hHeld.1.trans (hB13.mono hHeld.1.size), Nat.le_trans hHeld.2.1 hB13.size, hHeld.2.2.keep hB13⟩) (fun hHeld2 => ?_)
        replace hHeld := hHeld2
        clear hK K hHeld2
        try simp only [Act.put, List.setIfInBounds_toArray, List.set_cons_zero, List.set_cons_succ]
        have hz := hHeld.2.1
        replace hblk := (hB13.block _ (by (try simp); omega)).trans hblk
        try simp at hz
        replace r5 := r5.below hB13
        replace r9 := r9.below hB13
        have f0 : w13.cell? ⟨w.heap.size + 1, 0, none⟩ = some (.int .i64 0) := cell_of_row _ _ 0 _ _ _ hblk
        have f1 : w13.cell? ⟨w.heap.size + 1, 1, none⟩ = some (.slice none 0 0) := cell_of_row _ _ 1 _ _ _ hblk
        have f2 : w13.cell? ⟨w.heap.size + 1, 2, none⟩ = some (.slice none 0 0) := cell_of_row _ _ 2 _ _ _ hblk
        have f3 : w13.cell? ⟨w.heap.size + 1, 3, none⟩ = some (.slice none 0 0) := cell_of_row _ _ 3 _ _ _ hblk
        have z0 := frozen_of_row _ _ 0 _ _ hblk
        have z1 := frozen_of_row _ _ 1 _ _ hblk
        have z2 := frozen_of_row _ _ 2 _ _ hblk
        have z3 := frozen_of_row _ _ 3 _ _ hblk
        refine wpAnyH_take (i := 14) (oi := _) (v := ?_) (by rw [List.getElem?_toArray]; rfl) (by kernel_rfl) (by kernel_rfl) (by kernel_rfl) (by exact fun _ _ _ h => h) (Or.inl ⟨by rfl, ?_⟩) (by assumption) ?_
        rotate_left
        · intro w hSw
          try simp only [Cells, blk, List.cons_append, List.nil_append, and_true, Nat.reduceAdd, Nat.add_zero, Nat.zero_add] at hSw
          go_simp
          try with_reducible rfl
        simp only [Act.put, List.setIfInBounds_toArray, List.set_cons_zero, List.set_cons_succ]
        refine wpAnyH_ready (rs := [15]) (by kernel_rfl) (by simp) (AllReadyH.cons (o := _) (by rw [List.getElem?_toArray]; rfl) (fun K hK => ?_) AllReadyH.nil)
        go_simp
        refine hK.out _ _ (⟨(((hHeld.1.setCell (by simp) _).setCell (by simp) _).setCell (by simp) _).setCell (by simp) _, by simpa [World.setCell] using hHeld.2.1, (((hHeld.2.2.setCell (by simp [blk]) _).setCell (by simp [blk]) _).setCell (by simp [blk]) _).setCell (by simp [blk]) _⟩) (fun hHeld2 => ?_)
        replace hHeld := hHeld2
        clear hK K hHeld2
        try simp only [Act.put, List.setIfInBounds_toArray, List.set_cons_zero, List.set_cons_succ]
        have s5 := (((r5.set (p := ⟨w.heap.size + 1, 0, none⟩) (by simp) (.int .i64 d)).set (p := ⟨w.heap.size + 1, 1, none⟩) (by simp) (.slice a5 ls.length c5)).set (p := ⟨w.heap.size + 1, 2, none⟩) (by simp) (.slice a9 js.length c9)).set (p := ⟨w.heap.size + 1, 3, none⟩) (by simp) (.slice a13 ss.length c13)
        have s9 := (((r9.set (p := ⟨w.heap.size + 1, 0, none⟩) (by simp) (.int .i64 d)).set (p := ⟨w.heap.size + 1, 1, none⟩) (by simp) (.slice a5 ls.length c5)).set (p := ⟨w.heap.size + 1, 2, none⟩) (by simp) (.slice a9 js.length c9)).set (p := ⟨w.heap.size + 1, 3, none⟩) (by simp) (.slice a13 ss.length c13)
        have s13 := (((r13.set (p := ⟨w.heap.size + 1, 0, none⟩) (by simp) (.int .i64 d)).set (p := ⟨w.heap.size + 1, 1, none⟩) (by simp) (.slice a5 ls.length c5)).set (p := ⟨w.heap.size + 1, 2, none⟩) (by simp) (.slice a9 js.length c9)).set (p := ⟨w.heap.size + 1, 3, none⟩) (by simp) (.slice a13 ss.length c13)
        have hend := hHeld.1
        refine wpAnyH_done (by kernel_rfl) ?_ _
        go_wp2
        refine bodyPost_ret (v := .agg #[.int .i64 d, .slice a5 ls.length c5, .slice a9 js.length c9, .slice a13 ss.length c13]) (by simp [results, Try.results18, go_sem, f0, f1, f2, f3]) rfl ?_
        exact ⟨_, _, _, rfl, ⟨s5.1, s5.2.mono (by omega)⟩, ⟨s9.1, s9.2.mono (by omega)⟩, ⟨s13.1, s13.2.mono (by omega)⟩, hend⟩
    · go_simp
      refine hK.out _ _ (⟨hHeld.1.alloc hHeld.1.size _, Nat.le_trans hHeld.2.1 (by simp), hHeld.2.2.keep ((Below.refl _ _).alloc (Nat.le_refl _) _)⟩) (fun hHeld2 => ?_)
      replace hHeld := hHeld2
      clear hK K hHeld2
      try simp only [Act.put, List.setIfInBounds_toArray, List.set_cons_zero, List.set_cons_succ]
      have hz := hHeld.2.1
      try simp at hz
      replace hblk := (Below.heap_alloc _ (.cells #[] 66) _ (by (try simp); omega)).trans hblk
      try replace r5 := r5.alloc (.cells #[] 66)
      try replace r9 := r9.alloc (.cells #[] 66)
      refine wpAnyH_ready (rs := [2]) (by kernel_rfl) (by simp) (AllReadyH.cons (o := _) (by rw [List.getElem?_toArray]; rfl) (fun K hK => ?_) AllReadyH.nil)
      go_simp
      refine hK.out _ _ (⟨hHeld.1.alloc hHeld.1.size _, Nat.le_trans hHeld.2.1 (by simp), hHeld.2.2.keep ((Below.refl _ _).alloc (Nat.le_refl _) _)⟩) (fun hHeld2 => ?_)
      replace hHeld := hHeld2
      clear hK K hHeld2
      try simp only [Act.put, List.setIfInBounds_toArray, List.set_cons_zero, List.set_cons_succ]
      have hz := hHeld.2.1
      try simp at hz
      replace hblk := (Below.heap_alloc _ (.cells #[] 62) _ (by (try simp); omega)).trans hblk
      try replace r5 := r5.alloc (.cells #[] 62)
      try replace r9 := r9.alloc (.cells #[] 62)
      refine wpAnyH_ready (rs := [5]) (by kernel_rfl) (by simp) (AllReadyH.cons (o := _) (by rw [List.getElem?_toArray]; rfl) (fun K hK => ?_) AllReadyH.nil)
      refine step_append_empty (by rfl) _ _ 30 (by rfl) 62 i1 _ 2 16 Try.underlying30 hi1 hz1 hs1 hb1 rfl (by decide) _ (by rfl) lv _ (tcells ls) (by rfl) (H1.out.below hHeld.1) b1 ?_
      intro v5 w5 r5 hB5 ho5 hn5
      have o5 : Own (w.heap.size + 2) v5 := by
        intro k hk
        have hq := hHeld.2.1
        try simp at hq
        rcases ho5 with h | h <;> (rw [h] at hk; simp at hk; omega)
      replace r5 : SRO (w.heap.size + 2) w5 v5 _ _ _ := ⟨r5, o5⟩
      obtain ⟨a5, c5, rfl⟩ := r5.1.val
      clear ho5 o5
      refine hK.out _ _ (⟨hHeld.1.trans (hB5.mono hHeld.1.size), Nat.le_trans hHeld.2.1 hB5.size, hHeld.2.2.keep hB5⟩) (fun hHeld2 => ?_)
      replace hHeld := hHeld2
      clear hK K hHeld2
      try simp only [Act.put, List.setIfInBounds_toArray, List.set_cons_zero, List.set_cons_succ]
      have hz := hHeld.2.1
      replace hblk := (hB5.block _ (by (try simp); omega)).trans hblk
      try simp at hz
      refine wpAnyH_ready (rs := [9]) (by kernel_rfl) (by simp) (AllReadyH.cons (o := _) (by rw [List.getElem?_toArray]; rfl) (fun K hK => ?_) AllReadyH.nil)
      refine step_append_empty (by rfl) _ _ 31 (by rfl) 64 i2 _ 3 24 Try.underlying31 hi2 hz2 hs2 hb2 rfl (by decide) _ (by rfl) jv _ (jcells js) (by rfl) (H2.out.below hHeld.1) b2 ?_
      intro v9 w9 r9 hB9 ho9 hn9
      have o9 : Own (w.heap.size + 2) v9 := by
        intro k hk
        have hq := hHeld.2.1
        try simp at hq
        rcases ho9 with h | h <;> (rw [h] at hk; simp at hk; omega)
      replace r9 : SRO (w.heap.size + 2) w9 v9 _ _ _ := ⟨r9, o9⟩
      obtain ⟨a9, c9, rfl⟩ := r9.1.val
      clear ho9 o9
      refine hK.out _ _ (⟨hHeld.1.trans (hB9.mono hHeld.1.size), Nat.le_trans hHeld.2.1 hB9.size, hHeld.2.2.keep hB9⟩) (fun hHeld2 => ?_)
      replace hHeld := hHeld2
      clear hK K hHeld2
      try simp only [Act.put, List.setIfInBounds_toArray, List.set_cons_zero, List.set_cons_succ]
      have hz := hHeld.2.1
      replace hblk := (hB9.block _ (by (try simp); omega)).trans hblk
      try simp at hz
      replace r5 := r5.below hB9
      refine wpAnyH_ready (rs := [13]) (by kernel_rfl) (by simp) (AllReadyH.cons (o := _) (by rw [List.getElem?_toArray]; rfl) (fun K hK => ?_) AllReadyH.nil)
      refine step_append_empty (by rfl) _ _ 32 (by rfl) 66 i3 _ 2 16 Try.underlying32 hi3 hz3 hs3 hb3 rfl (by decide) _ (by rfl) sv _ (tcells ss) (by rfl) (H3.out.below hHeld.1) b3 ?_
      intro v13 w13 r13 hB13 ho13 hn13
      have o13 : Own (w.heap.size + 2) v13 := by
        intro k hk
        have hq := hHeld.2.1
        try simp at hq
        rcases ho13 with h | h <;> (rw [h] at hk; simp at hk; omega)
      replace r13 : SRO (w.heap.size + 2) w13 v13 _ _ _ := ⟨r13, o13⟩
      obtain ⟨a13, c13, rfl⟩ := r13.1.val
      clear ho13 o13
      refine hK.out _ _ (⟨hHeld.1.trans (hB13.mono hHeld.1.size), Nat.le_trans hHeld.2.1 hB13.size, hHeld.2.2.keep hB13⟩) (fun hHeld2 => ?_)
      replace hHeld := hHeld2
      clear hK K hHeld2
      try simp only [Act.put, List.setIfInBounds_toArray, List.set_cons_zero, List.set_cons_succ]
      have hz := hHeld.2.1
      replace hblk := (hB13.block _ (by (try simp); omega)).trans hblk
      try simp at hz
      replace r5 := r5.below hB13
      replace r9 := r9.below hB13
      have f0 : w13.cell? ⟨w.heap.size + 1, 0, none⟩ = some (.int .i64 0) := cell_of_row _ _ 0 _ _ _ hblk
      have f1 : w13.cell? ⟨w.heap.size + 1, 1, none⟩ = some (.slice none 0 0) := cell_of_row _ _ 1 _ _ _ hblk
      have f2 : w13.cell? ⟨w.heap.size + 1, 2, none⟩ = some (.slice none 0 0) := cell_of_row _ _ 2 _ _ _ hblk
      have f3 : w13.cell? ⟨w.heap.size + 1, 3, none⟩ = some (.slice none 0 0) := cell_of_row _ _ 3 _ _ _ hblk
      have z0 := frozen_of_row _ _ 0 _ _ hblk
      have z1 := frozen_of_row _ _ 1 _ _ hblk
      have z2 := frozen_of_row _ _ 2 _ _ hblk
      have z3 := frozen_of_row _ _ 3 _ _ hblk
      refine wpAnyH_take (i := 14) (oi := _) (v := ?_) (by rw [List.getElem?_toArray]; rfl) (by kernel_rfl) (by kernel_rfl) (by kernel_rfl) (by exact fun _ _ _ h => h) (Or.inl ⟨by rfl, ?_⟩) (by assumption) ?_
      rotate_left
      · intro w hSw
        try simp only [Cells, blk, List.cons_append, List.nil_append, and_true, Nat.reduceAdd, Nat.add_zero, Nat.zero_add] at hSw
        go_simp
        try with_reducible rfl
      simp only [Act.put, List.setIfInBounds_toArray, List.set_cons_zero, List.set_cons_succ]
      refine wpAnyH_ready (rs := [15]) (by kernel_rfl) (by simp) (AllReadyH.cons (o := _) (by rw [List.getElem?_toArray]; rfl) (fun K hK => ?_) AllReadyH.nil)
      go_simp
      refine hK.out _ _ (⟨(((hHeld.1.setCell (by simp) _).setCell (by simp) _).setCell (by simp) _).setCell (by simp) _, by simpa [World.setCell] using hHeld.2.1, (((hHeld.2.2.setCell (by simp [blk]) _).setCell (by simp [blk]) _).setCell (by simp [blk]) _).setCell (by simp [blk]) _⟩) (fun hHeld2 => ?_)
      replace hHeld := hHeld2
      clear hK K hHeld2
      try simp only [Act.put, List.setIfInBounds_toArray, List.set_cons_zero, List.set_cons_succ]
      have s5 := (((r5.set (p := ⟨w.heap.size + 1, 0, none⟩) (by simp) (.int .i64 d)).set (p := ⟨w.heap.size + 1, 1, none⟩) (by simp) (.slice a5 ls.length c5)).set (p := ⟨w.heap.size + 1, 2, none⟩) (by simp) (.slice a9 js.length c9)).set (p := ⟨w.heap.size + 1, 3, none⟩) (by simp) (.slice a13 ss.length c13)
      have s9 := (((r9.set (p := ⟨w.heap.size + 1, 0, none⟩) (by simp) (.int .i64 d)).set (p := ⟨w.heap.size + 1, 1, none⟩) (by simp) (.slice a5 ls.length c5)).set (p := ⟨w.heap.size + 1, 2, none⟩) (by simp) (.slice a9 js.length c9)).set (p := ⟨w.heap.size + 1, 3, none⟩) (by simp) (.slice a13 ss.length c13)
      have s13 := (((r13.set (p := ⟨w.heap.size + 1, 0, none⟩) (by simp) (.int .i64 d)).set (p := ⟨w.heap.size + 1, 1, none⟩) (by simp) (.slice a5 ls.length c5)).set (p := ⟨w.heap.size + 1, 2, none⟩) (by simp) (.slice a9 js.length c9)).set (p := ⟨w.heap.size + 1, 3, none⟩) (by simp) (.slice a13 ss.length c13)
      have hend := hHeld.1
      refine wpAnyH_done (by kernel_rfl) ?_ _
      go_wp2
      refine bodyPost_ret (v := .agg #[.int .i64 d, .slice a5 ls.length c5, .slice a9 js.length c9, .slice a13 ss.length c13]) (by simp [results, Try.results18, go_sem, f0, f1, f2, f3]) rfl ?_
      exact ⟨_, _, _, rfl, ⟨s5.1, s5.2.mono (by omega)⟩, ⟨s9.1, s9.2.mono (by omega)⟩, ⟨s13.1, s13.2.mono (by omega)⟩, hend⟩
  · go_simp
    refine hK.out _ _ (⟨hHeld.1.alloc hHeld.1.size _, Nat.le_trans hHeld.2.1 (by simp), hHeld.2.2.keep ((Below.refl _ _).alloc (Nat.le_refl _) _)⟩) (fun hHeld2 => ?_)
    replace hHeld := hHeld2
    clear hK K hHeld2
    try simp only [Act.put, List.setIfInBounds_toArray, List.set_cons_zero, List.set_cons_succ]
    have hz := hHeld.2.1
    try simp at hz
    replace hblk := (Below.heap_alloc _ (.cells #[] 66) _ (by (try simp); omega)).trans hblk
    try replace r5 := r5.alloc (.cells #[] 66)
    try replace r9 := r9.alloc (.cells #[] 66)
    refine wpAnyH_ready (rs := [2, 6]) (by kernel_rfl) (by simp) (AllReadyH.cons (o := _) (by rw [List.getElem?_toArray]; rfl) (fun K hK => ?_) (AllReadyH.cons (o := _) (by rw [List.getElem?_toArray]; rfl) (fun K hK => ?_) AllReadyH.nil))
    · go_simp
      refine hK.out _ _ (⟨hHeld.1.alloc hHeld.1.size _, Nat.le_trans hHeld.2.1 (by simp), hHeld.2.2.keep ((Below.refl _ _).alloc (Nat.le_refl _) _)⟩) (fun hHeld2 => ?_)
      replace hHeld := hHeld2
      clear hK K hHeld2
      try simp only [Act.put, List.setIfInBounds_toArray, List.set_cons_zero, List.set_cons_succ]
      have hz := hHeld.2.1
      try simp at hz
      replace hblk := (Below.heap_alloc _ (.cells #[] 62) _ (by (try simp); omega)).trans hblk
      try replace r5 := r5.alloc (.cells #[] 62)
      try replace r9 := r9.alloc (.cells #[] 62)
      refine wpAnyH_ready (rs := [5, 6]) (by kernel_rfl) (by simp) (AllReadyH.cons (o := _) (by rw [List.getElem?_toArray]; rfl) (fun K hK => ?_) (AllReadyH.cons (o := _) (by rw [List.getElem?_toArray]; rfl) (fun K hK => ?_) AllReadyH.nil))
      · refine step_append_empty (by rfl) _ _ 30 (by rfl) 62 i1 _ 2 16 Try.underlying30 hi1 hz1 hs1 hb1 rfl (by decide) _ (by rfl) lv _ (tcells ls) (by rfl) (H1.out.below hHeld.1) b1 ?_
        intro v5 w5 r5 hB5 ho5 hn5
        have o5 : Own (w.heap.size + 2) v5 := by
          intro k hk
          have hq := hHeld.2.1
          try simp at hq
          rcases ho5 with h | h <;> (rw [h] at hk; simp at hk; omega)
        replace r5 : SRO (w.heap.size + 2) w5 v5 _ _ _ := ⟨r5, o5⟩
        obtain ⟨a5, c5, rfl⟩ := r5.1.val
        clear ho5 o5
        refine hK.out _ _ (⟨hHeld.1.trans (hB5.mono hHeld.1.size), Nat.le_trans hHeld.2.1 hB5.size, hHeld.2.2.keep hB5⟩) (fun hHeld2 => ?_)
        replace hHeld := hHeld2
        clear hK K hHeld2
        try simp only [Act.put, List.setIfInBounds_toArray, List.set_cons_zero, List.set_cons_succ]
        have hz := hHeld.2.1
        replace hblk := (hB5.block _ (by (try simp); omega)).trans hblk
        try simp at hz
        refine wpAnyH_ready (rs := [6]) (by kernel_rfl) (by simp) (AllReadyH.cons (o := _) (by rw [List.getElem?_toArray]; rfl) (fun K hK => ?_) AllReadyH.nil)
        go_simp
        refine hK.out _ _ (⟨hHeld.1.alloc hHeld.1.size _, Nat.le_trans hHeld.2.1 (by simp), hHeld.2.2.keep ((Below.refl _ _).alloc (Nat.le_refl _) _)⟩) (fun hHeld2 => ?_)
        replace hHeld := hHeld2
        clear hK K hHeld2
        try simp only [Act.put, List.setIfInBounds_toArray, List.set_cons_zero, List.set_cons_succ]
        have hz := hHeld.2.1
        try simp at hz
        replace hblk := (Below.heap_alloc _ (.cells #[] 64) _ (by (try simp); omega)).trans hblk
        try replace r5 := r5.alloc (.cells #[] 64)
        try replace r9 := r9.alloc (.cells #[] 64)
        refine wpAnyH_ready (rs := [9]) (by kernel_rfl) (by simp) (AllReadyH.cons (o := _) (by rw [List.getElem?_toArray]; rfl) (fun K hK => ?_) AllReadyH.nil)
        refine step_append_empty (by rfl) _ _ 31 (by rfl) 64 i2 _ 3 24 Try.underlying31 hi2 hz2 hs2 hb2 rfl (by decide) _ (by rfl) jv _ (jcells js) (by rfl) (H2.out.below hHeld.1) b2 ?_
        intro v9 w9 r9 hB9 ho9 hn9
        have o9 : Own (w.heap.size + 2) v9 := by
          intro k hk
          have hq := hHeld.2.1
          try simp at hq
          rcases ho9 with h | h <;> (rw [h] at hk; simp at hk; omega)
        replace r9 : SRO (w.heap.size + 2) w9 v9 _ _ _ := ⟨r9, o9⟩
        obtain ⟨a9, c9, rfl⟩ := r9.1.val
        clear ho9 o9
        refine hK.out _ _ (⟨hHeld.1.trans (hB9.mono hHeld.1.size), Nat.le_trans hHeld.2.1 hB9.size, hHeld.2.2.keep hB9⟩) (fun hHeld2 => ?_)
        replace hHeld := hHeld2
        clear hK K hHeld2
        try simp only [Act.put, List.setIfInBounds_toArray, List.set_cons_zero, List.set_cons_succ]
        have hz := hHeld.2.1
        replace hblk := (hB9.block _ (by (try simp); omega)).trans hblk
        try simp at hz
        replace r5 := r5.below hB9
        refine wpAnyH_ready (rs := [13]) (by kernel_rfl) (by simp) (AllReadyH.cons (o := _) (by rw [List.getElem?_toArray]; rfl) (fun K hK => ?_) AllReadyH.nil)
        refine step_append_empty (by rfl) _ _ 32 (by rfl) 66 i3 _ 2 16 Try.underlying32 hi3 hz3 hs3 hb3 rfl (by decide) _ (by rfl) sv _ (tcells ss) (by rfl) (H3.out.below hHeld.1) b3 ?_
        intro v13 w13 r13 hB13 ho13 hn13
        have o13 : Own (w.heap.size + 2) v13 := by
          intro k hk
          have hq := hHeld.2.1
          try simp at hq
          rcases ho13 with h | h <;> (rw [h] at hk; simp at hk; omega)
        replace r13 : SRO (w.heap.size + 2) w13 v13 _ _ _ := ⟨r13, o13⟩
        obtain ⟨a13, c13, rfl⟩ := r13.1.val
        clear ho13 o13
        refine hK.out _ _ (⟨hHeld.1.trans (hB13.mono hHeld.1.size), Nat.le_trans hHeld.2.1 hB13.size, hHeld.2.2.keep hB13⟩) (fun hHeld2 => ?_)
        replace hHeld := hHeld2
        clear hK K hHeld2
        try simp only [Act.put, List.setIfInBounds_toArray, List.set_cons_zero, List.set_cons_succ]
        have hz := hHeld.2.1
        replace hblk := (hB13.block _ (by (try simp); omega)).trans hblk
        try simp at hz
        replace r5 := r5.below hB13
        replace r9 := r9.below hB13
        have f0 : w13.cell? ⟨w.heap.size + 1, 0, none⟩ = some (.int .i64 0) := cell_of_row _ _ 0 _ _ _ hblk
        have f1 : w13.cell? ⟨w.heap.size + 1, 1, none⟩ = some (.slice none 0 0) := cell_of_row _ _ 1 _ _ _ hblk
        have f2 : w13.cell? ⟨w.heap.size + 1, 2, none⟩ = some (.slice none 0 0) := cell_of_row _ _ 2 _ _ _ hblk
        have f3 : w13.cell? ⟨w.heap.size + 1, 3, none⟩ = some (.slice none 0 0) := cell_of_row _ _ 3 _ _ _ hblk
        have z0 := frozen_of_row _ _ 0 _ _ hblk
        have z1 := frozen_of_row _ _ 1 _ _ hblk
        have z2 := frozen_of_row _ _ 2 _ _ hblk
        have z3 := frozen_of_row _ _ 3 _ _ hblk
        refine wpAnyH_take (i := 14) (oi := _) (v := ?_) (by rw [List.getElem?_toArray]; rfl) (by kernel_rfl) (by kernel_rfl) (by kernel_rfl) (by exact fun _ _ _ h => h) (Or.inl ⟨by rfl, ?_⟩) (by assumption) ?_
        rotate_left
        · intro w hSw
          try simp only [Cells, blk, List.cons_append, List.nil_append, and_true, Nat.reduceAdd, Nat.add_zero, Nat.zero_add] at hSw
          go_simp
          try with_reducible rfl
        simp only [Act.put, List.setIfInBounds_toArray, List.set_cons_zero, List.set_cons_succ]
        refine wpAnyH_ready (rs := [15]) (by kernel_rfl) (by simp) (AllReadyH.cons (o := _) (by rw [List.getElem?_toArray]; rfl) (fun K hK => ?_) AllReadyH.nil)
        go_simp
        refine hK.out _ _ (⟨(((hHeld.1.setCell (by simp) _).setCell (by simp) _).setCell (by simp) _).setCell (by simp) _, by simpa [World.setCell] using hHeld.2.1, (((hHeld.2.2.setCell (by simp [blk]) _).setCell (by simp [blk]) _).setCell (by simp [blk]) _).setCell (by simp [blk]) _⟩) (fun hHeld2 => ?_)
        replace hHeld := hHeld2
        clear hK K hHeld2
        try simp only [Act.put, List.setIfInBounds_toArray, List.set_cons_zero, List.set_cons_succ]
        have s5 := (((r5.set (p := ⟨w.heap.size + 1, 0, none⟩) (by simp) (.int .i64 d)).set (p := ⟨w.heap.size + 1, 1, none⟩) (by simp) (.slice a5 ls.length c5)).set (p := ⟨w.heap.size + 1, 2, none⟩) (by simp) (.slice a9 js.length c9)).set (p := ⟨w.heap.size + 1, 3, none⟩) (by simp) (.slice a13 ss.length c13)
        have s9 := (((r9.set (p := ⟨w.heap.size + 1, 0, none⟩) (by simp) (.int .i64 d)).set (p := ⟨w.heap.size + 1, 1, none⟩) (by simp) (.slice a5 ls.length c5)).set (p := ⟨w.heap.size + 1, 2, none⟩) (by simp) (.slice a9 js.length c9)).set (p := ⟨w.heap.size + 1, 3, none⟩) (by simp) (.slice a13 ss.length c13)
        have s13 := (((r13.set (p := ⟨w.heap.size + 1, 0, none⟩) (by simp) (.int .i64 d)).set (p := ⟨w.heap.size + 1, 1, none⟩) (by simp) (.slice a5 ls.length c5)).set (p := ⟨w.heap.size + 1, 2, none⟩) (by simp) (.slice a9 js.length c9)).set (p := ⟨w.heap.size + 1, 3, none⟩) (by simp) (.slice a13 ss.length c13)
        have hend := hHeld.1
        refine wpAnyH_done (by kernel_rfl) ?_ _
        go_wp2
        refine bodyPost_ret (v := .agg #[.int .i64 d, .slice a5 ls.length c5, .slice a9 js.length c9, .slice a13 ss.length c13]) (by simp [results, Try.results18, go_sem, f0, f1, f2, f3]) rfl ?_
        exact ⟨_, _, _, rfl, ⟨s5.1, s5.2.mono (by omega)⟩, ⟨s9.1, s9.2.mono (by omega)⟩, ⟨s13.1, s13.2.mono (by omega)⟩, hend⟩
      · go_simp
        refine hK.out _ _ (⟨hHeld.1.alloc hHeld.1.size _, Nat.le_trans hHeld.2.1 (by simp), hHeld.2.2.keep ((Below.refl _ _).alloc (Nat.le_refl _) _)⟩) (fun hHeld2 => ?_)
        replace hHeld := hHeld2
        clear hK K hHeld2
        try simp only [Act.put, List.setIfInBounds_toArray, List.set_cons_zero, List.set_cons_succ]
        have hz := hHeld.2.1
        try simp at hz
        replace hblk := (Below.heap_alloc _ (.cells #[] 64) _ (by (try simp); omega)).trans hblk
        try replace r5 := r5.alloc (.cells #[] 64)
        try replace r9 := r9.alloc (.cells #[] 64)
        refine wpAnyH_ready (rs := [5]) (by kernel_rfl) (by simp) (AllReadyH.cons (o := _) (by rw [List.getElem?_toArray]; rfl) (fun K hK => ?_) AllReadyH.nil)
        refine step_append_empty (by rfl) _ _ 30 (by rfl) 62 i1 _ 2 16 Try.underlying30 hi1 hz1 hs1 hb1 rfl (by decide) _ (by rfl) lv _ (tcells ls) (by rfl) (H1.out.below hHeld.1) b1 ?_
        intro v5 w5 r5 hB5 ho5 hn5
        have o5 : Own (w.heap.size + 2) v5 := by
          intro k hk
          have hq := hHeld.2.1
          try simp at hq
          rcases ho5 with h | h <;> (rw [h] at hk; simp at hk; omega)
        replace r5 : SRO (w.heap.size + 2) w5 v5 _ _ _ := ⟨r5, o5⟩
        obtain ⟨a5, c5, rfl⟩ := r5.1.val
        clear ho5 o5
        refine hK.out _ _ (⟨hHeld.1.trans (hB5.mono hHeld.1.size), Nat.le_trans hHeld.2.1 hB5.size, hHeld.2.2.keep hB5⟩) (fun hHeld2 => ?_)
        replace hHeld := hHeld2
        clear hK K hHeld2
        try simp only [Act.put, List.setIfInBounds_toArray, List.set_cons_zero, List.set_cons_succ]
        have hz := hHeld.2.1
        replace hblk := (hB5.block _ (by (try simp); omega)).trans hblk
        try simp at hz
        refine wpAnyH_ready (rs := [9]) (by kernel_rfl) (by simp) (AllReadyH.cons (o := _) (by rw [List.getElem?_toArray]; rfl) (fun K hK => ?_) AllReadyH.nil)
        refine step_append_empty (by rfl) _ _ 31 (by rfl) 64 i2 _ 3 24 Try.underlying31 hi2 hz2 hs2 hb2 rfl (by decide) _ (by rfl) jv _ (jcells js) (by rfl) (H2.out.below hHeld.1) b2 ?_
        intro v9 w9 r9 hB9 ho9 hn9
        have o9 : Own (w.heap.size + 2) v9 := by
          intro k hk
          have hq := hHeld.2.1
          try simp at hq
          rcases ho9 with h | h <;> (rw [h] at hk; simp at hk; omega)
        replace r9 : SRO (w.heap.size + 2) w9 v9 _ _ _ := ⟨r9, o9⟩
        obtain ⟨a9, c9, rfl⟩ := r9.1.val
        clear ho9 o9
        refine hK.out _ _ (⟨hHeld.1.trans (hB9.mono hHeld.1.size), Nat.le_trans hHeld.2.1 hB9.size, hHeld.2.2.keep hB9⟩) (fun hHeld2 => ?_)
        replace hHeld := hHeld2
        clear hK K hHeld2
        try simp only [Act.put, List.setIfInBounds_toArray, List.set_cons_zero, List.set_cons_succ]
        have hz := hHeld.2.1
        replace hblk := (hB9.block _ (by (try simp); omega)).trans hblk
        try simp at hz
        replace r5 := r5.below hB9
        refine wpAnyH_ready (rs := [13]) (by kernel_rfl) (by simp) (AllReadyH.cons (o := _) (by rw [List.getElem?_toArray]; rfl) (fun K hK => ?_) AllReadyH.nil)
        refine step_append_empty (by rfl) _ _ 32 (by rfl) 66 i3 _ 2 16 Try.underlying32 hi3 hz3 hs3 hb3 rfl (by decide) _ (by rfl) sv _ (tcells ss) (by rfl) (H3.out.below hHeld.1) b3 ?_
        intro v13 w13 r13 hB13 ho13 hn13
        have o13 : Own (w.heap.size + 2) v13 := by
          intro k hk
          have hq := hHeld.2.1
          try simp at hq
          rcases ho13 with h | h <;> (rw [h] at hk; simp at hk; omega)
        replace r13 : SRO (w.heap.size + 2) w13 v13 _ _ _ := ⟨r13, o13⟩
        obtain ⟨a13, c13, rfl⟩ := r13.1.val
        clear ho13 o13
        refine hK.out _ _ (⟨hHeld.1.trans (hB13.mono hHeld.1.size), Nat.le_trans hHeld.2.1 hB13.size, hHeld.2.2.keep hB13⟩) (fun hHeld2 => ?_)
        replace hHeld := hHeld2
        clear hK K hHeld2
        try simp only [Act.put, List.setIfInBounds_toArray, List.set_cons_zero, List.set_cons_succ]
        have hz := hHeld.2.1
        replace hblk := (hB13.block _ (by (try simp); omega)).trans hblk
        try simp at hz
        replace r5 := r5.below hB13
        replace r9 := r9.below hB13
        have f0 : w13.cell? ⟨w.heap.size + 1, 0, none⟩ = some (.int .i64 0) := cell_of_row _ _ 0 _ _ _ hblk
        have f1 : w13.cell? ⟨w.heap.size + 1, 1, none⟩ = some (.slice none 0 0) := cell_of_row _ _ 1 _ _ _ hblk
        have f2 : w13.cell? ⟨w.heap.size + 1, 2, none⟩ = some (.slice none 0 0) := cell_of_row _ _ 2 _ _ _ hblk
        have f3 : w13.cell? ⟨w.heap.size + 1, 3, none⟩ = some (.slice none 0 0) := cell_of_row _ _ 3 _ _ _ hblk
        have z0 := frozen_of_row _ _ 0 _ _ hblk
        have z1 := frozen_of_row _ _ 1 _ _ hblk
        have z2 := frozen_of_row _ _ 2 _ _ hblk
        have z3 := frozen_of_row _ _ 3 _ _ hblk
        refine wpAnyH_take (i := 14) (oi := _) (v := ?_) (by rw [List.getElem?_toArray]; rfl) (by kernel_rfl) (by kernel_rfl) (by kernel_rfl) (by exact fun _ _ _ h => h) (Or.inl ⟨by rfl, ?_⟩) (by assumption) ?_
        rotate_left
        · intro w hSw
          try simp only [Cells, blk, List.cons_append, List.nil_append, and_true, Nat.reduceAdd, Nat.add_zero, Nat.zero_add] at hSw
          go_simp
          try with_reducible rfl
        simp only [Act.put, List.setIfInBounds_toArray, List.set_cons_zero, List.set_cons_succ]
        refine wpAnyH_ready (rs := [15]) (by kernel_rfl) (by simp) (AllReadyH.cons (o := _) (by rw [List.getElem?_toArray]; rfl) (fun K hK => ?_) AllReadyH.nil)
        go_simp
        refine hK.out _ _ (⟨(((hHeld.1.setCell (by simp) _).setCell (by simp) _).setCell (by simp) _).setCell (by simp) _, by simpa [World.setCell] using hHeld.2.1, (((hHeld.2.2.setCell (by simp [blk]) _).setCell (by simp [blk]) _).setCell (by simp [blk]) _).setCell (by simp [blk]) _⟩) (fun hHeld2 => ?_)
        replace hHeld := hHeld2
        clear hK K hHeld2
        try simp only [Act.put, List.setIfInBounds_toArray, List.set_cons_zero, List.set_cons_succ]
        have s5 := (((r5.set (p := ⟨w.heap.size + 1, 0, none⟩) (by simp) (.int .i64 d)).set (p := ⟨w.heap.size + 1, 1, none⟩) (by simp) (.slice a5 ls.length c5)).set (p := ⟨w.heap.size + 1, 2, none⟩) (by simp) (.slice a9 js.length c9)).set (p := ⟨w.heap.size + 1, 3, none⟩) (by simp) (.slice a13 ss.length c13)
        have s9 := (((r9.set (p := ⟨w.heap.size + 1, 0, none⟩) (by simp) (.int .i64 d)).set (p := ⟨w.heap.size + 1, 1, none⟩) (by simp) (.slice a5 ls.length c5)).set (p := ⟨w.heap.size + 1, 2, none⟩) (by simp) (.slice a9 js.length c9)).set (p := ⟨w.heap.size + 1, 3, none⟩) (by simp) (.slice a13 ss.length c13)
        have s13 := (((r13.set (p := ⟨w.heap.size + 1, 0, none⟩) (by simp) (.int .i64 d)).set (p := ⟨w.heap.size + 1, 1, none⟩) (by simp) (.slice a5 ls.length c5)).set (p := ⟨w.heap.size + 1, 2, none⟩) (by simp) (.slice a9 js.length c9)).set (p := ⟨w.heap.size + 1, 3, none⟩) (by simp) (.slice a13 ss.length c13)
        have hend := hHeld.1
        refine wpAnyH_done (by kernel_rfl) ?_ _
        go_wp2
        refine bodyPost_ret (v := .agg #[.int .i64 d, .slice a5 ls.length c5, .slice a9 js.length c9, .slice a13 ss.length c13]) (by simp [results, Try.results18, go_sem, f0, f1, f2, f3]) rfl ?_
        exact ⟨_, _, _, rfl, ⟨s5.1, s5.2.mono (by omega)⟩, ⟨s9.1, s9.2.mono (by omega)⟩, ⟨s13.1, s13.2.mono (by omega)⟩, hend⟩
    · go_simp
      refine hK.out _ _ (⟨hHeld.1.alloc hHeld.1.size _, Nat.le_trans hHeld.2.1 (by simp), hHeld.2.2.keep ((Below.refl _ _).alloc (Nat.le_refl _) _)⟩) (fun hHeld2 => ?_)
      replace hHeld := hHeld2
      clear hK K hHeld2
      try simp only [Act.put, List.setIfInBounds_toArray, List.set_cons_zero, List.set_cons_succ]
      have hz := hHeld.2.1
      try simp at hz
      replace hblk := (Below.heap_alloc _ (.cells #[] 64) _ (by (try simp); omega)).trans hblk
      try replace r5 := r5.alloc (.cells #[] 64)
      try replace r9 := r9.alloc (.cells #[] 64)
      refine wpAnyH_ready (rs := [2]) (by kernel_rfl) (by simp) (AllReadyH.cons (o := _) (by rw [List.getElem?_toArray]; rfl) (fun K hK => ?_) AllReadyH.nil)
      go_simp
      refine hK.out _ _ (⟨hHeld.1.alloc hHeld.1.size _, Nat.le_trans hHeld.2.1 (by simp), hHeld.2.2.keep ((Below.refl _ _).alloc (Nat.le_refl _) _)⟩) (fun hHeld2 => ?_)
      replace hHeld := hHeld2
      clear hK K hHeld2
      try simp only [Act.put, List.setIfInBounds_toArray, List.set_cons_zero, List.set_cons_succ]
      have hz := hHeld.2.1
      try simp at hz
      replace hblk := (Below.heap_alloc _ (.cells #[] 62) _ (by (try simp); omega)).trans hblk
      try replace r5 := r5.alloc (.cells #[] 62)
      try replace r9 := r9.alloc (.cells #[] 62)
      refine wpAnyH_ready (rs := [5]) (by kernel_rfl) (by simp) (AllReadyH.cons (o := _) (by rw [List.getElem?_toArray]; rfl) (fun K hK => ?_) AllReadyH.nil)
      refine step_append_empty (by rfl) _ _ 30 (by rfl) 62 i1 _ 2 16 Try.underlying30 hi1 hz1 hs1 hb1 rfl (by decide) _ (by rfl) lv _ (tcells ls) (by rfl) (H1.out.below hHeld.1) b1 ?_
      intro v5 w5 r5 hB5 ho5 hn5
      have o5 : Own (w.heap.size + 2) v5 := by
        intro k hk
        have hq := hHeld.2.1
        try simp at hq
        rcases ho5 with h | h <;> (rw [h] at hk; simp at hk; omega)
      replace r5 : SRO (w.heap.size + 2) w5 v5 _ _ _ := ⟨r5, o5⟩
      obtain ⟨a5, c5, rfl⟩ := r5.1.val
      clear ho5 o5
      refine hK.out _ _ (⟨hHeld.1.trans (hB5.mono hHeld.1.size), Nat.le_trans hHeld.2.1 hB5.size, hHeld.2.2.keep hB5⟩) (fun hHeld2 => ?_)
      replace hHeld := hHeld2
      clear hK K hHeld2
      try simp only [Act.put, List.setIfInBounds_toArray, List.set_cons_zero, List.set_cons_succ]
      have hz := hHeld.2.1
      replace hblk := (hB5.block _ (by (try simp); omega)).trans hblk
      try simp at hz
      refine wpAnyH_ready (rs := [9]) (by kernel_rfl) (by simp) (AllReadyH.cons (o := _) (by rw [List.getElem?_toArray]; rfl) (fun K hK => ?_) AllReadyH.nil)
      refine step_append_empty (by rfl) _ _ 31 (by rfl) 64 i2 _ 3 24 Try.underlying31 hi2 hz2 hs2 hb2 rfl (by decide) _ (by rfl) jv _ (jcells js) (by rfl) (H2.out.below hHeld.1) b2 ?_
      intro v9 w9 r9 hB9 ho9 hn9
      have o9 : Own (w.heap.size + 2) v9 := by
        intro k hk
        have hq := hHeld.2.1
        try simp at hq
        rcases ho9 with h | h <;> (rw [h] at hk; simp at hk; omega)
      replace r9 : SRO (w.heap.size + 2) w9 v9 _ _ _ := ⟨r9, o9⟩
      obtain ⟨a9, c9, rfl⟩ := r9.1.val
      clear ho9 o9
      refine hK.out _ _ (⟨hHeld.1.trans (hB9.mono hHeld.1.size), Nat.le_trans hHeld.2.1 hB9.size, hHeld.2.2.keep hB9⟩) (fun hHeld2 => ?_)
      replace hHeld := hHeld2
      clear hK K hHeld2
      try simp only [Act.put, List.setIfInBounds_toArray, List.set_cons_zero, List.set_cons_succ]
      have hz := hHeld.2.1
      replace hblk := (hB9.block _ (by (try simp); omega)).trans hblk
      try simp at hz
      replace r5 := r5.below hB9
      refine wpAnyH_ready (rs := [13]) (by kernel_rfl) (by simp) (AllReadyH.cons (o := _) (by rw [List.getElem?_toArray]; rfl) (fun K hK => ?_) AllReadyH.nil)
      refine step_append_empty (by rfl) _ _ 32 (by rfl) 66 i3 _ 2 16 Try.underlying32 hi3 hz3 hs3 hb3 rfl (by decide) _ (by rfl) sv _ (tcells ss) (by rfl) (H3.out.below hHeld.1) b3 ?_
      intro v13 w13 r13 hB13 ho13 hn13
      have o13 : Own (w.heap.size + 2) v13 := by
        intro k hk
        have hq := hHeld.2.1
        try simp at hq
        rcases ho13 with h | h <;> (rw [h] at hk; simp at hk; omega)
      replace r13 : SRO (w.heap.size + 2) w13 v13 _ _ _ := ⟨r13, o13⟩
      obtain ⟨a13, c13, rfl⟩ := r13.1.val
      clear ho13 o13
      refine hK.out _ _ (⟨hHeld.1.trans (hB13.mono hHeld.1.size), Nat.le_trans hHeld.2.1 hB13.size, hHeld.2.2.keep hB13⟩) (fun hHeld2 => ?_)
      replace hHeld := hHeld2
      clear hK K hHeld2
      try simp only [Act.put, List.setIfInBounds_toArray, List.set_cons_zero, List.set_cons_succ]
      have hz := hHeld.2.1
      replace hblk := (hB13.block _ (by (try simp); omega)).trans hblk
      try simp at hz
      replace r5 := r5.below hB13
      replace r9 := r9.below hB13
      have f0 : w13.cell? ⟨w.heap.size + 1, 0, none⟩ = some (.int .i64 0) := cell_of_row _ _ 0 _ _ _ hblk
      have f1 : w13.cell? ⟨w.heap.size + 1, 1, none⟩ = some (.slice none 0 0) := cell_of_row _ _ 1 _ _ _ hblk
      have f2 : w13.cell? ⟨w.heap.size + 1, 2, none⟩ = some (.slice none 0 0) := cell_of_row _ _ 2 _ _ _ hblk
      have f3 : w13.cell? ⟨w.heap.size + 1, 3, none⟩ = some (.slice none 0 0) := cell_of_row _ _ 3 _ _ _ hblk
      have z0 := frozen_of_row _ _ 0 _ _ hblk
      have z1 := frozen_of_row _ _ 1 _ _ hblk
      have z2 := frozen_of_row _ _ 2 _ _ hblk
      have z3 := frozen_of_row _ _ 3 _ _ hblk
      refine wpAnyH_take (i := 14) (oi := _) (v := ?_) (by rw [List.getElem?_toArray]; rfl) (by kernel_rfl) (by kernel_rfl) (by kernel_rfl) (by exact fun _ _ _ h => h) (Or.inl ⟨by rfl, ?_⟩) (by assumption) ?_
      rotate_left
      · intro w hSw
        try simp only [Cells, blk, List.cons_append, List.nil_append, and_true, Nat.reduceAdd, Nat.add_zero, Nat.zero_add] at hSw
        go_simp
        try with_reducible rfl
      simp only [Act.put, List.setIfInBounds_toArray, List.set_cons_zero, List.set_cons_succ]
      refine wpAnyH_ready (rs := [15]) (by kernel_rfl) (by simp) (AllReadyH.cons (o := _) (by rw [List.getElem?_toArray]; rfl) (fun K hK => ?_) AllReadyH.nil)
      go_simp
      refine hK.out _ _ (⟨(((hHeld.1.setCell (by simp) _).setCell (by simp) _).setCell (by simp) _).setCell (by simp) _, by simpa [World.setCell] using hHeld.2.1, (((hHeld.2.2.setCell (by simp [blk]) _).setCell (by simp [blk]) _).setCell (by simp [blk]) _).setCell (by simp [blk]) _⟩) (fun hHeld2 => ?_)
      replace hHeld := hHeld2
      clear hK K hHeld2
      try simp only [Act.put, List.setIfInBounds_toArray, List.set_cons_zero, List.set_cons_succ]
      have s5 := (((r5.set (p := ⟨w.heap.size + 1, 0, none⟩) (by simp) (.int .i64 d)).set (p := ⟨w.heap.size + 1, 1, none⟩) (by simp) (.slice a5 ls.length c5)).set (p := ⟨w.heap.size + 1, 2, none⟩) (by simp) (.slice a9 js.length c9)).set (p := ⟨w.heap.size + 1, 3, none⟩) (by simp) (.slice a13 ss.length c13)
      have s9 := (((r9.set (p := ⟨w.heap.size + 1, 0, none⟩) (by simp) (.int .i64 d)).set (p := ⟨w.heap.size + 1, 1, none⟩) (by simp) (.slice a5 ls.length c5)).set (p := ⟨w.heap.size + 1, 2, none⟩) (by simp) (.slice a9 js.length c9)).set (p := ⟨w.heap.size + 1, 3, none⟩) (by simp) (.slice a13 ss.length c13)
      have s13 := (((r13.set (p := ⟨w.heap.size + 1, 0, none⟩) (by simp) (.int .i64 d)).set (p := ⟨w.heap.size + 1, 1, none⟩) (by simp) (.slice a5 ls.length c5)).set (p := ⟨w.heap.size + 1, 2, none⟩) (by simp) (.slice a9 js.length c9)).set (p := ⟨w.heap.size + 1, 3, none⟩) (by simp) (.slice a13 ss.length c13)
      have hend := hHeld.1
      refine wpAnyH_done (by kernel_rfl) ?_ _
      go_wp2
      refine bodyPost_ret (v := .agg #[.int .i64 d, .slice a5 ls.length c5, .slice a9 js.length c9, .slice a13 ss.length c13]) (by simp [results, Try.results18, go_sem, f0, f1, f2, f3]) rfl ?_
      exact ⟨_, _, _, rfl, ⟨s5.1, s5.2.mono (by omega)⟩, ⟨s9.1, s9.2.mono (by omega)⟩, ⟨s13.1, s13.2.mono (by omega)⟩, hend⟩
end Go.Proofs.Ythemdbgcamkecaa
