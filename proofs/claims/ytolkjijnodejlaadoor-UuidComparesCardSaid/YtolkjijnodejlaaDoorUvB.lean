/- uuid: UuidCompares. -/
import Derived.Test.YtolkjijnodejlaaDoorUvA
import Derived.Test.YtolkjijnodejlaaDoorUuH
namespace Go.Proofs.YtolkjijnodejlaaDoor
open Go.RowKit

set_option linter.unusedSimpArgs false in
set_option linter.unusedVariables false in
set_option maxRecDepth 100000 in
set_option maxHeartbeats 2000000 in
theorem uuidCompares_walk (v0 v1 : Value) (w : World) (a0 : Arg Tryd.prog w 25 v0) (a1 : Arg Tryd.prog w 25 v1) (M : Int) (hM : w.cell? ⟨0, 0, none⟩ = some (.int .i64 M)) :
    Calls Tryd.prog 7 #[v0, v1] w fun e w' => e = .returned (.bool true) ∧ Below w.heap.size w w' := by
  obtain ⟨ah, al, rfl, _, _⟩ := arg_uuid a0
  obtain ⟨bh, bl, rfl, _, _⟩ := arg_uuid a1
  have h1 := fun W => compare_any ah al bh bl W
  have h2 := fun W => rcompare_any ah al bh bl W
  generalize cmpN (ah : Int) al bh bl = c at h1 h2
  have H1 := Lib.hid h1
  have H2 := Lib.hid h2
  have T0 := cells_new w [.int .u64 (ah : Int), .int .u64 al] 25
  have T1 := cells_new (w.alloc (.cells #[.int .u64 (ah : Int), .int .u64 al] 25)) [.int .u64 (bh : Int), .int .u64 bl] 25
  have T := (T0.keep ((Below.refl _ _).alloc (Nat.le_refl _) _)).app T1
  have hB : Below w.heap.size w ((w.alloc (.cells #[.int .u64 (ah : Int), .int .u64 al] 25)).alloc (.cells #[.int .u64 (bh : Int), .int .u64 bl] 25)) := ((Below.refl _ _).alloc (Nat.le_refl _) _).alloc (by simp) _
  simp only [World.size_alloc] at T
  clear T0 T1 a0 a1 h1 h2
  go_enter Tryd.func7, Tryd.ntmps7
  go_upto_region 1 with fail
  generalize hV : World.alloc _ _ = V at T hB ⊢
  clear hV
  have HM := Lib.hid (kc hM hB)
  clear hM
  refine wp_region_held_drew (S := (fun W' : World => Below V.heap.size V W' ∧ V.heap.size ≤ W'.heap.size ∧ Cells W' (blk w.heap.size 0 0 [.int .u64 (ah : Int), .int .u64 al] ++ blk (w.heap.size + 1) 0 0 [.int .u64 (bh : Int), .int .u64 bl]))) (by kernel_rfl) (⟨(Below.refl _ _).drew, Nat.le_refl _, T.drew⟩) (fun hHeld => ?_)
  refine wpAnyH_take (i := 0) (oi := _) (v := ?_) (by rw [List.getElem?_toArray]; rfl) (by kernel_rfl) (by kernel_rfl) (by kernel_rfl) (by exact fun _ _ _ h => h) (Or.inl ⟨by rfl, ?_⟩) (by assumption) ?_
  rotate_left
  · intro w hSw
    try simp only [Cells, blk, List.cons_append, List.nil_append, and_true, Nat.reduceAdd, Nat.add_zero, Nat.zero_add] at hSw
    go_simp
    try with_reducible rfl
  simp only [Act.put, List.setIfInBounds_toArray, List.set_cons_zero, List.set_cons_succ]
  refine wpAnyH_take (i := 1) (oi := _) (v := ?_) (by rw [List.getElem?_toArray]; rfl) (by kernel_rfl) (by kernel_rfl) (by kernel_rfl) (by exact fun _ _ _ h => h) (Or.inl ⟨by rfl, ?_⟩) (by assumption) ?_
  rotate_left
  · intro w hSw
    try simp only [Cells, blk, List.cons_append, List.nil_append, and_true, Nat.reduceAdd, Nat.add_zero, Nat.zero_add] at hSw
    go_simp
    try with_reducible rfl
  simp only [Act.put, List.setIfInBounds_toArray, List.set_cons_zero, List.set_cons_succ]
  refine wpAnyH_take (i := 3) (oi := _) (v := ?_) (by rw [List.getElem?_toArray]; rfl) (by kernel_rfl) (by kernel_rfl) (by kernel_rfl) (by exact fun _ _ _ h => h) (Or.inl ⟨by rfl, ?_⟩) (by assumption) ?_
  rotate_left
  · intro w hSw
    try simp only [Cells, blk, List.cons_append, List.nil_append, and_true, Nat.reduceAdd, Nat.add_zero, Nat.zero_add] at hSw
    go_simp
    try with_reducible rfl
  simp only [Act.put, List.setIfInBounds_toArray, List.set_cons_zero, List.set_cons_succ]
  refine wpAnyH_take (i := 4) (oi := _) (v := ?_) (by rw [List.getElem?_toArray]; rfl) (by kernel_rfl) (by kernel_rfl) (by kernel_rfl) (by exact fun _ _ _ h => h) (Or.inl ⟨by rfl, ?_⟩) (by assumption) ?_
  rotate_left
  · intro w hSw
    try simp only [Cells, blk, List.cons_append, List.nil_append, and_true, Nat.reduceAdd, Nat.add_zero, Nat.zero_add] at hSw
    go_simp
    try with_reducible rfl
  simp only [Act.put, List.setIfInBounds_toArray, List.set_cons_zero, List.set_cons_succ]
  refine wpAnyH_ready (rs := [2]) (by kernel_rfl) (by simp) (AllReadyH.cons (o := _) (by rw [List.getElem?_toArray]; rfl) (fun K hK => ?_) AllReadyH.nil)
  go_simp
  go_at_call 23
  refine (H1.out _).mono ?_
  rintro e wb ⟨rfl, hBb⟩
  refine hK.out _ _ (⟨hHeld.1.trans (hBb.mono (by have := hHeld.2.1; omega)), Nat.le_trans hHeld.2.1 hBb.size, hHeld.2.2.keep hBb⟩) (fun hHeld2 => ?_)
  replace hHeld := hHeld2
  clear hK K hHeld2
  try simp only [Act.put, List.setIfInBounds_toArray, List.set_cons_zero, List.set_cons_succ]
  refine wpAnyH_ready (rs := [5]) (by kernel_rfl) (by simp) (AllReadyH.cons (o := _) (by rw [List.getElem?_toArray]; rfl) (fun K hK => ?_) AllReadyH.nil)
  go_simp
  go_at_call 24
  refine (H2.out _).mono ?_
  rintro e wb ⟨rfl, hBb⟩
  refine hK.out _ _ (⟨hHeld.1.trans (hBb.mono (by have := hHeld.2.1; omega)), Nat.le_trans hHeld.2.1 hBb.size, hHeld.2.2.keep hBb⟩) (fun hHeld2 => ?_)
  replace hHeld := hHeld2
  clear hK K hHeld2
  try simp only [Act.put, List.setIfInBounds_toArray, List.set_cons_zero, List.set_cons_succ]
  refine wpAnyH_take (i := 6) (oi := _) (v := ?_) (by rw [List.getElem?_toArray]; rfl) (by kernel_rfl) (by kernel_rfl) (by kernel_rfl) (by exact fun _ _ _ h => h) (Or.inl ⟨by rfl, ?_⟩) (by assumption) ?_
  rotate_left
  · intro w hSw
    try simp only [Cells, blk, List.cons_append, List.nil_append, and_true, Nat.reduceAdd, Nat.add_zero, Nat.zero_add] at hSw
    go_simp
    try with_reducible rfl
  simp only [Act.put, List.setIfInBounds_toArray, List.set_cons_zero, List.set_cons_succ]
  refine wpAnyH_take (i := 7) (oi := _) (v := ?_) (by rw [List.getElem?_toArray]; rfl) (by kernel_rfl) (by kernel_rfl) (by kernel_rfl) (by exact fun _ _ _ h => h) (Or.inl ⟨by rfl, ?_⟩) (by assumption) ?_
  rotate_left
  · intro w hSw
    try simp only [Cells, blk, List.cons_append, List.nil_append, and_true, Nat.reduceAdd, Nat.add_zero, Nat.zero_add] at hSw
    go_simp
    try with_reducible rfl
  simp only [Act.put, List.setIfInBounds_toArray, List.set_cons_zero, List.set_cons_succ]
  refine wpAnyH_ready (rs := [8]) (by kernel_rfl) (by simp) (AllReadyH.cons (o := _) (by rw [List.getElem?_toArray]; rfl) (fun K hK => ?_) AllReadyH.nil)
  go_simp
  go_at_call 13
  refine (example_any M _ (kc HM.out hHeld.1)).mono ?_
  rintro e wb ⟨rfl, hBb⟩
  refine hK.out _ _ (⟨hHeld.1.trans (hBb.mono (by have := hHeld.2.1; omega)), Nat.le_trans hHeld.2.1 hBb.size, hHeld.2.2.keep hBb⟩) (fun hHeld2 => ?_)
  replace hHeld := hHeld2
  clear hK K hHeld2
  try simp only [Act.put, List.setIfInBounds_toArray, List.set_cons_zero, List.set_cons_succ]
  refine wpAnyH_take (i := 9) (oi := _) (v := ?_) (by rw [List.getElem?_toArray]; rfl) (by kernel_rfl) (by kernel_rfl) (by kernel_rfl) (by exact fun _ _ _ h => h) (Or.inl ⟨by rfl, ?_⟩) (by assumption) ?_
  rotate_left
  · intro w hSw
    try simp only [Cells, blk, List.cons_append, List.nil_append, and_true, Nat.reduceAdd, Nat.add_zero, Nat.zero_add] at hSw
    go_simp
    try with_reducible rfl
  simp only [Act.put, List.setIfInBounds_toArray, List.set_cons_zero, List.set_cons_succ]
  refine wpAnyH_take (i := 10) (oi := _) (v := ?_) (by rw [List.getElem?_toArray]; rfl) (by kernel_rfl) (by kernel_rfl) (by kernel_rfl) (by exact fun _ _ _ h => h) (Or.inl ⟨by rfl, ?_⟩) (by assumption) ?_
  rotate_left
  · intro w hSw
    try simp only [Cells, blk, List.cons_append, List.nil_append, and_true, Nat.reduceAdd, Nat.add_zero, Nat.zero_add] at hSw
    go_simp
    try with_reducible rfl
  simp only [Act.put, List.setIfInBounds_toArray, List.set_cons_zero, List.set_cons_succ]
  refine wpAnyH_done (by kernel_rfl) ?_ _
  go_wp2
  go_ret
  exact ⟨rfl, hB.trans (hHeld.1.mono hB.size)⟩
end Go.Proofs.YtolkjijnodejlaaDoor
