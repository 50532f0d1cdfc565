/- cache: SameFound and SameCache, of equal ones. -/
import Derived.Test.YteblimdbkiiaaaaFdG
namespace Go.Proofs.Yteblimdbkiiaaaa
open Go.RowKit

set_option linter.unusedSimpArgs false in
set_option linter.unusedVariables false in
set_option maxRecDepth 100000 in
set_option maxHeartbeats 2000000 in
theorem sameFound_any (l : List Fd) (v1 v2 : Value) (w : World) (h1 : SR w v1 l.length 6 (fcells l)) (h2 : SR w v2 l.length 6 (fcells l)) (hn : l.length ≤ 1000000) :
    Calls Try.prog 28 #[v1, v2] w fun e w' => e = .returned (.bool true) ∧ Below w.heap.size w w' := by
  obtain ⟨_, _, _, ao1, c1, rfl, _, H1⟩ := h1
  obtain ⟨_, _, _, ao2, c2, rfl, _, H2⟩ := h2
  obtain ⟨n, hnn⟩ : ∃ n, l.length = n := ⟨_, rfl⟩
  have HN := Lib.hid hnn
  have HH1 := Lib.hid H1
  have HH2 := Lib.hid H2
  rw [hnn] at hn ⊢
  clear hnn H1 H2
  go_enter Try.func28, Try.ntmps28
  go_wp2
  go_loopw [5] (fun vi wr => ∃ k : Nat, vi = .int .i64 k ∧ k ≤ n ∧ Below w.heap.size w wr) (fun vi _ => n - (intOf vi).toNat)
  case atStart => exact ⟨0, by go_num, Nat.zero_le _, Below.refl _ _⟩
  case round =>
    obtain ⟨k, rfl, hk, hB⟩ := hrel
    by_cases hlt : k < n
    · have hkl : k < l.length := by rw [HN.out]; exact hlt
      obtain ⟨b1, o1, rfl, l1, x1⟩ := HH1.out (by omega)
      obtain ⟨b2, o2, rfl, l2, x2⟩ := HH2.out (by omega)
      have key : ∀ (b off : Nat), (∀ j u, (fcells l)[j]? = some u → w.cell? ⟨b, off + j, none⟩ = some u) → ∀ j, j < 6 → wr.cell? ⟨b, off + k * 6 + j, none⟩ = (elF l[k]).cells[j]? := fun b off hcell j hj => by
        have e := fcells_get l k hkl hj
        obtain ⟨u, hu⟩ : ∃ u, (elF l[k]).cells[j]? = some u := ⟨_, List.getElem?_eq_getElem (show j < (elF l[k]).cells.length from hj)⟩
        rw [hu] at e ⊢
        have := kc (hcell _ _ e) hB
        rwa [← Nat.add_assoc] at this
      have q1 := key b1 o1 x1
      have q2 := key b2 o2 x2
      obtain ⟨⟨a0, a1, a2, a3, a4, a5⟩, hx⟩ : ∃ x, l[k] = x := ⟨_, rfl⟩
      rw [hx] at q1 q2
      have T : Cells wr (blk b1 (o1 + k * 6) 0 [.int .u16 a0, .int .u16 a1, .int .u16 a2, .int .i64 a3, .int .u64 a4, .int .u64 a5] ++ blk b2 (o2 + k * 6) 0 [.int .u16 a0, .int .u16 a1, .int .u16 a2, .int .i64 a3, .int .u64 a4, .int .u64 a5]) :=
        (show Cells wr (blk b1 (o1 + k * 6) 0 [.int .u16 a0, .int .u16 a1, .int .u16 a2, .int .i64 a3, .int .u64 a4, .int .u64 a5]) from ⟨q1 0 (by decide), q1 1 (by decide), q1 2 (by decide), q1 3 (by decide), q1 4 (by decide), q1 5 (by decide), trivial⟩).app
        ⟨q2 0 (by decide), q2 1 (by decide), q2 2 (by decide), q2 3 (by decide), q2 4 (by decide), q2 5 (by decide), trivial⟩
      have i1 : (k : Int) < (n : Int) := by omega
      have g1 : decide (k < n) = true := by simpa using hlt
      have w1 : IntKind.i64.wrap ((k : Int) + 1) = (k : Int) + 1 := IntWalk.i64_in _ (by omega)
      have HBD := Lib.hid hB.drew
      clear x1 x2 key q1 q2 hx
      go_wp2_with fail
      refine wp_region_held_drew (S := (fun W' : World => Cells W' (blk b1 (o1 + k * 6) 0 [.int .u16 a0, .int .u16 a1, .int .u16 a2, .int .i64 a3, .int .u64 a4, .int .u64 a5] ++ blk b2 (o2 + k * 6) 0 [.int .u16 a0, .int .u16 a1, .int .u16 a2, .int .i64 a3, .int .u64 a4, .int .u64 a5]))) (by kernel_rfl) (T.drew) (fun hHeld => ?_)
      refine wpAnyH_take (i := 0) (oi := _) (v := ?_) (by rw [List.getElem?_toArray]; rfl) (by kernel_rfl) (by kernel_rfl) (by kernel_rfl) (by exact fun _ _ _ h => h) (Or.inl ⟨by rfl, ?_⟩) (by assumption) ?_
      rotate_left
      · intro w hSw
        try simp only [Cells, blk, List.cons_append, List.nil_append, and_true, Nat.reduceAdd, Nat.add_zero, Nat.zero_add] at hSw
        go_simp
        try with_reducible rfl
      simp only [Act.put, List.setIfInBounds_toArray, List.set_cons_zero, List.set_cons_succ]
      refine wpAnyH_take (i := 1) (oi := _) (v := ?_) (by rw [List.getElem?_toArray]; rfl) (by kernel_rfl) (by kernel_rfl) (by kernel_rfl) (by exact fun _ _ _ h => h) (Or.inl ⟨by rfl, ?_⟩) (by assumption) ?_
      rotate_left
      · intro w hSw
        try simp only [Cells, blk, List.cons_append, List.nil_append, and_true, Nat.reduceAdd, Nat.add_zero, Nat.zero_add] at hSw
        go_simp
        try with_reducible rfl
      simp only [Act.put, List.setIfInBounds_toArray, List.set_cons_zero, List.set_cons_succ]
      refine wpAnyH_take (i := 2) (oi := _) (v := ?_) (by rw [List.getElem?_toArray]; rfl) (by kernel_rfl) (by kernel_rfl) (by kernel_rfl) (by exact fun _ _ _ h => h) (Or.inl ⟨by rfl, ?_⟩) (by assumption) ?_
      rotate_left
      · intro w hSw
        try simp only [Cells, blk, List.cons_append, List.nil_append, and_true, Nat.reduceAdd, Nat.add_zero, Nat.zero_add] at hSw
        go_simp
        try with_reducible rfl
      simp only [Act.put, List.setIfInBounds_toArray, List.set_cons_zero, List.set_cons_succ]
      refine wpAnyH_take (i := 3) (oi := _) (v := ?_) (by rw [List.getElem?_toArray]; rfl) (by kernel_rfl) (by kernel_rfl) (by kernel_rfl) (by exact fun _ _ _ h => h) (Or.inl ⟨by rfl, ?_⟩) (by assumption) ?_
      rotate_left
      · intro w hSw
        try simp only [Cells, blk, List.cons_append, List.nil_append, and_true, Nat.reduceAdd, Nat.add_zero, Nat.zero_add] at hSw
        go_simp
        try with_reducible rfl
      simp only [Act.put, List.setIfInBounds_toArray, List.set_cons_zero, List.set_cons_succ]
      refine wpAnyH_take (i := 4) (oi := _) (v := ?_) (by rw [List.getElem?_toArray]; rfl) (by kernel_rfl) (by kernel_rfl) (by kernel_rfl) (by exact fun _ _ _ h => h) (Or.inl ⟨by rfl, ?_⟩) (by assumption) ?_
      rotate_left
      · intro w hSw
        try simp only [Cells, blk, List.cons_append, List.nil_append, and_true, Nat.reduceAdd, Nat.add_zero, Nat.zero_add] at hSw
        go_simp
        try with_reducible rfl
      simp only [Act.put, List.setIfInBounds_toArray, List.set_cons_zero, List.set_cons_succ]
      refine wpAnyH_take (i := 5) (oi := _) (v := ?_) (by rw [List.getElem?_toArray]; rfl) (by kernel_rfl) (by kernel_rfl) (by kernel_rfl) (by exact fun _ _ _ h => h) (Or.inl ⟨by rfl, ?_⟩) (by assumption) ?_
      rotate_left
      · intro w hSw
        try simp only [Cells, blk, List.cons_append, List.nil_append, and_true, Nat.reduceAdd, Nat.add_zero, Nat.zero_add] at hSw
        go_simp
        try with_reducible rfl
      simp only [Act.put, List.setIfInBounds_toArray, List.set_cons_zero, List.set_cons_succ]
      refine wpAnyH_take (i := 6) (oi := _) (v := ?_) (by rw [List.getElem?_toArray]; rfl) (by kernel_rfl) (by kernel_rfl) (by kernel_rfl) (by exact fun _ _ _ h => h) (Or.inl ⟨by rfl, ?_⟩) (by assumption) ?_
      rotate_left
      · intro w hSw
        try simp only [Cells, blk, List.cons_append, List.nil_append, and_true, Nat.reduceAdd, Nat.add_zero, Nat.zero_add] at hSw
        go_simp
        try with_reducible rfl
      simp only [Act.put, List.setIfInBounds_toArray, List.set_cons_zero, List.set_cons_succ]
      refine wpAnyH_take (i := 7) (oi := _) (v := ?_) (by rw [List.getElem?_toArray]; rfl) (by kernel_rfl) (by kernel_rfl) (by kernel_rfl) (by exact fun _ _ _ h => h) (Or.inl ⟨by rfl, ?_⟩) (by assumption) ?_
      rotate_left
      · intro w hSw
        try simp only [Cells, blk, List.cons_append, List.nil_append, and_true, Nat.reduceAdd, Nat.add_zero, Nat.zero_add] at hSw
        go_simp
        try with_reducible rfl
      simp only [Act.put, List.setIfInBounds_toArray, List.set_cons_zero, List.set_cons_succ]
      refine wpAnyH_take (i := 8) (oi := _) (v := ?_) (by rw [List.getElem?_toArray]; rfl) (by kernel_rfl) (by kernel_rfl) (by kernel_rfl) (by exact fun _ _ _ h => h) (Or.inl ⟨by rfl, ?_⟩) (by assumption) ?_
      rotate_left
      · intro w hSw
        try simp only [Cells, blk, List.cons_append, List.nil_append, and_true, Nat.reduceAdd, Nat.add_zero, Nat.zero_add] at hSw
        go_simp
        try with_reducible rfl
      simp only [Act.put, List.setIfInBounds_toArray, List.set_cons_zero, List.set_cons_succ]
      refine wpAnyH_done (by kernel_rfl) ?_ _
      go_wp2
      refine ⟨⟨k + 1, by simp, hlt, HBD.out⟩, ?_⟩
      simp [intOf]
      omega
    · have g1 : decide (k < n) = false := by simpa using hlt
      go_wp2
      go_ret
      exact ⟨rfl, hB⟩
set_option linter.unusedSimpArgs false in
set_option linter.unusedVariables false in
set_option maxRecDepth 100000 in
set_option maxHeartbeats 2000000 in
theorem sameCache_any (c : Ca) (v1 v2 : Value) (w : World) (h1 : CaV w v1 c) (h2 : CaV w v2 c) (hn : c.l.length ≤ 1000000) :
    Calls Try.prog 9 #[v1, v2] w fun e w' => e = .returned (.bool true) ∧ Below w.heap.size w w' := by
  obtain ⟨va, ha, l, du⟩ := c
  obtain ⟨f1, rfl, s1⟩ := h1
  obtain ⟨f2, rfl, s2⟩ := h2
  simp only at s1 s2 hn ⊢
  have hB0 : Below w.heap.size w ((w.alloc (.cells #[.bool va, .int .u64 ha, f1, .bool du] 26)).alloc (.cells #[.bool va, .int .u64 ha, f2, .bool du] 26)) := ((Below.refl _ _).alloc (Nat.le_refl _) _).alloc (by simp) _
  have cs := sameFound_any l f1 f2 _ (s1.below hB0) (s2.below hB0) hn
  have CS := Lib.hid cs
  have HB0 := Lib.hid hB0
  obtain ⟨ao1, p1, rfl⟩ := s1.val
  obtain ⟨ao2, p2, rfl⟩ := s2.val
  clear cs hB0 s1 s2
  go_enter Try.func9, Try.ntmps9
  go_wp2_with (go_at_call 28; refine CS.out.mono ?_; rintro e w3 ⟨rfl, hB3⟩)
  go_ret
  exact ⟨rfl, HB0.out.trans (hB3.mono (by simp; omega))⟩
end Go.Proofs.Yteblimdbkiiaaaa
