/- cache: Doubt. -/
import Derived.Test.YteblimdbkiiaaaaFdF
import Derived.Deep.DeepCutAuto
import Derived.Deep.CutRange
namespace Go.Proofs.Yteblimdbkiiaaaa
open Go.RowKit

set_option linter.unusedSimpArgs false in
set_option linter.unusedVariables false in
set_option maxRecDepth 100000 in
set_option maxHeartbeats 1000000 in
theorem doubt_any (v : Value) (c : Ca) (w : World) (hc : CaV w v c) (hn : c.l.length ≤ 1000000) :
    Calls Try.prog 14 #[v] w fun e w' => ∃ v', e = .returned v' ∧ CaK w' v' (dbtC c) ∧ Below w.heap.size w w' := by
  obtain ⟨va, ha, l, du⟩ := c
  obtain ⟨fv, rfl, hs⟩ := hc
  simp only at hs hn ⊢
  unfold dbtC
  simp only
  obtain ⟨ao, cp, rfl⟩ := hs.val
  have hb0 : Below w.heap.size w ((w.alloc (.cells #[.bool va, .int .u64 ha, (.slice ao l.length cp), .bool du] 26)).alloc (.cells #[.bool false, .int .u64 0, .slice none 0 0, .bool false] 26)) := ((Below.refl _ _).alloc (Nat.le_refl _) _).alloc (by simp) _
  have hz0 : ((w.alloc (.cells #[.bool va, .int .u64 ha, (.slice ao l.length cp), .bool du] 26)).alloc (.cells #[.bool false, .int .u64 0, .slice none 0 0, .bool false] 26)).heap.size = w.heap.size + 2 := by simp
  have hA0 := (Below.heap_alloc (w.alloc (.cells #[.bool va, .int .u64 ha, (.slice ao l.length cp), .bool du] 26)) (.cells #[.bool false, .int .u64 0, .slice none 0 0, .bool false] 26) w.heap.size (by simp)).trans (heap_alloc_new w (.cells #[.bool va, .int .u64 ha, (.slice ao l.length cp), .bool du] 26))
  have hR0 : ((w.alloc (.cells #[.bool va, .int .u64 ha, (.slice ao l.length cp), .bool du] 26)).alloc (.cells #[.bool false, .int .u64 0, .slice none 0 0, .bool false] 26)).heap[w.heap.size + 1]? = some (.cells #[.bool false, .int .u64 0, .slice none 0 0, .bool false] 26 (0, 0)) := by
    have := heap_alloc_new (w.alloc (.cells #[.bool va, .int .u64 ha, (.slice ao l.length cp), .bool du] 26)) (.cells #[.bool false, .int .u64 0, .slice none 0 0, .bool false] 26)
    rwa [show (w.alloc (.cells #[.bool va, .int .u64 ha, (.slice ao l.length cp), .bool du] 26)).heap.size = w.heap.size + 1 by simp] at this
  have cl := copied_any va du ha _ l _ (hs.below hb0) hn
  have CL := Lib.hid cl
  have HB0 := Lib.hid hb0
  have HA0 := Lib.hid hA0
  have HR0 := Lib.hid hR0
  have HZ0 := Lib.hid hz0
  clear cl hb0 hA0 hR0 hz0 hs
  go_enter Try.func14, Try.ntmps14
  go_wp2_with fail
  go_at_call 38
  refine CL.out.mono ?_
  rintro e w1 ⟨v1, rfl, hf1, hB1⟩
  rw [HZ0.out] at hf1 hB1
  have hA1 := (hB1.block (w.heap.size) (by omega)).trans HA0.out
  have hR1 := (hB1.block (w.heap.size + 1) (by omega)).trans HR0.out
  have c0 := cell_of_row _ _ 0 _ _ _ hA1
  have d0 := cell_of_row _ _ 0 _ _ _ hR1
  have z0 := frozen_of_row _ _ 0 _ _ hA1
  have y0 := frozen_of_row _ _ 0 _ _ hR1
  have c1 := cell_of_row _ _ 1 _ _ _ hA1
  have d1 := cell_of_row _ _ 1 _ _ _ hR1
  have z1 := frozen_of_row _ _ 1 _ _ hA1
  have y1 := frozen_of_row _ _ 1 _ _ hR1
  have c2 := cell_of_row _ _ 2 _ _ _ hA1
  have d2 := cell_of_row _ _ 2 _ _ _ hR1
  have z2 := frozen_of_row _ _ 2 _ _ hA1
  have y2 := frozen_of_row _ _ 2 _ _ hR1
  have c3 := cell_of_row _ _ 3 _ _ _ hA1
  have d3 := cell_of_row _ _ 3 _ _ _ hR1
  have z3 := frozen_of_row _ _ 3 _ _ hA1
  have y3 := frozen_of_row _ _ 3 _ _ hR1
  simp only [List.getElem?_toArray, List.getElem?_cons_zero, List.getElem?_cons_succ] at c0 c1 c2 c3 d0 d1 d2 d3
  obtain ⟨ao1, cp1, rfl⟩ := hf1.len
  have hb1 := HB0.out.trans (hB1.mono (by omega))
  have HF1 := Lib.hid hf1
  have HB1 := Lib.hid hb1
  clear hf1 hB1 hb1
  go_upto_region 2 with fail
  generalize hX : World.setCell _ _ _ = X
  obtain ⟨hA2, hg2⟩ := set4 hA1 hX
  have hR2 := (hg2.block (w.heap.size + 1) (Array.getElem?_eq_some_iff.1 hR1).1 (by simp)).trans hR1
  have hf2 := HF1.out.grown hg2 (by omega)
  have hb2 := HB1.out.grown hg2 HB1.out.size (fun k hk => by simp at hk; omega)
  clear c0 c1 c2 c3 d0 d1 d2 d3 z0 z1 z2 z3 y0 y1 y2 y3 hA1 hR1 hX HF1 HB1 hg2
  have c0 := cell_of_row _ _ 0 _ _ _ hA2
  have d0 := cell_of_row _ _ 0 _ _ _ hR2
  have z0 := frozen_of_row _ _ 0 _ _ hA2
  have y0 := frozen_of_row _ _ 0 _ _ hR2
  have c1 := cell_of_row _ _ 1 _ _ _ hA2
  have d1 := cell_of_row _ _ 1 _ _ _ hR2
  have z1 := frozen_of_row _ _ 1 _ _ hA2
  have y1 := frozen_of_row _ _ 1 _ _ hR2
  have c2 := cell_of_row _ _ 2 _ _ _ hA2
  have d2 := cell_of_row _ _ 2 _ _ _ hR2
  have z2 := frozen_of_row _ _ 2 _ _ hA2
  have y2 := frozen_of_row _ _ 2 _ _ hR2
  have c3 := cell_of_row _ _ 3 _ _ _ hA2
  have d3 := cell_of_row _ _ 3 _ _ _ hR2
  have z3 := frozen_of_row _ _ 3 _ _ hA2
  have y3 := frozen_of_row _ _ 3 _ _ hR2
  simp only [List.getElem?_toArray, List.getElem?_cons_zero, List.getElem?_cons_succ] at c0 c1 c2 c3 d0 d1 d2 d3
  have HF2 := Lib.hid hf2
  have HB2 := Lib.hid hb2
  clear hf2 hb2 hA2 hR2
  cases du
  · cases va
    · go_wp2
      refine bodyPost_ret (v := .agg #[.bool false, .int .u64 ha, .slice ao1 l.length cp1, .bool false]) (by simp [results, Try.results14, go_sem, c0, c1, c2, c3, d0, d1, d2, d3]) rfl ?_
      exact ⟨_, rfl, ⟨⟨_, rfl, ((((((HF2.out.set (p := ⟨w.heap.size, 3, none⟩) (by simp <;> omega) _).set (p := ⟨w.heap.size + 1, 0, none⟩) (by simp <;> omega) _).set (p := ⟨w.heap.size + 1, 1, none⟩) (by simp <;> omega) _).set (p := ⟨w.heap.size + 1, 2, none⟩) (by simp <;> omega) _).set (p := ⟨w.heap.size + 1, 3, none⟩) (by simp <;> omega) _)).sr⟩, ⟨_, _, _, _, _, _, rfl, HF2.out.cap⟩⟩, (((((HB2.out.setCell (p := ⟨w.heap.size, 3, none⟩) (by simp <;> omega) _).setCell (p := ⟨w.heap.size + 1, 0, none⟩) (by simp <;> omega) _).setCell (p := ⟨w.heap.size + 1, 1, none⟩) (by simp <;> omega) _).setCell (p := ⟨w.heap.size + 1, 2, none⟩) (by simp <;> omega) _).setCell (p := ⟨w.heap.size + 1, 3, none⟩) (by simp <;> omega) _)⟩
    · go_wp2
      refine bodyPost_ret (v := .agg #[.bool true, .int .u64 ha, .slice ao1 l.length cp1, .bool true]) (by simp [results, Try.results14, go_sem, c0, c1, c2, c3, d0, d1, d2, d3]) rfl ?_
      exact ⟨_, rfl, ⟨⟨_, rfl, ((((((HF2.out.set (p := ⟨w.heap.size, 3, none⟩) (by simp <;> omega) _).set (p := ⟨w.heap.size + 1, 0, none⟩) (by simp <;> omega) _).set (p := ⟨w.heap.size + 1, 1, none⟩) (by simp <;> omega) _).set (p := ⟨w.heap.size + 1, 2, none⟩) (by simp <;> omega) _).set (p := ⟨w.heap.size + 1, 3, none⟩) (by simp <;> omega) _)).sr⟩, ⟨_, _, _, _, _, _, rfl, HF2.out.cap⟩⟩, (((((HB2.out.setCell (p := ⟨w.heap.size, 3, none⟩) (by simp <;> omega) _).setCell (p := ⟨w.heap.size + 1, 0, none⟩) (by simp <;> omega) _).setCell (p := ⟨w.heap.size + 1, 1, none⟩) (by simp <;> omega) _).setCell (p := ⟨w.heap.size + 1, 2, none⟩) (by simp <;> omega) _).setCell (p := ⟨w.heap.size + 1, 3, none⟩) (by simp <;> omega) _)⟩
  · go_wp2
    refine bodyPost_ret (v := .agg #[.bool va, .int .u64 ha, .slice ao1 l.length cp1, .bool true]) (by simp [results, Try.results14, go_sem, c0, c1, c2, c3, d0, d1, d2, d3]) rfl ?_
    exact ⟨_, rfl, ⟨⟨_, rfl, ((((((HF2.out.set (p := ⟨w.heap.size, 3, none⟩) (by simp <;> omega) _).set (p := ⟨w.heap.size + 1, 0, none⟩) (by simp <;> omega) _).set (p := ⟨w.heap.size + 1, 1, none⟩) (by simp <;> omega) _).set (p := ⟨w.heap.size + 1, 2, none⟩) (by simp <;> omega) _).set (p := ⟨w.heap.size + 1, 3, none⟩) (by simp <;> omega) _)).sr⟩, ⟨_, _, _, _, _, _, rfl, HF2.out.cap⟩⟩, (((((HB2.out.setCell (p := ⟨w.heap.size, 3, none⟩) (by simp <;> omega) _).setCell (p := ⟨w.heap.size + 1, 0, none⟩) (by simp <;> omega) _).setCell (p := ⟨w.heap.size + 1, 1, none⟩) (by simp <;> omega) _).setCell (p := ⟨w.heap.size + 1, 2, none⟩) (by simp <;> omega) _).setCell (p := ⟨w.heap.size + 1, 3, none⟩) (by simp <;> omega) _)⟩
set_option linter.unusedSimpArgs false in
set_option linter.unusedVariables false in
set_option maxRecDepth 100000 in
set_option maxHeartbeats 1000000 in
theorem rdoubt_any (v : Value) (c : Ca) (w : World) (hc : CaV w v c) :
    Calls Try.prog 15 #[v] w fun e w' => ∃ v', e = .returned v' ∧ CaV w' v' (dbtC c) ∧ Below w.heap.size w w' := by
  obtain ⟨va, ha, l, du⟩ := c
  obtain ⟨fv, rfl, hs⟩ := hc
  simp only at hs ⊢
  unfold dbtC
  simp only
  obtain ⟨ao, cp, rfl⟩ := hs.val
  cases va
  · go_enter Try.func15, Try.ntmps15
    go_wp2
    refine bodyPost_ret (v := .agg #[.bool false, .int .u64 ha, .slice ao l.length cp, .bool du]) (by simp [results, Try.results15, go_sem]) rfl ?_
    exact ⟨_, rfl, ⟨_, by simp, hs.below (((Below.refl _ _).alloc (Nat.le_refl _) _).alloc (by simp) _)⟩, ((Below.refl _ _).alloc (Nat.le_refl _) _).alloc (by simp) _⟩
  · go_enter Try.func15, Try.ntmps15
    go_wp2
    refine bodyPost_ret (v := .agg #[.bool true, .int .u64 ha, .slice ao l.length cp, .bool true]) (by simp [results, Try.results15, go_sem]) rfl ?_
    exact ⟨_, rfl, ⟨_, by simp, hs.below (((Below.refl _ _).alloc (Nat.le_refl _) _).alloc (by simp) _)⟩, ((Below.refl _ _).alloc (Nat.le_refl _) _).alloc (by simp) _⟩
end Go.Proofs.Yteblimdbkiiaaaa
