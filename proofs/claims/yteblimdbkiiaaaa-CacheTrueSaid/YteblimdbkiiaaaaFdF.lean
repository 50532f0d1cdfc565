/- cache: copied, Verify, Doubt. -/
import Derived.Test.YteblimdbkiiaaaaFdE
import Derived.Deep.DeepCutAuto
import Derived.Deep.CutRange
namespace Go.Proofs.Yteblimdbkiiaaaa
open Go.RowKit

set_option linter.unusedSimpArgs false in
set_option linter.unusedVariables false in
set_option maxRecDepth 100000 in
set_option maxHeartbeats 1000000 in
theorem copied_any (va du : Bool) (ha : Int) (fv : Value) (l : List Fd) (w : World) (h : SR w fv l.length 6 (fcells l)) (hn : l.length ≤ 1000000) :
    Calls Try.prog 38 #[.agg #[.bool va, .int .u64 ha, fv, .bool du]] w fun e w' => ∃ v', e = .returned (.agg #[.bool va, .int .u64 ha, v', .bool du]) ∧ FO (w.heap.size + 2) w' v' l ∧ Below w.heap.size w w' := by
  obtain ⟨ao, cp, rfl⟩ := h.val
  have hb0 : Below w.heap.size w ((w.alloc (.cells #[.bool va, .int .u64 ha, (.slice ao l.length cp), .bool du] 26)).alloc (.cells #[.bool false, .int .u64 0, .slice none 0 0, .bool false] 26)) := ((Below.refl _ _).alloc (Nat.le_refl _) _).alloc (by simp) _
  have hz0 : ((w.alloc (.cells #[.bool va, .int .u64 ha, (.slice ao l.length cp), .bool du] 26)).alloc (.cells #[.bool false, .int .u64 0, .slice none 0 0, .bool false] 26)).heap.size = w.heap.size + 2 := by simp
  have hA0 := (Below.heap_alloc (w.alloc (.cells #[.bool va, .int .u64 ha, (.slice ao l.length cp), .bool du] 26)) (.cells #[.bool false, .int .u64 0, .slice none 0 0, .bool false] 26) w.heap.size (by simp)).trans (heap_alloc_new w (.cells #[.bool va, .int .u64 ha, (.slice ao l.length cp), .bool du] 26))
  have hR0 : ((w.alloc (.cells #[.bool va, .int .u64 ha, (.slice ao l.length cp), .bool du] 26)).alloc (.cells #[.bool false, .int .u64 0, .slice none 0 0, .bool false] 26)).heap[w.heap.size + 1]? = some (.cells #[.bool false, .int .u64 0, .slice none 0 0, .bool false] 26 (0, 0)) := by
    have := heap_alloc_new (w.alloc (.cells #[.bool va, .int .u64 ha, (.slice ao l.length cp), .bool du] 26)) (.cells #[.bool false, .int .u64 0, .slice none 0 0, .bool false] 26)
    rwa [show (w.alloc (.cells #[.bool va, .int .u64 ha, (.slice ao l.length cp), .bool du] 26)).heap.size = w.heap.size + 1 by simp] at this
  have cl := clone_fd _ l _ (h.below hb0) hn
  have CL := Lib.hid cl
  have HB0 := Lib.hid hb0
  have HA0 := Lib.hid hA0
  have HR0 := Lib.hid hR0
  have HZ0 := Lib.hid hz0
  clear cl hb0 hA0 hR0 hz0 h
  go_enter Try.func38, Try.ntmps38
  go_wp2_with fail
  go_at_call 30
  refine CL.out.mono ?_
  rintro e w1 ⟨v1, rfl, hf1, hB1⟩
  rw [HZ0.out] at hf1 hB1
  have hA1 := (hB1.block (w.heap.size) (by omega)).trans HA0.out
  have hR1 := (hB1.block (w.heap.size + 1) (by omega)).trans HR0.out
  have c0 := cell_of_row _ _ 0 _ _ _ hA1
  have d0 := cell_of_row _ _ 0 _ _ _ hR1
  have z0 := frozen_of_row _ _ 0 _ _ hA1
  have y0 := frozen_of_row _ _ 0 _ _ hR1
  have c1 := cell_of_row _ _ 1 _ _ _ hA1
  have d1 := cell_of_row _ _ 1 _ _ _ hR1
  have z1 := frozen_of_row _ _ 1 _ _ hA1
  have y1 := frozen_of_row _ _ 1 _ _ hR1
  have c2 := cell_of_row _ _ 2 _ _ _ hA1
  have d2 := cell_of_row _ _ 2 _ _ _ hR1
  have z2 := frozen_of_row _ _ 2 _ _ hA1
  have y2 := frozen_of_row _ _ 2 _ _ hR1
  have c3 := cell_of_row _ _ 3 _ _ _ hA1
  have d3 := cell_of_row _ _ 3 _ _ _ hR1
  have z3 := frozen_of_row _ _ 3 _ _ hA1
  have y3 := frozen_of_row _ _ 3 _ _ hR1
  simp only [List.getElem?_toArray, List.getElem?_cons_zero, List.getElem?_cons_succ] at c0 c1 c2 c3 d0 d1 d2 d3
  obtain ⟨ao1, cp1, rfl⟩ := hf1.len
  have hb1 := HB0.out.trans (hB1.mono (by omega))
  have HF1 := Lib.hid hf1
  have HB1 := Lib.hid hb1
  clear hf1 hB1 hb1 hA1 hR1
  go_wp2
  refine bodyPost_ret (v := .agg #[.bool va, .int .u64 ha, .slice ao1 l.length cp1, .bool du]) (by simp [results, Try.results38, go_sem, c0, c1, c2, c3, d0, d1, d2, d3]) rfl ?_
  exact ⟨_, rfl, (((((HF1.out.set (p := ⟨w.heap.size, 2, none⟩) (by simp <;> omega) _).set (p := ⟨w.heap.size + 1, 0, none⟩) (by simp <;> omega) _).set (p := ⟨w.heap.size + 1, 1, none⟩) (by simp <;> omega) _).set (p := ⟨w.heap.size + 1, 2, none⟩) (by simp <;> omega) _).set (p := ⟨w.heap.size + 1, 3, none⟩) (by simp <;> omega) _), (((((HB1.out.setCell (p := ⟨w.heap.size, 2, none⟩) (by simp <;> omega) _).setCell (p := ⟨w.heap.size + 1, 0, none⟩) (by simp <;> omega) _).setCell (p := ⟨w.heap.size + 1, 1, none⟩) (by simp <;> omega) _).setCell (p := ⟨w.heap.size + 1, 2, none⟩) (by simp <;> omega) _).setCell (p := ⟨w.heap.size + 1, 3, none⟩) (by simp <;> omega) _)⟩
/-- a cache -/
structure Ca where
  va : Bool
  ha : Int
  l : List Fd
  du : Bool
def CaV (w : World) (v : Value) (c : Ca) : Prop := ∃ fv, v = .agg #[.bool c.va, .int .u64 c.ha, fv, .bool c.du] ∧ SR w fv c.l.length 6 (fcells c.l)
/-- a cache's slice has room for its elements -/
def CapV (v : Value) : Prop := ∃ x0 x1 a n cp x3, v = .agg #[x0, x1, .slice a n cp, x3] ∧ n ≤ cp
def CaK (w : World) (v : Value) (c : Ca) : Prop := CaV w v c ∧ CapV v
theorem FO.cap {B : Nat} {w : World} {a : Option Addr} {n cp : Nat} {l : List Fd} (h : FO B w (.slice a n cp) l) : n ≤ cp := by
  rcases h with ⟨e, _⟩ | ⟨g, cap, e, _, hc, _⟩
  · cases e; exact Nat.le_refl _
  · cases e; exact hc
theorem CaV.below {w w' : World} {v : Value} {c : Ca} (h : CaV w v c) (hb : Below w.heap.size w w') : CaV w' v c := by
  obtain ⟨fv, e, h⟩ := h
  exact ⟨fv, e, h.below hb⟩
def verC (c : Ca) (h : Int) : Ca := if c.va && (h == c.ha) then ⟨true, c.ha, c.l, false⟩ else ⟨false, 0, [], false⟩
def dbtC (c : Ca) : Ca := ⟨c.va, c.ha, c.l, c.du || c.va⟩
set_option linter.unusedSimpArgs false in
theorem set4 {W X : World} {i : Nat} {t : TypeId} {x0 x1 x2 x3 y0 y1 y2 y3 : Value} (h : W.heap[i]? = some (.cells #[x0, x1, x2, x3] t (0, 0)))
    (hX : (((W.setCell ⟨i, 0, none⟩ y0).setCell ⟨i, 1, none⟩ y1).setCell ⟨i, 2, none⟩ y2).setCell ⟨i, 3, none⟩ y3 = X) :
    X.heap[i]? = some (.cells #[y0, y1, y2, y3] t (0, 0)) ∧ W.grownBy X (some i) := by
  subst hX
  refine ⟨?_, grown_trans (grown_trans (grown_trans (one6 W ⟨i, 0, none⟩ y0) (one6 _ ⟨i, 1, none⟩ y1)) (one6 _ ⟨i, 2, none⟩ y2)) (one6 _ ⟨i, 3, none⟩ y3)⟩
  have h0 := heap_setCell_same W i 0 _ t y0 h
  simp only [List.setIfInBounds_toArray, List.set_cons_zero, List.set_cons_succ] at h0
  have h1 := heap_setCell_same _ i 1 _ t y1 h0
  simp only [List.setIfInBounds_toArray, List.set_cons_zero, List.set_cons_succ] at h1
  have h2 := heap_setCell_same _ i 2 _ t y2 h1
  simp only [List.setIfInBounds_toArray, List.set_cons_zero, List.set_cons_succ] at h2
  have h3 := heap_setCell_same _ i 3 _ t y3 h2
  simpa only [List.setIfInBounds_toArray, List.set_cons_zero, List.set_cons_succ] using h3
theorem FO.grown {B i : Nat} {w w' : World} {v : Value} {l : List Fd} (h : FO B w v l) (hg : w.grownBy w' (some i)) (hi : i < B) : FO B w' v l := by
  rcases h with h | ⟨g, cap, e, h1, h2, h3, cur, k1, k2⟩
  · exact .inl h
  · exact .inr ⟨g, cap, e, h1, h2, h3, cur, (hg.block g (Array.getElem?_eq_some_iff.1 k1).1 (by simp; omega)).trans k1, k2⟩
theorem srf_nil (w : World) : SR w (.slice none 0 0) 0 6 (fcells []) := ⟨Nat.zero_le _, by simp [fcells], by simp [fcells], none, 0, rfl, fun _ => ⟨rfl, rfl⟩, fun h => absurd h (by simp)⟩
theorem SR.setr {B : Nat} {w : World} {v : Value} {n size : Nat} {cs : List Value} (h : SR w v n size cs) (hB : w.heap.size ≤ B) {w' : World} (hb : Below B w w') : SR w' v n size cs := h.below (hb.mono hB)
set_option linter.unusedSimpArgs false in
set_option linter.unusedVariables false in
set_option maxRecDepth 100000 in
set_option maxHeartbeats 1000000 in
theorem verify_any (v : Value) (c : Ca) (h : Int) (w : World) (hc : CaV w v c) (hn : c.l.length ≤ 1000000) :
    Calls Try.prog 12 #[v, .int .u64 h] w fun e w' => ∃ v', e = .returned v' ∧ CaK w' v' (verC c h) ∧ Below w.heap.size w w' := by
  obtain ⟨va, ha, l, du⟩ := c
  obtain ⟨fv, rfl, hs⟩ := hc
  simp only at hs hn ⊢
  unfold verC
  obtain ⟨x, hx⟩ : ∃ x, (h == ha) = x := ⟨_, rfl⟩
  have hx1 : (h != ha) = !x := by
    rw [← hx]
    rfl
  obtain ⟨ao, cp, rfl⟩ := hs.val
  have hb0 : Below w.heap.size w ((w.alloc (.cells #[.bool va, .int .u64 ha, (.slice ao l.length cp), .bool du] 26)).alloc (.cells #[.bool false, .int .u64 0, .slice none 0 0, .bool false] 26)) := ((Below.refl _ _).alloc (Nat.le_refl _) _).alloc (by simp) _
  have hz0 : ((w.alloc (.cells #[.bool va, .int .u64 ha, (.slice ao l.length cp), .bool du] 26)).alloc (.cells #[.bool false, .int .u64 0, .slice none 0 0, .bool false] 26)).heap.size = w.heap.size + 2 := by simp
  have hA0 := (Below.heap_alloc (w.alloc (.cells #[.bool va, .int .u64 ha, (.slice ao l.length cp), .bool du] 26)) (.cells #[.bool false, .int .u64 0, .slice none 0 0, .bool false] 26) w.heap.size (by simp)).trans (heap_alloc_new w (.cells #[.bool va, .int .u64 ha, (.slice ao l.length cp), .bool du] 26))
  have hR0 : ((w.alloc (.cells #[.bool va, .int .u64 ha, (.slice ao l.length cp), .bool du] 26)).alloc (.cells #[.bool false, .int .u64 0, .slice none 0 0, .bool false] 26)).heap[w.heap.size + 1]? = some (.cells #[.bool false, .int .u64 0, .slice none 0 0, .bool false] 26 (0, 0)) := by
    have := heap_alloc_new (w.alloc (.cells #[.bool va, .int .u64 ha, (.slice ao l.length cp), .bool du] 26)) (.cells #[.bool false, .int .u64 0, .slice none 0 0, .bool false] 26)
    rwa [show (w.alloc (.cells #[.bool va, .int .u64 ha, (.slice ao l.length cp), .bool du] 26)).heap.size = w.heap.size + 1 by simp] at this
  by_cases hok : va = true ∧ x = true
  · obtain ⟨rfl, rfl⟩ := hok
    have e : (true && (h == ha)) = true := by rw [hx]; rfl
    simp only [e, if_true]
    have cl := copied_any true du ha _ l _ (hs.below hb0) hn
    have CL := Lib.hid cl
    have HB0 := Lib.hid hb0
    have HA0 := Lib.hid hA0
    have HR0 := Lib.hid hR0
    have HZ0 := Lib.hid hz0
    clear cl hb0 hA0 hR0 hz0 hs e hx
    go_enter Try.func12, Try.ntmps12
    go_wp2_with fail
    go_at_call 38
    refine CL.out.mono ?_
    rintro e w1 ⟨v1, rfl, hf1, hB1⟩
    rw [HZ0.out] at hf1 hB1
    have hA1 := (hB1.block (w.heap.size) (by omega)).trans HA0.out
    have hR1 := (hB1.block (w.heap.size + 1) (by omega)).trans HR0.out
    have c0 := cell_of_row _ _ 0 _ _ _ hA1
    have d0 := cell_of_row _ _ 0 _ _ _ hR1
    have z0 := frozen_of_row _ _ 0 _ _ hA1
    have y0 := frozen_of_row _ _ 0 _ _ hR1
    have c1 := cell_of_row _ _ 1 _ _ _ hA1
    have d1 := cell_of_row _ _ 1 _ _ _ hR1
    have z1 := frozen_of_row _ _ 1 _ _ hA1
    have y1 := frozen_of_row _ _ 1 _ _ hR1
    have c2 := cell_of_row _ _ 2 _ _ _ hA1
    have d2 := cell_of_row _ _ 2 _ _ _ hR1
    have z2 := frozen_of_row _ _ 2 _ _ hA1
    have y2 := frozen_of_row _ _ 2 _ _ hR1
    have c3 := cell_of_row _ _ 3 _ _ _ hA1
    have d3 := cell_of_row _ _ 3 _ _ _ hR1
    have z3 := frozen_of_row _ _ 3 _ _ hA1
    have y3 := frozen_of_row _ _ 3 _ _ hR1
    simp only [List.getElem?_toArray, List.getElem?_cons_zero, List.getElem?_cons_succ] at c0 c1 c2 c3 d0 d1 d2 d3
    obtain ⟨ao1, cp1, rfl⟩ := hf1.len
    have hb1 := HB0.out.trans (hB1.mono (by omega))
    have HF1 := Lib.hid hf1
    have HB1 := Lib.hid hb1
    clear hf1 hB1 hb1 hx1
    go_upto_region 4 with fail
    generalize hX : World.setCell _ _ _ = X
    obtain ⟨hA2, hg2⟩ := set4 hA1 hX
    have hR2 := (hg2.block (w.heap.size + 1) (Array.getElem?_eq_some_iff.1 hR1).1 (by simp)).trans hR1
    have hf2 := HF1.out.grown hg2 (by omega)
    have hb2 := HB1.out.grown hg2 HB1.out.size (fun k hk => by simp at hk; omega)
    clear c0 c1 c2 c3 d0 d1 d2 d3 z0 z1 z2 z3 y0 y1 y2 y3 hA1 hR1 hX HF1 HB1 hg2
    have c0 := cell_of_row _ _ 0 _ _ _ hA2
    have d0 := cell_of_row _ _ 0 _ _ _ hR2
    have z0 := frozen_of_row _ _ 0 _ _ hA2
    have y0 := frozen_of_row _ _ 0 _ _ hR2
    have c1 := cell_of_row _ _ 1 _ _ _ hA2
    have d1 := cell_of_row _ _ 1 _ _ _ hR2
    have z1 := frozen_of_row _ _ 1 _ _ hA2
    have y1 := frozen_of_row _ _ 1 _ _ hR2
    have c2 := cell_of_row _ _ 2 _ _ _ hA2
    have d2 := cell_of_row _ _ 2 _ _ _ hR2
    have z2 := frozen_of_row _ _ 2 _ _ hA2
    have y2 := frozen_of_row _ _ 2 _ _ hR2
    have c3 := cell_of_row _ _ 3 _ _ _ hA2
    have d3 := cell_of_row _ _ 3 _ _ _ hR2
    have z3 := frozen_of_row _ _ 3 _ _ hA2
    have y3 := frozen_of_row _ _ 3 _ _ hR2
    simp only [List.getElem?_toArray, List.getElem?_cons_zero, List.getElem?_cons_succ] at c0 c1 c2 c3 d0 d1 d2 d3
    have HF2 := Lib.hid hf2
    have HB2 := Lib.hid hb2
    clear hf2 hb2 hA2 hR2
    go_wp2
    refine bodyPost_ret (v := .agg #[.bool true, .int .u64 ha, .slice ao1 l.length cp1, .bool false]) (by simp [results, Try.results12, go_sem, c0, c1, c2, c3, d0, d1, d2, d3]) rfl ?_
    exact ⟨_, rfl, ⟨⟨_, rfl, ((((((HF2.out.set (p := ⟨w.heap.size, 3, none⟩) (by simp <;> omega) _).set (p := ⟨w.heap.size + 1, 0, none⟩) (by simp <;> omega) _).set (p := ⟨w.heap.size + 1, 1, none⟩) (by simp <;> omega) _).set (p := ⟨w.heap.size + 1, 2, none⟩) (by simp <;> omega) _).set (p := ⟨w.heap.size + 1, 3, none⟩) (by simp <;> omega) _)).sr⟩, ⟨_, _, _, _, _, _, rfl, HF2.out.cap⟩⟩, (((((HB2.out.setCell (p := ⟨w.heap.size, 3, none⟩) (by simp <;> omega) _).setCell (p := ⟨w.heap.size + 1, 0, none⟩) (by simp <;> omega) _).setCell (p := ⟨w.heap.size + 1, 1, none⟩) (by simp <;> omega) _).setCell (p := ⟨w.heap.size + 1, 2, none⟩) (by simp <;> omega) _).setCell (p := ⟨w.heap.size + 1, 3, none⟩) (by simp <;> omega) _)⟩
  · have e : (va && (h == ha)) = false := by
      rw [hx]
      cases va <;> cases x <;> simp_all
    simp only [e, Bool.false_eq_true, if_false]
    clear hA0 hR0 hz0 e hx hs
    cases va
    · clear hok
      go_enter Try.func12, Try.ntmps12
      go_wp2
      refine bodyPost_ret (v := .agg #[.bool false, .int .u64 0, .slice none 0 0, .bool false]) (by simp [results, Try.results12, go_sem]) rfl ?_
      exact ⟨_, rfl, ⟨⟨_, rfl, srf_nil _⟩, ⟨_, _, _, _, _, _, rfl, Nat.le_refl _⟩⟩, ((Below.refl _ _).alloc (Nat.le_refl _) _).alloc (by simp) _⟩
    · obtain rfl : x = false := by
        cases x
        · rfl
        · exact absurd (And.intro rfl rfl) hok
      clear hok
      go_enter Try.func12, Try.ntmps12
      go_wp2
      refine bodyPost_ret (v := .agg #[.bool false, .int .u64 0, .slice none 0 0, .bool false]) (by simp [results, Try.results12, go_sem]) rfl ?_
      exact ⟨_, rfl, ⟨⟨_, rfl, srf_nil _⟩, ⟨_, _, _, _, _, _, rfl, Nat.le_refl _⟩⟩, ((Below.refl _ _).alloc (Nat.le_refl _) _).alloc (by simp) _⟩
set_option linter.unusedSimpArgs false in
set_option linter.unusedVariables false in
set_option maxRecDepth 100000 in
set_option maxHeartbeats 1000000 in
theorem rverify_any (v : Value) (c : Ca) (h : Int) (w : World) (hc : CaV w v c) (hn : c.l.length ≤ 1000000) :
    Calls Try.prog 13 #[v, .int .u64 h] w fun e w' => ∃ v', e = .returned v' ∧ CaV w' v' (verC c h) ∧ Below w.heap.size w w' := by
  obtain ⟨va, ha, l, du⟩ := c
  obtain ⟨fv, rfl, hs⟩ := hc
  simp only at hs hn ⊢
  unfold verC
  obtain ⟨x, hx⟩ : ∃ x, (h == ha) = x := ⟨_, rfl⟩
  have hx1 : (ha != h) = !x := by
    rw [← hx]
    rw [bne_comm]; rfl
  obtain ⟨ao, cp, rfl⟩ := hs.val
  have hb0 : Below w.heap.size w ((w.alloc (.cells #[.bool va, .int .u64 ha, (.slice ao l.length cp), .bool du] 26)).alloc (.cells #[.bool false, .int .u64 0, .slice none 0 0, .bool false] 26)) := ((Below.refl _ _).alloc (Nat.le_refl _) _).alloc (by simp) _
  have hz0 : ((w.alloc (.cells #[.bool va, .int .u64 ha, (.slice ao l.length cp), .bool du] 26)).alloc (.cells #[.bool false, .int .u64 0, .slice none 0 0, .bool false] 26)).heap.size = w.heap.size + 2 := by simp
  have hA0 := (Below.heap_alloc (w.alloc (.cells #[.bool va, .int .u64 ha, (.slice ao l.length cp), .bool du] 26)) (.cells #[.bool false, .int .u64 0, .slice none 0 0, .bool false] 26) w.heap.size (by simp)).trans (heap_alloc_new w (.cells #[.bool va, .int .u64 ha, (.slice ao l.length cp), .bool du] 26))
  have hR0 : ((w.alloc (.cells #[.bool va, .int .u64 ha, (.slice ao l.length cp), .bool du] 26)).alloc (.cells #[.bool false, .int .u64 0, .slice none 0 0, .bool false] 26)).heap[w.heap.size + 1]? = some (.cells #[.bool false, .int .u64 0, .slice none 0 0, .bool false] 26 (0, 0)) := by
    have := heap_alloc_new (w.alloc (.cells #[.bool va, .int .u64 ha, (.slice ao l.length cp), .bool du] 26)) (.cells #[.bool false, .int .u64 0, .slice none 0 0, .bool false] 26)
    rwa [show (w.alloc (.cells #[.bool va, .int .u64 ha, (.slice ao l.length cp), .bool du] 26)).heap.size = w.heap.size + 1 by simp] at this
  by_cases hok : va = true ∧ x = true
  · obtain ⟨rfl, rfl⟩ := hok
    have e : (true && (h == ha)) = true := by rw [hx]; rfl
    simp only [e, if_true]
    clear hA0 hR0 hz0 e hx
    go_enter Try.func13, Try.ntmps13
    go_wp2
    refine bodyPost_ret (v := .agg #[.bool true, .int .u64 ha, .slice ao l.length cp, .bool false]) (by simp [results, Try.results13, go_sem]) rfl ?_
    exact ⟨_, rfl, ⟨_, rfl, hs.below (((Below.refl _ _).alloc (Nat.le_refl _) _).alloc (by simp) _)⟩, ((Below.refl _ _).alloc (Nat.le_refl _) _).alloc (by simp) _⟩
  · have e : (va && (h == ha)) = false := by
      rw [hx]
      cases va <;> cases x <;> simp_all
    simp only [e, Bool.false_eq_true, if_false]
    clear hA0 hR0 hz0 e hx hs
    cases va
    · clear hok
      go_enter Try.func13, Try.ntmps13
      go_wp2
      refine bodyPost_ret (v := .agg #[.bool false, .int .u64 0, .slice none 0 0, .bool false]) (by simp [results, Try.results13, go_sem]) rfl ?_
      exact ⟨_, rfl, ⟨_, rfl, srf_nil _⟩, ((Below.refl _ _).alloc (Nat.le_refl _) _).alloc (by simp) _⟩
    · obtain rfl : x = false := by
        cases x
        · rfl
        · exact absurd (And.intro rfl rfl) hok
      clear hok
      go_enter Try.func13, Try.ntmps13
      go_wp2
      refine bodyPost_ret (v := .agg #[.bool false, .int .u64 0, .slice none 0 0, .bool false]) (by simp [results, Try.results13, go_sem]) rfl ?_
      exact ⟨_, rfl, ⟨_, rfl, srf_nil _⟩, ((Below.refl _ _).alloc (Nat.le_refl _) _).alloc (by simp) _⟩
end Go.Proofs.Yteblimdbkiiaaaa
