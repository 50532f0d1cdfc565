/- cache: the reference's Learn. -/
import Derived.Test.YteblimdbkiiaaaaFdR
import Derived.RegionTactic
namespace Go.Proofs.Yteblimdbkiiaaaa
open Go.RowKit

theorem insL_len (x : Fd) : ∀ l : List Fd, (insL x l).length = l.length + 1
  | [] => rfl
  | z :: t => by
    unfold insL
    split
    · rfl
    · rw [List.length_cons, insL_len x t, List.length_cons]
theorem rlTo_len (l : List Fd) : ∀ i, (rlTo l i).length ≤ i
  | 0 => Nat.le_refl _
  | i+1 => by
    have ih := rlTo_len l i
    unfold rlTo
    split
    · rw [rput_ins]
      split
      · omega
      · rw [insL_len]; omega
    · omega

theorem sr_box {w : World} {v : Value} {r : List Fd} {c : Nat} {x0 x3 : Bool} {x1 : Int} {x2 : Value} {T : TypeId} {so : Option Addr} {sn sc : Nat} (h : SR w v r.length 6 (fcells r)) (hx : x2 = .slice so sn sc) (hc : w.heap[c]? = some (.cells #[.bool x0, .int .u64 x1, x2, .bool x3] T (0, 0))) (p : Addr) (hp : p.block = c) (u : Value) : SR (w.setCell p u) v r.length 6 (fcells r) := by
  subst hx
  obtain ⟨h1, h2, h3, ao, cap, rfl, hn, h4⟩ := h
  refine ⟨h1, h2, h3, ao, cap, rfl, hn, fun h0 => ?_⟩
  obtain ⟨b, off, rfl, hlt, hcell⟩ := h4 h0
  have hne : b ≠ c := fun e => by
    subst e
    have e0 := fcells_get r 0 h0 (show 0 < 6 by decide)
    have e1 := hcell 0 (.int .u16 r[0].ha) (by simpa [El.cells, elF] using e0)
    rw [cell_of_row w b _ _ _ _ hc, Nat.add_zero] at e1
    match off, e1 with
    | 0, e1 => simp at e1
    | 1, e1 => simp at e1
    | 2, e1 => simp at e1
    | 3, e1 => simp at e1
    | n+4, e1 => simp at e1
  refine ⟨b, off, rfl, by simpa [World.setCell] using hlt, fun j y hj => ?_⟩
  rw [← hcell j y hj]
  exact World.cell?_of_block (heap_setCell_other _ _ _ _ (by rw [hp]; exact hne))
set_option linter.unusedSimpArgs false in
set_option linter.unusedVariables false in
set_option maxRecDepth 100000 in
set_option maxHeartbeats 2000000 in
theorem rlearn_any (v : Value) (l : List Fd) (hash : Int) (w : World) (h : SR w v l.length 6 (fcells l)) (hn : l.length ≤ 900000) :
    Calls Try.prog 11 #[v, .int .u64 hash] w fun e w' => ∃ v', e = .returned v' ∧ CaV w' v' ⟨true, hash, rlTo l l.length, false⟩ ∧ Below w.heap.size w w' := by
  obtain ⟨n, hnn⟩ : ∃ n, l.length = n := ⟨_, rfl⟩
  have HN := Lib.hid hnn
  obtain ⟨_, _, _, ao, cap, rfl, _, hc⟩ := h
  have HC := Lib.hid hc
  rw [hnn] at hn ⊢
  have hA0 := (Below.heap_alloc (w.alloc (.cells #[.bool false, .int .u64 0, .slice none 0 0, .bool false] 26)) (.cells #[.bool true, .int .u64 hash, .slice none 0 0, .bool false] 26) w.heap.size (by simp)).trans (heap_alloc_new w (.cells #[.bool false, .int .u64 0, .slice none 0 0, .bool false] 26))
  have hR0 : ((w.alloc (.cells #[.bool false, .int .u64 0, .slice none 0 0, .bool false] 26)).alloc (.cells #[.bool true, .int .u64 hash, .slice none 0 0, .bool false] 26)).heap[w.heap.size + 1]? = some (.cells #[.bool true, .int .u64 hash, .slice none 0 0, .bool false] 26 (0, 0)) := by
    have := heap_alloc_new (w.alloc (.cells #[.bool false, .int .u64 0, .slice none 0 0, .bool false] 26)) (.cells #[.bool true, .int .u64 hash, .slice none 0 0, .bool false] 26)
    rwa [show (w.alloc (.cells #[.bool false, .int .u64 0, .slice none 0 0, .bool false] 26)).heap.size = w.heap.size + 1 by simp] at this
  have hb0 : Below w.heap.size w ((w.alloc (.cells #[.bool false, .int .u64 0, .slice none 0 0, .bool false] 26)).alloc (.cells #[.bool true, .int .u64 hash, .slice none 0 0, .bool false] 26)) := ((Below.refl _ _).alloc (Nat.le_refl _) _).alloc (by simp) _
  have HA0 := Lib.hid hA0
  have HR0 := Lib.hid hR0
  have HB0 := Lib.hid hb0
  clear hc hnn hA0 hR0 hb0
  go_enter Try.func11, Try.ntmps11
  go_wp2
  go_loopw [6] (fun i wr => ∃ (k : Nat) (fv : Value), i = .int .i64 k ∧ k ≤ n ∧ Hid (wr.heap[w.heap.size]? = some (.cells #[.bool false, .int .u64 0, .slice none 0 0, .bool false] 26 (0, 0))) ∧ Hid (wr.heap[w.heap.size + 1]? = some (.cells #[.bool true, .int .u64 hash, fv, .bool false] 26 (0, 0))) ∧ Hid (SR wr fv (rlTo l k).length 6 (fcells (rlTo l k))) ∧ Below w.heap.size w wr) (fun i _ => n - (intOf i).toNat)
  case atStart => exact ⟨0, .slice none 0 0, by simp, Nat.zero_le _, HA0.out, HR0.out, srf_nil _, HB0.out⟩
  case round =>
    obtain ⟨k, fv, rfl, hk, hA, hR, hS, hB⟩ := hrel
    by_cases hlt : k < n
    · have hkl : k < l.length := by rw [HN.out]; exact hlt
      obtain ⟨b, off, rfl, hb, hcell⟩ := HC.out (by omega)
      have key : ∀ j, j < 6 → wr.cell? ⟨b, off + k * 6 + j, none⟩ = (elF l[k]).cells[j]? := fun j hj => by
        have e := fcells_get l k hkl hj
        obtain ⟨u, hu⟩ : ∃ u, (elF l[k]).cells[j]? = some u := ⟨_, List.getElem?_eq_getElem (show j < (elF l[k]).cells.length from hj)⟩
        rw [hu] at e ⊢
        have := kc (hcell _ _ e) hB
        rwa [← Nat.add_assoc] at this
      have hgd := getD_lt hkl
      have hrl : rlTo l (k + 1) = if (l.getD k default).ha != 0 then rput (rlTo l k) (l.getD k default) else rlTo l k := rfl
      obtain ⟨⟨e0, e1, e2, e3, e4, e5⟩, hx⟩ : ∃ x, l[k] = x := ⟨_, rfl⟩
      rw [hx] at key hgd
      rw [hgd] at hrl
      have k0 := key 0 (by decide)
      have k1 := key 1 (by decide)
      have k2 := key 2 (by decide)
      have k3 := key 3 (by decide)
      have k4 := key 4 (by decide)
      have k5 := key 5 (by decide)
      simp only [El.cells, elF, Nat.add_zero, List.getElem?_cons_zero, List.getElem?_cons_succ] at k0 k1 k2 k3 k4 k5
      have i1 : (k : Int) < (n : Int) := by omega
      have g1 : decide (k < n) = true := by simpa using hlt
      have w1 : IntKind.i64.wrap ((k : Int) + 1) = (k : Int) + 1 := IntWalk.i64_in _ (by omega)
      have call := fun W' (hW : Below wr.heap.size wr W') => rput_any fv (rlTo l k) ⟨e0, e1, e2, e3, e4, e5⟩ W' (hS.out.below hW) (by have := rlTo_len l k; omega)
      simp only [El.val, elF] at call
      obtain ⟨y, hy⟩ : ∃ y, (e0 != 0) = y := ⟨_, rfl⟩
      simp only [hy] at hrl
      have HRL := Lib.hid hrl
      have CALL := Lib.hid call
      have d2 := cell_of_row _ _ 2 _ _ _ hR.out
      have z2 := frozen_of_row _ _ 2 _ _ hR.out
      simp only [List.getElem?_toArray, List.getElem?_cons_zero, List.getElem?_cons_succ] at d2
      have hz : w.heap.size + 1 < wr.heap.size := (Array.getElem?_eq_some_iff.1 hR.out).1
      obtain ⟨fo, fc, rfl⟩ := hS.out.val
      clear key hcell hgd hx hrl call
      cases y
      · have e : rlTo l (k + 1) = rlTo l k := by simpa using HRL.out
        have HS2 : Hid (SR wr (.slice fo (rlTo l k).length fc) (rlTo l (k + 1)).length 6 (fcells (rlTo l (k + 1)))) := by
          show SR _ _ _ _ _
          rw [e]
          exact hS.out
        clear e
        go_wp2
        refine ⟨⟨k + 1, _, by simp, hlt, hA, hR, HS2.out, hB⟩, ?_⟩
        simp [intOf]
        omega
      · have e : rlTo l (k + 1) = rput (rlTo l k) ⟨e0, e1, e2, e3, e4, e5⟩ := by simpa using HRL.out
        have HE := Lib.hid e
        clear e
        go_wp2_with fail
        go_region_with (go_at_call 37
                        refine (CALL.out _ (Below.refl _ _).drew).mono ?_
                        rintro e w4 ⟨v4, rfl, hs4, hB4⟩
                        have hR4 := (hB4.block (w.heap.size + 1) (by simpa using hz)).trans hR.out
                        have f2 := cell_of_row _ _ 2 _ _ _ hR4
                        have u2 := frozen_of_row _ _ 2 _ _ hR4
                        simp only [List.getElem?_toArray, List.getElem?_cons_zero, List.getElem?_cons_succ] at f2
                        obtain ⟨ao4, c4, rfl⟩ := hs4.val)
        all_goals
          have hrow := heap_setCell_same w4 (w.heap.size + 1) 2 _ _ (.slice ao4 (rput (rlTo l k) ⟨e0, e1, e2, e3, e4, e5⟩).length c4) hR4
          simp only [List.setIfInBounds_toArray, List.set_cons_zero, List.set_cons_succ] at hrow
          have hA4 := (heap_setCell_other w4 ⟨w.heap.size + 1, 2, none⟩ w.heap.size (.slice ao4 (rput (rlTo l k) ⟨e0, e1, e2, e3, e4, e5⟩).length c4) (by simp)).trans ((hB4.block w.heap.size (by simp; omega)).trans hA.out)
          have hs5 := sr_box hs4 rfl hR4 ⟨w.heap.size + 1, 2, none⟩ rfl (.slice ao4 (rput (rlTo l k) ⟨e0, e1, e2, e3, e4, e5⟩).length c4)
          have hB5 : Below w.heap.size w (w4.setCell ⟨w.heap.size + 1, 2, none⟩ (.slice ao4 (rput (rlTo l k) ⟨e0, e1, e2, e3, e4, e5⟩).length c4)) := (hB.drew.trans (hB4.mono hB.drew.size)).setCell (p := ⟨w.heap.size + 1, 2, none⟩) (by simp) _
          rw [← HE.out] at hs5
          have H1 := Lib.hid hrow
          have H2 := Lib.hid hA4
          have H3 := Lib.hid hs5
          have H4 := Lib.hid hB5
          clear hrow hA4 hs5 hB5 hs4 hB4 hR4 f2 u2
          go_wp2
          refine ⟨⟨k + 1, _, by simp, hlt, H2.out, H1.out, by rw [HE.out] at H3 ⊢; exact H3.out, H4.out⟩, ?_⟩
          simp [intOf]
          omega
    · have e1 : k = n := by omega
      subst e1
      have g1 : decide (k < k) = false := by simp
      obtain ⟨fo, fc, rfl⟩ := hS.out.val
      have c0 := cell_of_row _ _ 0 _ _ _ hR.out
      have c1 := cell_of_row _ _ 1 _ _ _ hR.out
      have c2 := cell_of_row _ _ 2 _ _ _ hR.out
      have c3 := cell_of_row _ _ 3 _ _ _ hR.out
      have d0 := cell_of_row _ _ 0 _ _ _ hA.out
      have d1 := cell_of_row _ _ 1 _ _ _ hA.out
      have d2 := cell_of_row _ _ 2 _ _ _ hA.out
      have d3 := cell_of_row _ _ 3 _ _ _ hA.out
      have y0 := frozen_of_row _ _ 0 _ _ hA.out
      have y1 := frozen_of_row _ _ 1 _ _ hA.out
      have y2 := frozen_of_row _ _ 2 _ _ hA.out
      have y3 := frozen_of_row _ _ 3 _ _ hA.out
      simp only [List.getElem?_toArray, List.getElem?_cons_zero, List.getElem?_cons_succ] at c0 c1 c2 c3 d0 d1 d2 d3
      have q0 := sr_box hS.out rfl hA.out ⟨w.heap.size, 0, none⟩ rfl (.bool true)
      have hA1 := heap_setCell_same wr w.heap.size 0 _ _ (.bool true) hA.out
      simp only [List.setIfInBounds_toArray, List.set_cons_zero, List.set_cons_succ] at hA1
      have q1 := sr_box q0 rfl hA1 ⟨w.heap.size, 1, none⟩ rfl (.int .u64 hash)
      have hA2 := heap_setCell_same _ w.heap.size 1 _ _ (.int .u64 hash) hA1
      simp only [List.setIfInBounds_toArray, List.set_cons_zero, List.set_cons_succ] at hA2
      have q2 := sr_box q1 rfl hA2 ⟨w.heap.size, 2, none⟩ rfl (.slice fo (rlTo l k).length fc)
      have hA3 := heap_setCell_same _ w.heap.size 2 _ _ (.slice fo (rlTo l k).length fc) hA2
      simp only [List.setIfInBounds_toArray, List.set_cons_zero, List.set_cons_succ] at hA3
      have q3 := sr_box q2 rfl hA3 ⟨w.heap.size, 3, none⟩ rfl (.bool false)
      have Q3 := Lib.hid q3
      have HBF := Lib.hid ((((hB.setCell (p := ⟨w.heap.size, 0, none⟩) (Nat.le_refl _) (.bool true)).setCell (p := ⟨w.heap.size, 1, none⟩) (Nat.le_refl _) (.int .u64 hash)).setCell (p := ⟨w.heap.size, 2, none⟩) (Nat.le_refl _) (.slice fo (rlTo l k).length fc)).setCell (p := ⟨w.heap.size, 3, none⟩) (Nat.le_refl _) (.bool false))
      clear q0 q1 q2 q3 hA1 hA2 hA3
      go_wp2
      refine bodyPost_ret (v := .agg #[.bool true, .int .u64 hash, .slice fo (rlTo l k).length fc, .bool false]) (by simp [results, Try.results11, go_sem, c0, c1, c2, c3, d0, d1, d2, d3]) rfl ?_
      exact ⟨_, rfl, ⟨_, rfl, Q3.out⟩, HBF.out⟩
end Go.Proofs.Yteblimdbkiiaaaa
