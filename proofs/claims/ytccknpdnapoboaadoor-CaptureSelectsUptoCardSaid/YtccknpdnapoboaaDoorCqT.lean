/- capture: Ordered; Hex of the reference. -/
import Derived.Test.YtccknpdnapoboaaDoorCqN
import Derived.Test.YtccknpdnapoboaaDoorCqH
import Derived.BigQuiet
namespace Go.Proofs.YtccknpdnapoboaaDoor
open Go.RowKit

/-- times do not decrease -/
structure OrdP (l : List Cp) : Prop where
  out : ∀ j, j + 1 < l.length → ¬ (l.getD (j + 1) default).t < (l.getD j default).t
structure OrdK (l : List Cp) (n k : Nat) : Prop where
  out : ∀ j, j + 1 < n → j + 1 < k → ¬ (l.getD (j + 1) default).t < (l.getD j default).t
set_option linter.unusedSimpArgs false in
set_option linter.unusedVariables false in
set_option maxRecDepth 100000 in
set_option maxHeartbeats 4000000 in
theorem ordered_any (v : Value) (l : List Cp) (w : World) (h : Cps w v l) :
    Calls Tryd.prog 21 #[v] w fun e w' => ∃ D : Bool, e = .returned (.bool D) ∧ (D = true ↔ OrdP l) ∧ Below w.heap.size w w' := by
  obtain ⟨hm, ao, cap, rfl, hcell⟩ := h
  obtain ⟨n, hn⟩ : ∃ n, l.length = n := ⟨_, rfl⟩
  rw [hn] at hm ⊢
  have HN := Lib.hid hn
  have HC := Lib.hid hcell
  unfold maxLen at hm
  clear hn hcell
  go_enter Tryd.func21, Tryd.ntmps21
  go_wp2_with fail
  go_loopw [3] (fun i wr => ∃ k : Nat, i = .int .i64 k ∧ 1 ≤ k ∧ k ≤ n + 1 ∧ OrdK l n k ∧ Below w.heap.size w wr) (fun i _ => (n + 1) - (intOf i).toNat)
  case atStart => exact ⟨1, rfl, Nat.le_refl _, by omega, ⟨fun j _ h => absurd h (by omega)⟩, Below.refl _ _⟩
  case round =>
    obtain ⟨k, rfl, hk1, hk, hall, hB⟩ := hrel
    by_cases hlt : k < n
    · have g1 : decide (k < n) = true := by simpa using hlt
      have g1' : decide ((k : Int) < (n : Int)) = true := by simp; omega
      obtain ⟨b, off, rfl, hb, hx⟩ := HC.out (by rw [HN.out]; omega)
      obtain ⟨_, _, dx, _⟩ := (hx k (by rw [HN.out]; omega)).below hB
      obtain ⟨_, _, dy, _⟩ := (hx (k - 1) (by rw [HN.out]; omega)).below hB
      have ex : ∀ j (hj : j < l.length), l[j] = l.getD j default := fun j hj => by rw [List.getD_eq_getElem?_getD, List.getElem?_eq_getElem hj, Option.getD_some]
      rw [ex] at dx dy
      obtain ⟨X, hX⟩ : ∃ X, (l.getD k default).t = X := ⟨_, rfl⟩
      obtain ⟨Y, hY⟩ : ∃ Y, (l.getD (k - 1) default).t = Y := ⟨_, rfl⟩
      rw [hX] at dx
      rw [hY] at dy
      have hbr : b < wr.heap.size := Nat.lt_of_lt_of_le hb hB.size
      have i0 : (0 : Int) ≤ (k : Int) := by omega
      have i1 : (k : Int) < (n : Int) := by omega
      have w0 : IntKind.i64.wrap ((k : Int) - 1) = ((k - 1 : Nat) : Int) := by rw [IntWalk.i64_in _ (by omega)]; omega
      have w1 : IntKind.i64.wrap ((k : Int) + 1) = (k : Int) + 1 := IntWalk.i64_in _ (by omega)
      obtain ⟨J, hJ⟩ : ∃ J, k - 1 = J := ⟨_, rfl⟩
      rw [hJ] at dy w0
      have j1 : (J : Int) < (n : Int) := by omega
      have hstep : ¬ X < Y → OrdK l n (k + 1) := fun h => ⟨fun j h1 h2 => by
        by_cases h3 : j + 1 < k
        · exact hall.out j h1 h3
        · have e1 : j + 1 = k := by omega
          have e2 : j = k - 1 := by omega
          rw [e1, hX, e2, hY]
          exact h⟩
      have hbad : X < Y → ¬ OrdP l := fun h hall => by
        have := hall.out (k - 1) (by rw [HN.out]; omega)
        rw [show k - 1 + 1 = k by omega, hX, hY] at this
        exact this h
      have HST := Lib.hid hstep
      have HBD := Lib.hid hbad
      clear hX hY hJ ex hx hall hstep hbad
      by_cases hxy : X < Y
      · have g2 : decide (X < Y) = true := by simpa using hxy
        go_wp2_with fail
        go_quiet (fail)
        have hBf := below_drewN hB
        go_wp2
        refine bodyPost_ret (by simp [results, Tryd.results21, go_sem] <;> rfl) rfl ?_
        exact ⟨false, rfl, by simpa using HBD.out hxy, hBf _⟩
      · have g2 : decide (X < Y) = false := by simpa using hxy
        go_wp2_with fail
        go_quiet (fail)
        have hBf := below_drewN hB
        go_wp2
        go_roundw
        case rel => exact ⟨k + 1, by go_num, by omega, by omega, by exact HST.out hxy, hBf _⟩
        case measure => simp [intOf]; omega
    · have g1 : decide (k < n) = false := by simpa using hlt
      have g1' : decide ((k : Int) < (n : Int)) = false := by simp; omega
      have HALL : OrdP l := ⟨fun j h => hall.out j (by rw [HN.out] at h; exact h) (by rw [HN.out] at h; omega)⟩
      clear hall
      go_wp2
      go_ret
      exact ⟨true, rfl, by simpa using HALL, hB⟩
theorem sr_two {w : World} {i : Nat} {t : TypeId} {x y : Nat} (h : w.heap[i]? = some (.cells #[.int .u8 (x : Int), .int .u8 (y : Int)] t (0, 0))) : SR w (.slice (some ⟨i, 0, none⟩) 2 2) 2 1 (bcells [x, y]) :=
  ⟨by unfold maxLen; simp, rfl, bcells_one _, some ⟨i, 0, none⟩, 2, rfl, fun h => (by cases h), fun _ => ⟨i, 0, rfl, (Array.getElem?_eq_some_iff.1 h).1, fun j u hj => by
    rw [Nat.zero_add]
    match j, hj with
    | 0, hj => simp [bcells] at hj; subst hj; exact cell_of_row _ _ 0 _ _ _ h
    | 1, hj => simp [bcells] at hj; subst hj; exact cell_of_row _ _ 1 _ _ _ h⟩⟩
set_option linter.unusedSimpArgs false in
set_option linter.unusedVariables false in
set_option maxRecDepth 100000 in
set_option maxHeartbeats 4000000 in
theorem rhex_any (v : Value) (bs : List Nat) (w : World) (h : BytesAt w v bs) (hm : bs.length ≤ 10000000) :
    Calls Tryd.prog 44 #[v] w fun e w' => e = .returned (.string (strB (hexB bs))) ∧ Below w.heap.size w w' := by
  obtain ⟨i0, hi0, hz0, hz1, hz2⟩ := info_parts Tryd.info_u8
  obtain ⟨⟨_, _, _, ao, cap, rfl, _, hc⟩, _, hlt⟩ := h
  have HC := Lib.hid hc
  have HLT := Lib.hid hlt
  obtain ⟨n, hn⟩ : ∃ n, bs.length = n := ⟨_, rfl⟩
  have HN := Lib.hid hn
  rw [hn] at hm ⊢
  have HO := Lib.hid (World.ownsRow_made (base := w.heap.size) (e := 5) (size := 1) w #[] 0 (Nat.le_refl _) (by unfold maxLen; omega) rfl)
  clear hc hlt hn
  go_enter Tryd.func44, Tryd.ntmps44
  go_wp2_with fail
  go_loopw [3, 4] (fun v i wr => ∃ k : Nat, i = .int .i64 k ∧ k ≤ n ∧ Hid (wr.ownsRow w.heap.size 5 1 v (2 * k) (bcells (hexB (bs.take k)))) ∧ Below w.heap.size w wr) (fun _ i _ => n - (intOf i).toNat)
  case atStart => exact ⟨0, by simp, Nat.zero_le _, Lib.hid (by simpa [hexB, bcells] using HO.out), (Below.refl _ _).alloc (Nat.le_refl _) _⟩
  case round =>
    clear HO
    obtain ⟨k, rfl, hk, hown, hB⟩ := hrel
    by_cases hlt : k < n
    · have g1 : decide (k < n) = true := by simpa using hlt
      have g1' : decide ((k : Int) < (n : Int)) = true := by simp; omega
      have hkl : k < bs.length := by rw [HN.out]; exact hlt
      obtain ⟨b, off, rfl, hb, hcell⟩ := HC.out (by omega)
      have ht := List.take_succ_eq_append_getElem hkl
      have hx2 := HLT.out _ (List.getElem_mem hkl)
      have hcl := kc (hcell k (.int .u8 (bs[k] : Nat)) (by simp [bcells, List.getElem?_eq_getElem hkl])) hB
      obtain ⟨x, hx⟩ : ∃ x, bs[k] = x := ⟨_, rfl⟩
      rw [hx] at ht hx2 hcl
      have HT := Lib.hid ht
      clear ht hx hcell
      have x0 : (0 : Int) ≤ (x : Int) := by omega
      have x1 : (x : Int) < 256 := by omega
      have i1 : (k : Int) < (n : Int) := by omega
      have w1' : IntKind.i64.wrap ((k : Int) + 1) = (k : Int) + 1 := IntWalk.i64_in _ (by omega)
      obtain ⟨A, hA⟩ : ∃ A, x / 16 = A := ⟨_, rfl⟩
      obtain ⟨B, hBm⟩ : ∃ B, x % 16 = B := ⟨_, rfl⟩
      have c1 : IntKind.u8.wrap ((x : Int) / 16) = (A : Int) := by rw [IntWalk.u8_in _ (by omega)]; omega
      have c2 : ((x : Int).tmod 16) = (B : Int) := by rw [Int.tmod_eq_emod_of_nonneg (by omega)]; omega
      have r1 := fun W => run_dig .u8 A (by omega) W
      have r2 := fun W => run_dig .u8 B (by omega) W
      have HAB := Lib.hid (show hexB (bs.take (k + 1)) = hexB (bs.take k) ++ [dig A, dig B] by rw [HT.out, hexB_snoc, hA, hBm])
      clear hA hBm HT
      have hbr : b < wr.heap.size := Nat.lt_of_lt_of_le hb hB.size
      have hclw : w.cell? ⟨b, off + k, none⟩ = some (.int .u8 (x : Int)) := (hB.cell (p := ⟨b, off + k, none⟩) hb).symm.trans hcl
      go_upto_region 5 with fail
      refine wp_region_held_drew (S := (fun W' : World => Below w.heap.size w W' ∧ wr.heap.size ≤ W'.heap.size ∧ W'.cell? ⟨b, off + k, none⟩ = some (.int .u8 (x : Int)) ∧ True)) (by kernel_rfl) (⟨hB.drew, Nat.le_refl _, (kc hcl (Below.refl _ _).drew), trivial⟩) (fun hHeld => ?_)
      refine wpAnyH_take (i := 0) (oi := _) (v := ?_) (by rw [List.getElem?_toArray]; rfl) (by kernel_rfl) (by kernel_rfl) (by kernel_rfl) (by exact fun _ _ _ h => h) (Or.inl ⟨by rfl, ?_⟩) (by assumption) ?_
      rotate_left
      · intro w hSw
        try simp only [Cells, blk, List.cons_append, List.nil_append, and_true, Nat.reduceAdd, Nat.add_zero, Nat.zero_add] at hSw
        go_simp
        try with_reducible rfl
      simp only [Act.put, List.setIfInBounds_toArray, List.set_cons_zero, List.set_cons_succ]
      refine wpAnyH_take (i := 1) (oi := _) (v := ?_) (by rw [List.getElem?_toArray]; rfl) (by kernel_rfl) (by kernel_rfl) (by kernel_rfl) (by exact fun _ _ _ h => h) (Or.inl ⟨by rfl, ?_⟩) (by assumption) ?_
      rotate_left
      · intro w hSw
        try simp only [Cells, blk, List.cons_append, List.nil_append, and_true, Nat.reduceAdd, Nat.add_zero, Nat.zero_add] at hSw
        go_simp
        try with_reducible rfl
      simp only [Act.put, List.setIfInBounds_toArray, List.set_cons_zero, List.set_cons_succ]
      refine wpAnyH_take (i := 2) (oi := _) (v := ?_) (by rw [List.getElem?_toArray]; rfl) (by kernel_rfl) (by kernel_rfl) (by kernel_rfl) (by exact fun _ _ _ h => h) (Or.inl ⟨by rfl, ?_⟩) (by assumption) ?_
      rotate_left
      · intro w hSw
        try simp only [Cells, blk, List.cons_append, List.nil_append, and_true, Nat.reduceAdd, Nat.add_zero, Nat.zero_add] at hSw
        go_simp
        try with_reducible rfl
      simp only [Act.put, List.setIfInBounds_toArray, List.set_cons_zero, List.set_cons_succ]
      refine wpAnyH_take (i := 3) (oi := _) (v := ?_) (by rw [List.getElem?_toArray]; rfl) (by kernel_rfl) (by kernel_rfl) (by kernel_rfl) (by exact fun _ _ _ h => h) (Or.inl ⟨by rfl, ?_⟩) (by assumption) ?_
      rotate_left
      · intro w hSw
        try simp only [Cells, blk, List.cons_append, List.nil_append, and_true, Nat.reduceAdd, Nat.add_zero, Nat.zero_add] at hSw
        go_simp
        try with_reducible rfl
      simp only [Act.put, List.setIfInBounds_toArray, List.set_cons_zero, List.set_cons_succ]
      refine wpAnyH_take (i := 4) (oi := _) (v := ?_) (by rw [List.getElem?_toArray]; rfl) (by kernel_rfl) (by kernel_rfl) (by kernel_rfl) (by exact fun _ _ _ h => h) (Or.inl ⟨by rfl, ?_⟩) (by assumption) ?_
      rotate_left
      · intro w hSw
        try simp only [Cells, blk, List.cons_append, List.nil_append, and_true, Nat.reduceAdd, Nat.add_zero, Nat.zero_add] at hSw
        go_simp
        try with_reducible rfl
      simp only [Act.put, List.setIfInBounds_toArray, List.set_cons_zero, List.set_cons_succ]
      refine wpAnyH_take (i := 5) (oi := _) (v := ?_) (by rw [List.getElem?_toArray]; rfl) (by kernel_rfl) (by kernel_rfl) (by kernel_rfl) (by exact fun _ _ _ h => h) (Or.inl ⟨by rfl, ?_⟩) (by assumption) ?_
      rotate_left
      · intro w hSw
        try simp only [Cells, blk, List.cons_append, List.nil_append, and_true, Nat.reduceAdd, Nat.add_zero, Nat.zero_add] at hSw
        go_simp
        try with_reducible rfl
      simp only [Act.put, List.setIfInBounds_toArray, List.set_cons_zero, List.set_cons_succ]
      refine wpAnyH_take (i := 6) (oi := _) (v := ?_) (by rw [List.getElem?_toArray]; rfl) (by kernel_rfl) (by kernel_rfl) (by kernel_rfl) (by exact fun _ _ _ h => h) (Or.inl ⟨by rfl, ?_⟩) (by assumption) ?_
      rotate_left
      · intro w hSw
        try simp only [Cells, blk, List.cons_append, List.nil_append, and_true, Nat.reduceAdd, Nat.add_zero, Nat.zero_add] at hSw
        go_simp
        try with_reducible rfl
      simp only [Act.put, List.setIfInBounds_toArray, List.set_cons_zero, List.set_cons_succ]
      refine wpAnyH_take (i := 7) (oi := _) (v := ?_) (by rw [List.getElem?_toArray]; rfl) (by kernel_rfl) (by kernel_rfl) (by kernel_rfl) (by exact fun _ _ _ h => h) (Or.inl ⟨by rfl, ?_⟩) (by assumption) ?_
      rotate_left
      · intro w hSw
        try simp only [Cells, blk, List.cons_append, List.nil_append, and_true, Nat.reduceAdd, Nat.add_zero, Nat.zero_add] at hSw
        go_simp
        try with_reducible rfl
      simp only [Act.put, List.setIfInBounds_toArray, List.set_cons_zero, List.set_cons_succ]
      refine wpAnyH_take (i := 8) (oi := _) (v := ?_) (by rw [List.getElem?_toArray]; rfl) (by kernel_rfl) (by kernel_rfl) (by kernel_rfl) (by exact fun _ _ _ h => h) (Or.inl ⟨by rfl, ?_⟩) (by assumption) ?_
      rotate_left
      · intro w hSw
        try simp only [Cells, blk, List.cons_append, List.nil_append, and_true, Nat.reduceAdd, Nat.add_zero, Nat.zero_add] at hSw
        go_simp
        try with_reducible rfl
      simp only [Act.put, List.setIfInBounds_toArray, List.set_cons_zero, List.set_cons_succ]
      refine wpAnyH_take (i := 9) (oi := _) (v := ?_) (by rw [List.getElem?_toArray]; rfl) (by kernel_rfl) (by kernel_rfl) (by kernel_rfl) (by exact fun _ _ _ h => h) (Or.inl ⟨by rfl, ?_⟩) (by assumption) ?_
      rotate_left
      · intro w hSw
        try simp only [Cells, blk, List.cons_append, List.nil_append, and_true, Nat.reduceAdd, Nat.add_zero, Nat.zero_add] at hSw
        go_simp
        try with_reducible rfl
      simp only [Act.put, List.setIfInBounds_toArray, List.set_cons_zero, List.set_cons_succ]
      refine wpAnyH_take (i := 10) (oi := _) (v := ?_) (by rw [List.getElem?_toArray]; rfl) (by kernel_rfl) (by kernel_rfl) (by kernel_rfl) (by exact fun _ _ _ h => h) (Or.inl ⟨by rfl, ?_⟩) (by assumption) ?_
      rotate_left
      · intro w hSw
        try simp only [Cells, blk, List.cons_append, List.nil_append, and_true, Nat.reduceAdd, Nat.add_zero, Nat.zero_add] at hSw
        go_simp
        try with_reducible rfl
      simp only [Act.put, List.setIfInBounds_toArray, List.set_cons_zero, List.set_cons_succ]
      refine wpAnyH_take (i := 11) (oi := _) (v := ?_) (by rw [List.getElem?_toArray]; rfl) (by kernel_rfl) (by kernel_rfl) (by kernel_rfl) (by exact fun _ _ _ h => h) (Or.inl ⟨by rfl, ?_⟩) (by assumption) ?_
      rotate_left
      · intro w hSw
        try simp only [Cells, blk, List.cons_append, List.nil_append, and_true, Nat.reduceAdd, Nat.add_zero, Nat.zero_add] at hSw
        go_simp
        try with_reducible rfl
      simp only [Act.put, List.setIfInBounds_toArray, List.set_cons_zero, List.set_cons_succ]
      refine wpAnyH_take (i := 12) (oi := _) (v := ?_) (by rw [List.getElem?_toArray]; rfl) (by kernel_rfl) (by kernel_rfl) (by kernel_rfl) (by exact fun _ _ _ h => h) (Or.inl ⟨by rfl, ?_⟩) (by assumption) ?_
      rotate_left
      · intro w hSw
        try simp only [Cells, blk, List.cons_append, List.nil_append, and_true, Nat.reduceAdd, Nat.add_zero, Nat.zero_add] at hSw
        go_simp
        try with_reducible rfl
      simp only [Act.put, List.setIfInBounds_toArray, List.set_cons_zero, List.set_cons_succ]
      refine wpAnyH_ready (rs := [13]) (by kernel_rfl) (by simp) (AllReadyH.cons (o := _) (by rw [List.getElem?_toArray]; rfl) (fun K hK => ?_) AllReadyH.nil)
      go_simp
      generalize hX : World.drew _ = w13
      have hsr := (sr_two (heap_alloc_new wr (.cells #[.int .u8 (dig A : Nat), .int .u8 (dig B : Nat)] 5))).below (Below.refl _ _).drew
      have hB13 : Below wr.heap.size wr w13 := by rw [← hX]; exact ((Below.refl wr.heap.size wr).alloc (Nat.le_refl _) _).drew
      rw [hX] at hsr
      clear hX
      have hown3 := own_below hown.out hB13
      refine hK.out _ _ (⟨hB.trans (hB13.mono hB.size), hB13.size, kc hcl hB13, trivial⟩) (fun hHeld2 => ?_)
      replace hHeld := hHeld2
      clear hK K hHeld2
      try simp only [Act.put, List.setIfInBounds_toArray, List.set_cons_zero, List.set_cons_succ]
      have hz := hHeld.2.1
      clear hB13
      have hbz := Nat.le_trans hB.size hz
      refine wpAnyH_ready (rs := [14]) (by kernel_rfl) (by simp) (AllReadyH.cons (o := _) (by rw [List.getElem?_toArray]; rfl) (fun K hK => ?_) AllReadyH.nil)
      refine step_append_sr (by rfl) _ _ 25 (by rfl) w.heap.size 5 i0 _ 1 1 Tryd.underlying25 hi0 hz0 hz1 hz2 rfl (by decide) _ (2 * k) _ (by rfl) hown3 _ 2 _ (by rfl) hsr (by unfold maxLen; omega) (by omega) hbz ?_
      intro v14 w14 hown14 hg14
      have hB14 := hHeld.1.grown hg14 hbz (fun q hq => (hown3.lt q hq).1)
      have hcc := (hB14.cell (p := ⟨b, off + k, none⟩) hb).trans hclw
      refine hK.out _ _ (⟨hB14, Nat.le_trans hz hg14.size, hcc, trivial⟩) (fun hHeld2 => ?_)
      replace hHeld := hHeld2
      clear hK K hHeld2
      try simp only [Act.put, List.setIfInBounds_toArray, List.set_cons_zero, List.set_cons_succ]
      refine wpAnyH_take (i := 15) (oi := _) (v := ?_) (by rw [List.getElem?_toArray]; rfl) (by kernel_rfl) (by kernel_rfl) (by kernel_rfl) (by exact fun _ _ _ h => h) (Or.inl ⟨by rfl, ?_⟩) (by assumption) ?_
      rotate_left
      · intro w hSw
        try simp only [Cells, blk, List.cons_append, List.nil_append, and_true, Nat.reduceAdd, Nat.add_zero, Nat.zero_add] at hSw
        go_simp
        try with_reducible rfl
      simp only [Act.put, List.setIfInBounds_toArray, List.set_cons_zero, List.set_cons_succ]
      refine wpAnyH_done (by kernel_rfl) ?_ _
      have HREL : Hid (∃ k2 : Nat, Value.int .i64 ((k : Int) + 1) = .int .i64 k2 ∧ k2 ≤ n ∧ Hid (w14.ownsRow w.heap.size 5 1 v14 (2 * k2) (bcells (hexB (bs.take k2)))) ∧ Below w.heap.size w w14) :=
        Lib.hid ⟨k + 1, by simp, hlt, Lib.hid (by rw [HAB.out, show 2 * (k + 1) = 2 * k + 2 by omega]; simpa [bcells] using hown14), hHeld.1⟩
      clear hown14 hg14 hB14 hcc hown3 hsr hown hB hcl hclw r1 r2
      go_wp2
      refine ⟨HREL.out, ?_⟩
      simp [intOf]
      omega
    · have g1 : decide (k < n) = false := by simpa using hlt
      have g1' : decide ((k : Int) < (n : Int)) = false := by simp; omega
      obtain rfl : k = n := by omega
      have hown := hown.out
      rw [List.take_of_length_le (show bs.length ≤ _ by rw [HN.out]; exact Nat.le_refl _)] at hown
      have hby := bytesAt_of_own hown (by rw [hexB_len, HN.out]) (hexB_lt bs HLT.out) (by omega)
      have ca := run_convert_b (P := Tryd.prog) hby 25 5 9 Tryd.underlying25 Tryd.underlying5 Tryd.underlying9
      obtain ⟨a1, n1, rfl⟩ := hby.1.val
      clear hby hown
      go_wp2
      go_ret
      exact ⟨rfl, hB⟩
end Go.Proofs.YtccknpdnapoboaaDoor
