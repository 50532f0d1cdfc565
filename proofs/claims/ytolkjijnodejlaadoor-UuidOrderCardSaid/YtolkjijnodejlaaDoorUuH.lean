/- uuid: Compare. -/
import Derived.Test.YtolkjijnodejlaaDoorUuA
namespace Go.Proofs.YtolkjijnodejlaaDoor
open Go.RowKit

def orL : List Int → Int
  | [] => 0
  | x :: l => if x = 0 then orL l else x
theorem orL_take (l : List Int) (k : Nat) (h : k < l.length) (h0 : ∀ x ∈ l.take k, x = 0) (hk : l[k] ≠ 0) : orL l = l[k] := by
  induction l generalizing k with
  | nil => simp at h
  | cons x l ih =>
    cases k with
    | zero => simp at hk; simp [orL, hk]
    | succ k =>
      have hx : x = 0 := h0 x (by simp)
      simp only [orL, hx, if_true, List.getElem_cons_succ]
      exact ih k (by simpa using h) (fun y hy => h0 y (by simp [hy])) (by simpa using hk)
theorem orL_zero (l : List Int) (h : ∀ x ∈ l, x = 0) : orL l = 0 := by
  induction l with
  | nil => rfl
  | cons x l ih => simp only [orL, h x (by simp), if_true]; exact ih fun y hy => h y (by simp [hy])
theorem or_any (b c : Nat) (xs : List Int) (n : Nat) (hn : xs.length = n) (hm : n ≤ 1000) (w : World) (hc : ∀ j (h : j < xs.length), w.cell? ⟨b, j, none⟩ = some (.int .i64 xs[j])) :
    Calls Tryd.prog 35 #[.slice (some ⟨b, 0, none⟩) n c] w fun e w' => e = .returned (.int .i64 (orL xs)) ∧ w = w' := by
  have HN := Lib.hid hn
  have HC := Lib.hid hc
  clear hn hc
  go_enter Tryd.func35, Tryd.ntmps35
  go_wp2
  go_loop [8, 5] (fun i _ => ∃ k : Nat, k ≤ n ∧ i = .int .i64 k ∧ Hid (∀ x ∈ xs.take k, x = 0)) (fun i _ => n - (intOf i).toNat)
  case atStart => exact ⟨0, by omega, rfl, by intro x hx; simp at hx⟩
  case round =>
    obtain ⟨k, hk, rfl, hall⟩ := hrel
    by_cases hlt : k < n
    · have hkl : k < xs.length := by rw [HN.out]; exact hlt
      have d := HC.out k hkl
      have ts := List.take_succ_eq_append_getElem hkl
      have ho := orL_take xs k hkl hall.out
      obtain ⟨x, he⟩ : ∃ t, xs[k] = t := ⟨_, rfl⟩
      rw [he] at d ts ho
      have TS := Lib.hid ts
      have HO := Lib.hid ho
      clear ts he ho
      by_cases hz : x = 0
      · subst hz
        go_wp2
        go_round
        case rel =>
          refine ⟨k + 1, by omega, by go_num, ?_⟩
          intro t ht
          rw [TS.out] at ht
          rcases List.mem_append.1 ht with h1 | h1
          · exact hall.out t h1
          · exact List.mem_singleton.1 h1
        case measure => simp [intOf]; omega
      · have hf : (x == 0) = false := by simpa using hz
        have HO2 := Lib.hid (HO.out hz)
        clear hz
        go_wp2
        go_ret
        exact ⟨ret_eq HO2.out.symm, rfl⟩
    · have e : xs.take k = xs := List.take_of_length_le (by rw [HN.out]; omega)
      have ha := hall.out
      rw [e] at ha
      have HA := Lib.hid (orL_zero xs ha)
      clear ha e
      go_wp2
      go_ret
      exact ⟨ret_eq HA.out.symm, rfl⟩
theorem isnan_u64 (x : Int) (w : World) : Calls Tryd.prog 42 #[.int .u64 x] w fun e w' => e = .returned (.bool false) ∧ w = w' := by
  go_enter Tryd.func42, Tryd.ntmps42
  go_wp2
  go_ret
  exact ⟨ret_bool (by simp), rfl⟩
def cmpU (a b : Int) : Int := if a < b then -1 else if b < a then 1 else 0
theorem cmpU_cases (a b : Int) : (a < b ∧ cmpU a b = -1) ∨ (b < a ∧ cmpU a b = 1) ∨ (a = b ∧ cmpU a b = 0) := by
  unfold cmpU
  by_cases h : a < b
  · exact .inl ⟨h, by rw [if_pos h]⟩
  · by_cases h2 : b < a
    · exact .inr (.inl ⟨h2, by rw [if_neg h, if_pos h2]⟩)
    · exact .inr (.inr ⟨by omega, by rw [if_neg h, if_neg h2]⟩)
theorem cmp_u64 (a b : Int) (w : World) : Calls Tryd.prog 36 #[.int .u64 a, .int .u64 b] w fun e w' => e = .returned (.int .i64 (cmpU a b)) ∧ w = w' := by
  rcases cmpU_cases a b with ⟨h, e⟩ | ⟨h, e⟩ | ⟨rfl, e⟩
  all_goals
    rw [e]
    clear e
    go_enter Tryd.func36, Tryd.ntmps36
    go_wp2_with (go_at_call 42; refine (isnan_u64 _ _).mono ?_; rintro e w' ⟨rfl, rfl⟩)
    go_ret
    exact ⟨rfl, rfl⟩
/-- -1, 0 or 1, by the numbers -/
def cmpN (ah al bh bl : Int) : Int := if ah < bh then -1 else if bh < ah then 1 else if al < bl then -1 else if bl < al then 1 else 0
theorem cmpN_or (ah al bh bl : Int) : orL [cmpU ah bh, cmpU al bl] = cmpN ah al bh bl := by
  unfold cmpN cmpU
  by_cases h1 : ah < bh
  · simp [orL, h1]
  · by_cases h2 : bh < ah
    · simp [orL, h1, h2]
    · by_cases h3 : al < bl
      · simp [orL, h1, h2, h3]
      · by_cases h4 : bl < al <;> simp [orL, h1, h2, h3, h4]
set_option linter.unusedSimpArgs false in
set_option linter.unusedVariables false in
set_option maxRecDepth 100000 in
set_option maxHeartbeats 2000000 in
theorem compare_any (ah al bh bl : Int) (w : World) : Calls Tryd.prog 23 #[.agg #[.int .u64 ah, .int .u64 al], .agg #[.int .u64 bh, .int .u64 bl]] w fun e w' => e = .returned (.int .i64 (cmpN ah al bh bl)) ∧ Below w.heap.size w w' := by
  have T0 := cells_new w [.int .u64 ah, .int .u64 al] 25
  have T1 := cells_new (w.alloc (.cells #[.int .u64 ah, .int .u64 al] 25)) [.int .u64 bh, .int .u64 bl] 25
  have T := (T0.keep ((Below.refl _ _).alloc (Nat.le_refl _) _)).app T1
  simp only [World.size_alloc] at T
  have hB : Below w.heap.size w ((w.alloc (.cells #[.int .u64 ah, .int .u64 al] 25)).alloc (.cells #[.int .u64 bh, .int .u64 bl] 25)) := ((Below.refl _ _).alloc (Nat.le_refl _) _).alloc (by simp) _
  have hor := Lib.hid (cmpN_or ah al bh bl)
  clear T0 T1
  go_enter Tryd.func23, Tryd.ntmps23
  go_upto_region 1 with fail
  generalize hX : World.alloc _ _ = X at T hB ⊢
  clear hX
  refine wp_region_held_drew (S := (fun W' : World => Below w.heap.size w W' ∧ w.heap.size ≤ W'.heap.size ∧ Cells W' (blk w.heap.size 0 0 [.int .u64 ah, .int .u64 al] ++ blk (w.heap.size + 1) 0 0 [.int .u64 bh, .int .u64 bl]))) (by kernel_rfl) (⟨hB.drew, hB.drew.size, T.drew⟩) (fun hHeld => ?_)
  generalize World.drew _ = wd at hHeld ⊢
  have hz := hHeld.2.1
  refine wpAnyH_take (i := 0) (oi := _) (v := ?_) (by rw [List.getElem?_toArray]; rfl) (by kernel_rfl) (by kernel_rfl) (by kernel_rfl) (by exact fun _ _ _ h => h) (Or.inl ⟨by rfl, ?_⟩) (by assumption) ?_
  rotate_left
  · intro w hSw
    try simp only [Cells, blk, List.cons_append, List.nil_append, and_true, Nat.reduceAdd, Nat.add_zero, Nat.zero_add] at hSw
    go_simp
    try with_reducible rfl
  simp only [Act.put, List.setIfInBounds_toArray, List.set_cons_zero, List.set_cons_succ]
  refine wpAnyH_take (i := 1) (oi := _) (v := ?_) (by rw [List.getElem?_toArray]; rfl) (by kernel_rfl) (by kernel_rfl) (by kernel_rfl) (by exact fun _ _ _ h => h) (Or.inl ⟨by rfl, ?_⟩) (by assumption) ?_
  rotate_left
  · intro w hSw
    try simp only [Cells, blk, List.cons_append, List.nil_append, and_true, Nat.reduceAdd, Nat.add_zero, Nat.zero_add] at hSw
    go_simp
    try with_reducible rfl
  simp only [Act.put, List.setIfInBounds_toArray, List.set_cons_zero, List.set_cons_succ]
  refine wpAnyH_take (i := 2) (oi := _) (v := ?_) (by rw [List.getElem?_toArray]; rfl) (by kernel_rfl) (by kernel_rfl) (by kernel_rfl) (by exact fun _ _ _ h => h) (Or.inl ⟨by rfl, ?_⟩) (by assumption) ?_
  rotate_left
  · intro w hSw
    try simp only [Cells, blk, List.cons_append, List.nil_append, and_true, Nat.reduceAdd, Nat.add_zero, Nat.zero_add] at hSw
    go_simp
    try with_reducible rfl
  simp only [Act.put, List.setIfInBounds_toArray, List.set_cons_zero, List.set_cons_succ]
  refine wpAnyH_take (i := 3) (oi := _) (v := ?_) (by rw [List.getElem?_toArray]; rfl) (by kernel_rfl) (by kernel_rfl) (by kernel_rfl) (by exact fun _ _ _ h => h) (Or.inl ⟨by rfl, ?_⟩) (by assumption) ?_
  rotate_left
  · intro w hSw
    try simp only [Cells, blk, List.cons_append, List.nil_append, and_true, Nat.reduceAdd, Nat.add_zero, Nat.zero_add] at hSw
    go_simp
    try with_reducible rfl
  simp only [Act.put, List.setIfInBounds_toArray, List.set_cons_zero, List.set_cons_succ]
  refine wpAnyH_take (i := 5) (oi := _) (v := ?_) (by rw [List.getElem?_toArray]; rfl) (by kernel_rfl) (by kernel_rfl) (by kernel_rfl) (by exact fun _ _ _ h => h) (Or.inl ⟨by rfl, ?_⟩) (by assumption) ?_
  rotate_left
  · intro w hSw
    try simp only [Cells, blk, List.cons_append, List.nil_append, and_true, Nat.reduceAdd, Nat.add_zero, Nat.zero_add] at hSw
    go_simp
    try with_reducible rfl
  simp only [Act.put, List.setIfInBounds_toArray, List.set_cons_zero, List.set_cons_succ]
  refine wpAnyH_take (i := 6) (oi := _) (v := ?_) (by rw [List.getElem?_toArray]; rfl) (by kernel_rfl) (by kernel_rfl) (by kernel_rfl) (by exact fun _ _ _ h => h) (Or.inl ⟨by rfl, ?_⟩) (by assumption) ?_
  rotate_left
  · intro w hSw
    try simp only [Cells, blk, List.cons_append, List.nil_append, and_true, Nat.reduceAdd, Nat.add_zero, Nat.zero_add] at hSw
    go_simp
    try with_reducible rfl
  simp only [Act.put, List.setIfInBounds_toArray, List.set_cons_zero, List.set_cons_succ]
  refine wpAnyH_take (i := 7) (oi := _) (v := ?_) (by rw [List.getElem?_toArray]; rfl) (by kernel_rfl) (by kernel_rfl) (by kernel_rfl) (by exact fun _ _ _ h => h) (Or.inl ⟨by rfl, ?_⟩) (by assumption) ?_
  rotate_left
  · intro w hSw
    try simp only [Cells, blk, List.cons_append, List.nil_append, and_true, Nat.reduceAdd, Nat.add_zero, Nat.zero_add] at hSw
    go_simp
    try with_reducible rfl
  simp only [Act.put, List.setIfInBounds_toArray, List.set_cons_zero, List.set_cons_succ]
  refine wpAnyH_take (i := 8) (oi := _) (v := ?_) (by rw [List.getElem?_toArray]; rfl) (by kernel_rfl) (by kernel_rfl) (by kernel_rfl) (by exact fun _ _ _ h => h) (Or.inl ⟨by rfl, ?_⟩) (by assumption) ?_
  rotate_left
  · intro w hSw
    try simp only [Cells, blk, List.cons_append, List.nil_append, and_true, Nat.reduceAdd, Nat.add_zero, Nat.zero_add] at hSw
    go_simp
    try with_reducible rfl
  simp only [Act.put, List.setIfInBounds_toArray, List.set_cons_zero, List.set_cons_succ]
  refine wpAnyH_ready (rs := [4]) (by kernel_rfl) (by simp) (AllReadyH.cons (o := _) (by rw [List.getElem?_toArray]; rfl) (fun K hK => ?_) AllReadyH.nil)
  go_simp
  go_at_call 36
  refine (cmp_u64 _ _ _).mono ?_
  rintro e wb ⟨rfl, rfl⟩
  refine hK.out _ _ (hHeld) (fun hHeld2 => ?_)
  replace hHeld := hHeld2
  clear hK K hHeld2
  try simp only [Act.put, List.setIfInBounds_toArray, List.set_cons_zero, List.set_cons_succ]
  refine wpAnyH_ready (rs := [9]) (by kernel_rfl) (by simp) (AllReadyH.cons (o := _) (by rw [List.getElem?_toArray]; rfl) (fun K hK => ?_) AllReadyH.nil)
  go_simp
  go_at_call 36
  refine (cmp_u64 _ _ _).mono ?_
  rintro e wb ⟨rfl, rfl⟩
  refine hK.out _ _ (hHeld) (fun hHeld2 => ?_)
  replace hHeld := hHeld2
  clear hK K hHeld2
  try simp only [Act.put, List.setIfInBounds_toArray, List.set_cons_zero, List.set_cons_succ]
  refine wpAnyH_ready (rs := [10]) (by kernel_rfl) (by simp) (AllReadyH.cons (o := _) (by rw [List.getElem?_toArray]; rfl) (fun K hK => ?_) AllReadyH.nil)
  go_simp
  generalize hX : World.alloc _ _ = X2
  have bA : Blk X2 wd.heap.size 3 [.int .i64 (cmpU ah bh), .int .i64 (cmpU al bl)] := by rw [← hX]; exact Blk.new _ _ _
  have hBX := (Below.refl wd.heap.size wd).alloc (Nat.le_refl _) (.cells #[.int .i64 (cmpU ah bh), .int .i64 (cmpU al bl)] 3)
  rw [hX] at hBX
  clear hX
  refine hK.out _ _ (⟨hHeld.1.trans (hBX.mono hHeld.2.1), Nat.le_trans hHeld.2.1 hBX.size, hHeld.2.2.keep hBX⟩) (fun hHeld2 => ?_)
  replace hHeld := hHeld2
  clear hK K hHeld2
  try simp only [Act.put, List.setIfInBounds_toArray, List.set_cons_zero, List.set_cons_succ]
  refine wpAnyH_ready (rs := [11]) (by kernel_rfl) (by simp) (AllReadyH.cons (o := _) (by rw [List.getElem?_toArray]; rfl) (fun K hK => ?_) AllReadyH.nil)
  go_simp
  go_at_call 35
  refine (or_any _ _ [cmpU ah bh, cmpU al bl] _ rfl (by simp) _ (fun j hj => ?_)).mono ?_
  · match j, hj with
    | 0, _ => exact bA.cell rfl
    | 1, _ => exact bA.cell rfl
  rintro e wb ⟨rfl, rfl⟩
  refine hK.out _ _ (hHeld) (fun hHeld2 => ?_)
  replace hHeld := hHeld2
  clear hK K hHeld2
  try simp only [Act.put, List.setIfInBounds_toArray, List.set_cons_zero, List.set_cons_succ]
  refine wpAnyH_take (i := 12) (oi := _) (v := ?_) (by rw [List.getElem?_toArray]; rfl) (by kernel_rfl) (by kernel_rfl) (by kernel_rfl) (by exact fun _ _ _ h => h) (Or.inl ⟨by rfl, ?_⟩) (by assumption) ?_
  rotate_left
  · intro w hSw
    try simp only [Cells, blk, List.cons_append, List.nil_append, and_true, Nat.reduceAdd, Nat.add_zero, Nat.zero_add] at hSw
    go_simp
    try with_reducible rfl
  simp only [Act.put, List.setIfInBounds_toArray, List.set_cons_zero, List.set_cons_succ]
  refine wpAnyH_done (by kernel_rfl) ?_ _
  go_wp2
  go_ret
  exact ⟨ret_eq hor.out, hHeld.1⟩
set_option linter.unusedSimpArgs false in
set_option linter.unusedVariables false in
set_option maxRecDepth 100000 in
set_option maxHeartbeats 2000000 in
theorem rcompare_any (ah al bh bl : Int) (w : World) : Calls Tryd.prog 24 #[.agg #[.int .u64 ah, .int .u64 al], .agg #[.int .u64 bh, .int .u64 bl]] w fun e w' => e = .returned (.int .i64 (cmpN ah al bh bl)) ∧ Below w.heap.size w w' := by
  have hB : Below w.heap.size w ((w.alloc (.cells #[.int .u64 ah, .int .u64 al] 25)).alloc (.cells #[.int .u64 bh, .int .u64 bl] 25)) := ((Below.refl _ _).alloc (Nat.le_refl _) _).alloc (by simp) _
  have hcase : (ah < bh ∧ cmpN ah al bh bl = -1) ∨ (bh < ah ∧ cmpN ah al bh bl = 1) ∨ (ah = bh ∧ al < bl ∧ cmpN ah al bh bl = -1) ∨ (ah = bh ∧ bl < al ∧ cmpN ah al bh bl = 1) ∨ (ah = bh ∧ al = bl ∧ cmpN ah al bh bl = 0) := by
    unfold cmpN
    rcases Int.lt_trichotomy ah bh with h | h | h
    · exact .inl ⟨h, by simp [h]⟩
    · subst h
      rcases Int.lt_trichotomy al bl with h | h | h
      · exact .inr (.inr (.inl ⟨rfl, h, by simp [h]⟩))
      · exact .inr (.inr (.inr (.inr ⟨rfl, h, by simp [h]⟩)))
      · exact .inr (.inr (.inr (.inl ⟨rfl, h, by simp [h, Int.not_lt.2 (Int.le_of_lt h)]⟩)))
    · exact .inr (.inl ⟨h, by simp [h, Int.not_lt.2 (Int.le_of_lt h)]⟩)
  rcases hcase with ⟨h, e⟩ | ⟨h, e⟩ | ⟨rfl, h, e⟩ | ⟨rfl, h, e⟩ | ⟨rfl, rfl, e⟩
  · rw [e]
    clear e
    have f1 : (ah == bh) = false := by simp; omega
    have f2 : decide (ah < bh) = true := by simpa using h
    go_enter Tryd.func24, Tryd.ntmps24
    go_wp2
    go_ret
    exact ⟨rfl, hB⟩
  · rw [e]
    clear e
    have f1 : (ah == bh) = false := by simp; omega
    have f2 : decide (ah < bh) = false := by simp; omega
    go_enter Tryd.func24, Tryd.ntmps24
    go_wp2
    go_ret
    exact ⟨rfl, hB⟩
  · rw [e]
    clear e
    have f1 : (al == bl) = false := by simp; omega
    have f2 : decide (ah < ah) = false := by simp
    have f3 : decide (al < bl) = true := by simpa using h
    go_enter Tryd.func24, Tryd.ntmps24
    go_wp2
    go_ret
    exact ⟨rfl, hB⟩
  · rw [e]
    clear e
    have f1 : (al == bl) = false := by simp; omega
    have f2 : decide (ah < ah) = false := by simp
    have f3 : decide (al < bl) = false := by simp; omega
    go_enter Tryd.func24, Tryd.ntmps24
    go_wp2
    go_ret
    exact ⟨rfl, hB⟩
  · rw [e]
    clear e
    go_enter Tryd.func24, Tryd.ntmps24
    go_wp2
    go_ret
    exact ⟨rfl, hB⟩
end Go.Proofs.YtolkjijnodejlaaDoor
