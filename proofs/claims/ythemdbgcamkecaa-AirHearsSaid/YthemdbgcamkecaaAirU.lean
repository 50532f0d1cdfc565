/- air: the walks of AirChecks and AirDisturbs. -/
import Derived.Test.YthemdbgcamkecaaAirT
import Derived.Test.YthemdbgcamkecaaAirH
import Derived.Test.YthemdbgcamkecaaAirM
namespace Go.Proofs.Ythemdbgcamkecaa
open Go.RowKit

theorem AirIn.below {w w' : World} {d : Int} {lv jv sv : Value} {ls : List (Int × Int)} {js : List (Int × Int × Int)} {ss : List (Int × Int)} (h : AirIn w d lv jv sv ls js ss) (hb : Below w.heap.size w w') : AirIn w' d lv jv sv ls js ss :=
  ⟨h.l.below hb, h.j.below hb, h.s.below hb, h.lb, h.jb, h.sb⟩

set_option linter.unusedSimpArgs false in
set_option linter.unusedVariables false in
set_option maxHeartbeats 4000000 in
theorem airChecks_walk (v0 v1 v2 v3 : Value) (w : World) (a0 : Arg Try.prog w 34 v0) (a1 : Arg Try.prog w 35 v1) (a2 : Arg Try.prog w 3 v2) (a3 : Arg Try.prog w 3 v3) :
    Calls Try.prog 4 #[v0, v1, v2, v3] w fun e w' => e = .returned (.bool true) ∧ Below w.heap.size w w' := by
  obtain ⟨d, lv, jv, sv, ls, js, ss, rfl, hair, _⟩ := arg_air a0
  obtain ⟨ts, htx, hbd⟩ := arg_txs a1
  obtain ⟨x, rfl, _⟩ := a2.i64 Try.underlying3
  obtain ⟨y, rfl, _⟩ := a3.i64 Try.underlying3
  have T := cells_new w [.int .i64 d, lv, jv, sv] 34
  have hBW : Below w.heap.size w (w.alloc (.cells #[.int .i64 d, lv, jv, sv] 34)) := (Below.refl _ _).alloc (Nat.le_refl _) _
  have HA := Lib.hid hair
  have HT := Lib.hid htx
  have HB := Lib.hid hbd
  clear hair htx hbd a0 a1 a2 a3
  go_enter Try.func4, Try.ntmps4
  go_wp2_with fail
  generalize hW : w.alloc (.cells _ 34) = W at T hBW ⊢
  clear hW
  refine wp_region_held_drew (S := (fun W' : World => Cells W' (blk w.heap.size 0 0 [.int .i64 d, lv, jv, sv]))) (by kernel_rfl) (T.drew) (fun hHeld => ?_)
  refine wpAnyH_ready (rs := [0]) (by kernel_rfl) (by simp) (AllReadyH.cons (o := _) (by rw [List.getElem?_toArray]; rfl) (fun K hK => ?_) AllReadyH.nil)
  go_simp
  go_at_call 10
  refine (lives_any _).mono ?_
  rintro e w1 ⟨rfl, hB1⟩
  have T1 := Cells.keep (W := W.drew) T.drew hB1
  have hC1 := hBW.drew.trans (hB1.mono hBW.drew.size)
  clear hHeld
  refine hK.out _ _ (T1) (fun hHeld => ?_)
  clear hK K
  try simp only [Act.put, List.setIfInBounds_toArray, List.set_cons_zero, List.set_cons_succ]
  refine wpAnyH_take (i := 1) (oi := _) (v := ?_) (by rw [List.getElem?_toArray]; rfl) (by kernel_rfl) (by kernel_rfl) (by kernel_rfl) (by exact fun _ _ _ h => h) (Or.inl ⟨by rfl, ?_⟩) (by assumption) ?_
  rotate_left
  · intro w hSw
    try simp only [Cells, blk, List.cons_append, List.nil_append, and_true, Nat.reduceAdd, Nat.add_zero, Nat.zero_add] at hSw
    go_simp
    try with_reducible rfl
  simp only [Act.put, List.setIfInBounds_toArray, List.set_cons_zero, List.set_cons_succ]
  refine wpAnyH_take (i := 2) (oi := _) (v := ?_) (by rw [List.getElem?_toArray]; rfl) (by kernel_rfl) (by kernel_rfl) (by kernel_rfl) (by exact fun _ _ _ h => h) (Or.inl ⟨by rfl, ?_⟩) (by assumption) ?_
  rotate_left
  · intro w hSw
    try simp only [Cells, blk, List.cons_append, List.nil_append, and_true, Nat.reduceAdd, Nat.add_zero, Nat.zero_add] at hSw
    go_simp
    try with_reducible rfl
  simp only [Act.put, List.setIfInBounds_toArray, List.set_cons_zero, List.set_cons_succ]
  refine wpAnyH_take (i := 4) (oi := _) (v := ?_) (by rw [List.getElem?_toArray]; rfl) (by kernel_rfl) (by kernel_rfl) (by kernel_rfl) (by exact fun _ _ _ h => h) (Or.inl ⟨by rfl, ?_⟩) (by assumption) ?_
  rotate_left
  · intro w hSw
    try simp only [Cells, blk, List.cons_append, List.nil_append, and_true, Nat.reduceAdd, Nat.add_zero, Nat.zero_add] at hSw
    go_simp
    try with_reducible rfl
  simp only [Act.put, List.setIfInBounds_toArray, List.set_cons_zero, List.set_cons_succ]
  refine wpAnyH_take (i := 7) (oi := _) (v := ?_) (by rw [List.getElem?_toArray]; rfl) (by kernel_rfl) (by kernel_rfl) (by kernel_rfl) (by exact fun _ _ _ h => h) (Or.inl ⟨by rfl, ?_⟩) (by assumption) ?_
  rotate_left
  · intro w hSw
    try simp only [Cells, blk, List.cons_append, List.nil_append, and_true, Nat.reduceAdd, Nat.add_zero, Nat.zero_add] at hSw
    go_simp
    try with_reducible rfl
  simp only [Act.put, List.setIfInBounds_toArray, List.set_cons_zero, List.set_cons_succ]
  refine wpAnyH_take (i := 8) (oi := _) (v := ?_) (by rw [List.getElem?_toArray]; rfl) (by kernel_rfl) (by kernel_rfl) (by kernel_rfl) (by exact fun _ _ _ h => h) (Or.inl ⟨by rfl, ?_⟩) (by assumption) ?_
  rotate_left
  · intro w hSw
    try simp only [Cells, blk, List.cons_append, List.nil_append, and_true, Nat.reduceAdd, Nat.add_zero, Nat.zero_add] at hSw
    go_simp
    try with_reducible rfl
  simp only [Act.put, List.setIfInBounds_toArray, List.set_cons_zero, List.set_cons_succ]
  refine wpAnyH_ready (rs := [3]) (by kernel_rfl) (by simp) (AllReadyH.cons (o := _) (by rw [List.getElem?_toArray]; rfl) (fun K hK => ?_) AllReadyH.nil)
  go_simp
  go_at_call 18
  refine (own_any d lv jv sv ls js ss w1 (HA.out.l.below hC1) (HA.out.j.below hC1) (HA.out.s.below hC1) HA.out.lb HA.out.jb HA.out.sb).mono ?_
  rintro e w2 ⟨lv2, jv2, sv2, rfl, s1, s2, s3, hB2⟩
  have T2 := T1.keep hB2
  have hC2 := hC1.trans (hB2.mono hC1.size)
  clear hHeld
  refine hK.out _ _ (T2) (fun hHeld => ?_)
  clear hK K
  try simp only [Act.put, List.setIfInBounds_toArray, List.set_cons_zero, List.set_cons_succ]
  refine wpAnyH_ready (rs := [5]) (by kernel_rfl) (by simp) (AllReadyH.cons (o := _) (by rw [List.getElem?_toArray]; rfl) (fun K hK => ?_) AllReadyH.nil)
  go_simp
  go_at_call 19
  refine (copy_any v1 ts w2 (HT.out.below hC2) HB.out).mono ?_
  rintro e w3 ⟨tv3, vs3, rfl, hinv, hB3⟩
  have T3 := T2.keep hB3
  have hC3 := hC2.trans (hB3.mono hC2.size)
  clear hHeld
  refine hK.out _ _ (T3) (fun hHeld => ?_)
  clear hK K
  try simp only [Act.put, List.setIfInBounds_toArray, List.set_cons_zero, List.set_cons_succ]
  refine wpAnyH_ready (rs := [6]) (by kernel_rfl) (by simp) (AllReadyH.cons (o := _) (by rw [List.getElem?_toArray]; rfl) (fun K hK => ?_) AllReadyH.nil)
  go_simp
  go_at_call 17
  refine (check_any d lv2 jv2 sv2 tv3 ls js ss ts w3 (s1.1.below hB3) (s2.1.below hB3) (s3.1.below hB3) hinv.txs).mono ?_
  rintro e w4 ⟨rfl, hB4⟩
  have T4 := T3.keep hB4
  have hC4 := hC3.trans (hB4.mono hC3.size)
  obtain ⟨E, hE⟩ : ∃ E, checkE d ls js ss ts = E := ⟨_, rfl⟩
  rw [hE]
  have HE := Lib.hid hE
  clear hE
  clear hHeld
  refine hK.out _ _ (T4) (fun hHeld => ?_)
  clear hK K
  try simp only [Act.put, List.setIfInBounds_toArray, List.set_cons_zero, List.set_cons_succ]
  refine wpAnyH_ready (rs := [9]) (by kernel_rfl) (by simp) (AllReadyH.cons (o := _) (by rw [List.getElem?_toArray]; rfl) (fun K hK => ?_) AllReadyH.nil)
  go_simp
  go_at_call 20
  refine (rcheck_any d lv jv sv v1 ls js ss ts w4 (HA.out.l.below hC4) (HA.out.j.below hC4) (HA.out.s.below hC4) (HT.out.below hC4)).mono ?_
  rintro e w5 ⟨rfl, hB5⟩
  have T5 := T4.keep hB5
  have hC5 := hC4.trans (hB5.mono hC4.size)
  rw [HE.out]
  clear hHeld
  refine hK.out _ _ (T5) (fun hHeld => ?_)
  clear hK K
  try simp only [Act.put, List.setIfInBounds_toArray, List.set_cons_zero, List.set_cons_succ]
  refine wpAnyH_take (i := 10) (oi := _) (v := ?_) (by rw [List.getElem?_toArray]; rfl) (by kernel_rfl) (by kernel_rfl) (by kernel_rfl) (by exact fun _ _ _ h => h) (Or.inl ⟨by rfl, ?_⟩) (by assumption) ?_
  rotate_left
  · intro w hSw
    try simp only [Cells, blk, List.cons_append, List.nil_append, and_true, Nat.reduceAdd, Nat.add_zero, Nat.zero_add] at hSw
    go_simp
    try with_reducible rfl
  simp only [Act.put, List.setIfInBounds_toArray, List.set_cons_zero, List.set_cons_succ]
  refine wpAnyH_take (i := 11) (oi := _) (v := ?_) (by rw [List.getElem?_toArray]; rfl) (by kernel_rfl) (by kernel_rfl) (by kernel_rfl) (by exact fun _ _ _ h => h) (Or.inl ⟨by rfl, ?_⟩) (by assumption) ?_
  rotate_left
  · intro w hSw
    try simp only [Cells, blk, List.cons_append, List.nil_append, and_true, Nat.reduceAdd, Nat.add_zero, Nat.zero_add] at hSw
    go_simp
    try with_reducible rfl
  simp only [Act.put, List.setIfInBounds_toArray, List.set_cons_zero, List.set_cons_succ]
  refine wpAnyH_take (i := 12) (oi := _) (v := ?_) (by rw [List.getElem?_toArray]; rfl) (by kernel_rfl) (by kernel_rfl) (by kernel_rfl) (by exact fun _ _ _ h => h) (Or.inl ⟨by rfl, ?_⟩) (by assumption) ?_
  rotate_left
  · intro w hSw
    try simp only [Cells, blk, List.cons_append, List.nil_append, and_true, Nat.reduceAdd, Nat.add_zero, Nat.zero_add] at hSw
    go_simp
    try with_reducible rfl
  simp only [Act.put, List.setIfInBounds_toArray, List.set_cons_zero, List.set_cons_succ]
  refine wpAnyH_take (i := 13) (oi := _) (v := ?_) (by rw [List.getElem?_toArray]; rfl) (by kernel_rfl) (by kernel_rfl) (by kernel_rfl) (by exact fun _ _ _ h => h) (Or.inl ⟨by rfl, ?_⟩) (by assumption) ?_
  rotate_left
  · intro w hSw
    try simp only [Cells, blk, List.cons_append, List.nil_append, and_true, Nat.reduceAdd, Nat.add_zero, Nat.zero_add] at hSw
    go_simp
    try with_reducible rfl
  simp only [Act.put, List.setIfInBounds_toArray, List.set_cons_zero, List.set_cons_succ]
  refine wpAnyH_take (i := 15) (oi := _) (v := ?_) (by rw [List.getElem?_toArray]; rfl) (by kernel_rfl) (by kernel_rfl) (by kernel_rfl) (by exact fun _ _ _ h => h) (Or.inl ⟨by rfl, ?_⟩) (by assumption) ?_
  rotate_left
  · intro w hSw
    try simp only [Cells, blk, List.cons_append, List.nil_append, and_true, Nat.reduceAdd, Nat.add_zero, Nat.zero_add] at hSw
    go_simp
    try with_reducible rfl
  simp only [Act.put, List.setIfInBounds_toArray, List.set_cons_zero, List.set_cons_succ]
  refine wpAnyH_take (i := 16) (oi := _) (v := ?_) (by rw [List.getElem?_toArray]; rfl) (by kernel_rfl) (by kernel_rfl) (by kernel_rfl) (by exact fun _ _ _ h => h) (Or.inl ⟨by rfl, ?_⟩) (by assumption) ?_
  rotate_left
  · intro w hSw
    try simp only [Cells, blk, List.cons_append, List.nil_append, and_true, Nat.reduceAdd, Nat.add_zero, Nat.zero_add] at hSw
    go_simp
    try with_reducible rfl
  simp only [Act.put, List.setIfInBounds_toArray, List.set_cons_zero, List.set_cons_succ]
  refine wpAnyH_take (i := 18) (oi := _) (v := ?_) (by rw [List.getElem?_toArray]; rfl) (by kernel_rfl) (by kernel_rfl) (by kernel_rfl) (by exact fun _ _ _ h => h) (Or.inl ⟨by rfl, ?_⟩) (by assumption) ?_
  rotate_left
  · intro w hSw
    try simp only [Cells, blk, List.cons_append, List.nil_append, and_true, Nat.reduceAdd, Nat.add_zero, Nat.zero_add] at hSw
    go_simp
    try with_reducible rfl
  simp only [Act.put, List.setIfInBounds_toArray, List.set_cons_zero, List.set_cons_succ]
  refine wpAnyH_take (i := 19) (oi := _) (v := ?_) (by rw [List.getElem?_toArray]; rfl) (by kernel_rfl) (by kernel_rfl) (by kernel_rfl) (by exact fun _ _ _ h => h) (Or.inl ⟨by rfl, ?_⟩) (by assumption) ?_
  rotate_left
  · intro w hSw
    try simp only [Cells, blk, List.cons_append, List.nil_append, and_true, Nat.reduceAdd, Nat.add_zero, Nat.zero_add] at hSw
    go_simp
    try with_reducible rfl
  simp only [Act.put, List.setIfInBounds_toArray, List.set_cons_zero, List.set_cons_succ]
  refine wpAnyH_take (i := 20) (oi := _) (v := ?_) (by rw [List.getElem?_toArray]; rfl) (by kernel_rfl) (by kernel_rfl) (by kernel_rfl) (by exact fun _ _ _ h => h) (Or.inl ⟨by rfl, ?_⟩) (by assumption) ?_
  rotate_left
  · intro w hSw
    try simp only [Cells, blk, List.cons_append, List.nil_append, and_true, Nat.reduceAdd, Nat.add_zero, Nat.zero_add] at hSw
    go_simp
    try with_reducible rfl
  simp only [Act.put, List.setIfInBounds_toArray, List.set_cons_zero, List.set_cons_succ]
  refine wpAnyH_ready (rs := [14]) (by kernel_rfl) (by simp) (AllReadyH.cons (o := _) (by rw [List.getElem?_toArray]; rfl) (fun K hK => ?_) AllReadyH.nil)
  go_simp
  go_at_call 18
  refine (own_any d lv jv sv ls js ss w5 (HA.out.l.below hC5) (HA.out.j.below hC5) (HA.out.s.below hC5) HA.out.lb HA.out.jb HA.out.sb).mono ?_
  rintro e w6 ⟨lv6, jv6, sv6, rfl, r1, r2, r3, hB6⟩
  have T6 := T5.keep hB6
  have hC6 := hC5.trans (hB6.mono hC5.size)
  clear hHeld
  refine hK.out _ _ (T6) (fun hHeld => ?_)
  clear hK K
  try simp only [Act.put, List.setIfInBounds_toArray, List.set_cons_zero, List.set_cons_succ]
  refine wpAnyH_ready (rs := [17]) (by kernel_rfl) (by simp) (AllReadyH.cons (o := _) (by rw [List.getElem?_toArray]; rfl) (fun K hK => ?_) AllReadyH.nil)
  go_simp
  go_at_call 21
  refine (range_any d lv6 jv6 sv6 ls x y w6 r1.1).mono ?_
  rintro e w7 ⟨rfl, hB7⟩
  have T7 := T6.keep hB7
  have hC7 := hC6.trans (hB7.mono hC6.size)
  obtain ⟨R, hR⟩ : ∃ R, rngB ls x y = R := ⟨_, rfl⟩
  rw [hR]
  have HR := Lib.hid hR
  clear hR
  clear hHeld
  refine hK.out _ _ (T7) (fun hHeld => ?_)
  clear hK K
  try simp only [Act.put, List.setIfInBounds_toArray, List.set_cons_zero, List.set_cons_succ]
  refine wpAnyH_ready (rs := [21]) (by kernel_rfl) (by simp) (AllReadyH.cons (o := _) (by rw [List.getElem?_toArray]; rfl) (fun K hK => ?_) AllReadyH.nil)
  go_simp
  go_at_call 22
  refine (rrange_any d lv jv sv ls x y w7 (HA.out.l.below hC7)).mono ?_
  rintro e w8 ⟨rfl, hB8⟩
  have T8 := T7.keep hB8
  have hC8 := hC7.trans (hB8.mono hC7.size)
  rw [HR.out]
  clear hHeld
  refine hK.out _ _ (T8) (fun hHeld => ?_)
  clear hK K
  try simp only [Act.put, List.setIfInBounds_toArray, List.set_cons_zero, List.set_cons_succ]
  refine wpAnyH_take (i := 22) (oi := _) (v := ?_) (by rw [List.getElem?_toArray]; rfl) (by kernel_rfl) (by kernel_rfl) (by kernel_rfl) (by exact fun _ _ _ h => h) (Or.inl ⟨by rfl, ?_⟩) (by assumption) ?_
  rotate_left
  · intro w hSw
    try simp only [Cells, blk, List.cons_append, List.nil_append, and_true, Nat.reduceAdd, Nat.add_zero, Nat.zero_add] at hSw
    go_simp
    try with_reducible rfl
  simp only [Act.put, List.setIfInBounds_toArray, List.set_cons_zero, List.set_cons_succ]
  refine wpAnyH_take (i := 23) (oi := _) (v := ?_) (by rw [List.getElem?_toArray]; rfl) (by kernel_rfl) (by kernel_rfl) (by kernel_rfl) (by exact fun _ _ _ h => h) (Or.inl ⟨by rfl, ?_⟩) (by assumption) ?_
  rotate_left
  · intro w hSw
    try simp only [Cells, blk, List.cons_append, List.nil_append, and_true, Nat.reduceAdd, Nat.add_zero, Nat.zero_add] at hSw
    go_simp
    try with_reducible rfl
  simp only [Act.put, List.setIfInBounds_toArray, List.set_cons_zero, List.set_cons_succ]
  refine wpAnyH_take (i := 24) (oi := _) (v := ?_) (by rw [List.getElem?_toArray]; rfl) (by kernel_rfl) (by kernel_rfl) (by kernel_rfl) (by exact fun _ _ _ h => h) (Or.inl ⟨by rfl, ?_⟩) (by assumption) ?_
  rotate_left
  · intro w hSw
    try simp only [Cells, blk, List.cons_append, List.nil_append, and_true, Nat.reduceAdd, Nat.add_zero, Nat.zero_add] at hSw
    go_simp
    try with_reducible rfl
  simp only [Act.put, List.setIfInBounds_toArray, List.set_cons_zero, List.set_cons_succ]
  refine wpAnyH_done (by kernel_rfl) ?_ _
  go_wp2
  go_ret
  exact ⟨ret_bool (by simp), hC8⟩

theorem firstE_zero (f : Nat → Int) : ∀ n, firstE f n = 0 → ∀ k, k < n → f k = 0
  | 0, _, k, hk => by omega
  | n+1, h, k, hk => by
    unfold firstE at h
    split at h
    · next h0 =>
      by_cases e : k = n
      · rw [e]; exact h
      · exact firstE_zero f n h0 k (by omega)
    · next h0 => exact absurd h h0
/-- what Check grants -/
theorem check_fits {d : Int} {ls : List (Int × Int)} {js : List (Int × Int × Int)} {ss : List (Int × Int)} {ts : List Tr} (h : checkE d ls js ss ts = 0) : (0 ≤ d ∧ d ≤ 8) ∧ (∀ x ∈ ts, Fits x) ∧ (∀ k (h : k < ts.length), 0 < k → (ts[k - 1]'(by omega)).id < ts[k].id) := by
  unfold checkE at h
  by_cases hd : d < 0 ∨ 8 < d
  · rw [if_pos hd] at h; cases h
  rw [if_neg hd] at h
  split at h
  · cases h
  simp only [orL] at h
  have h2 : firstE (sentV d ts) ts.length = 0 := by
    split at h
    · split at h
      · next q => exact q
      · next q => exact absurd h q
    · next q => exact absurd h q
  have hz := firstE_zero _ _ h2
  have key : ∀ k (hk : k < ts.length), (¬ (0 < k ∧ ts[k].id ≤ (ts.getD (k - 1) default).id)) ∧ sentB d ts[k] = false ∧ ts[k].bs.length ≤ 260 := fun k hk => by
    have q := hz k hk
    unfold sentV at q
    rw [getD_at ts k _ hk] at q
    split at q
    · cases q
    next q1 =>
    split at q
    · cases q
    next q2 =>
    split at q
    · cases q
    next q3 => exact ⟨q1, by simpa using q2, by omega⟩
  refine ⟨by omega, fun x hx => ?_, fun k hk h0 => ?_⟩
  · obtain ⟨k, hk, rfl⟩ := List.getElem_of_mem hx
    obtain ⟨_, q2, q3⟩ := key k hk
    unfold sentB at q2
    simp only [Bool.or_eq_false_iff, decide_eq_false_iff_not] at q2
    exact ⟨by omega, by omega, q3⟩
  · have q := (key k hk).1
    rw [getD_at ts (k - 1) _ (by omega)] at q
    omega
end Go.Proofs.Ythemdbgcamkecaa
