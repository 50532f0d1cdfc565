/- Walks of air: Disturbed. -/
import Derived.Test.YthemdbgcamkecaaAirJ
namespace Go.Proofs.Ythemdbgcamkecaa
open Go.RowKit

/-- what happens to a transmission -/
def distE (ls : List (Int × Int)) (js : List (Int × Int × Int)) (ss : List (Int × Int)) (ts : List Tr) (i to : Int) : Int :=
  if i < 0 ∨ (ts.length : Int) ≤ i then 0 else
  if rngB ls (ts.getD i.toNat default).fr to = false then 0 else
  if ss.contains ((ts.getD i.toNat default).id, to) then 2 else
  if js.any (hitJ (ts.getD i.toNat default).ch (ts.getD i.toNat default).st (endI (ts.getD i.toNat default).st (ts.getD i.toNat default).bs.length)) then 3 else
  if (List.range ts.length).any (colI ls to i (ts.getD i.toNat default) ts) then 4 else 1
theorem Cells.drewN {W : World} {l : List (Nat × Nat × Value)} (m : Nat) (h : Cells W l) : Cells (W.drewN m) l := h.keep (below_drewN (Below.refl _ _) m)
theorem overB_symm (ca cb sa sb ea eb : Int) : overB ca cb sa sb ea eb = overB cb ca sb sa eb ea := by
  unfold overB togB
  rw [Bool.and_comm (decide (sa < eb))]
  by_cases h : ca = cb
  · simp [h]
  · have h' : ¬ cb = ca := fun e => h e.symm
    simp [h, h']

theorem Cells.right {W : World} : ∀ {l l' : List (Nat × Nat × Value)}, Cells W (l ++ l') → Cells W l'
  | [], _, h => h
  | (_, _, _) :: _, _, h => Cells.right h.2
theorem any_range_succ (p : Nat → Bool) (k : Nat) : (List.range (k + 1)).any p = ((List.range k).any p || p k) := by
  rw [List.range_succ, List.any_append]; simp
theorem any_range_true (p : Nat → Bool) (k n : Nat) (h : k < n) (hp : p k = true) : (List.range n).any p = true := List.any_eq_true.2 ⟨k, by simpa using h, hp⟩

set_option maxHeartbeats 2000000 in
theorem dist_any (d : Int) (lv jv sv tv : Value) (ls : List (Int × Int)) (js : List (Int × Int × Int)) (ss : List (Int × Int)) (ts : List Tr) (i to : Int) (w : World)
    (hf : ∀ x ∈ ts, Fits x) (h1 : SR w lv ls.length 2 (tcells ls)) (h2 : SR w jv js.length 3 (jcells js)) (h3 : SR w sv ss.length 2 (tcells ss)) (h4 : Txs w tv ts) :
    Calls Try.prog 24 #[.agg #[.int .i64 d, lv, jv, sv], tv, .int .i64 i, .int .i64 to] w fun e w' => e = .returned (.int .i64 (distE ls js ss ts i to)) ∧ Below w.heap.size w w' := by
  have h4' := h4
  obtain ⟨hm4, a4, c4, rfl, hcell⟩ := h4
  obtain ⟨n, hn⟩ : ∃ n, ts.length = n := ⟨_, rfl⟩
  unfold distE
  unfold maxLen at hm4
  rw [hn] at hm4
  have ha1 : (w.alloc (.cells #[.int .i64 d, lv, jv, sv] 34)).heap.size = w.heap.size + 1 := by simp
  have T0 := cells_new w [.int .i64 d, lv, jv, sv] 34
  have hB0 : Below w.heap.size w (w.alloc (.cells #[.int .i64 d, lv, jv, sv] 34)) := (Below.refl _ _).alloc (Nat.le_refl _) _
  have T1 := cells_new (w.alloc (.cells #[.int .i64 d, lv, jv, sv] 34)) [.slice a4 n c4] 35
  rw [ha1] at T1
  have T2 := (T0.keep ((Below.refl _ _).alloc (Nat.le_refl _) (.cells #[.slice a4 n c4] 35))).app T1
  have hB2 := hB0.alloc hB0.size (.cells #[.slice a4 n c4] 35)
  have ha2 : ((w.alloc (.cells #[.int .i64 d, lv, jv, sv] 34)).alloc (.cells #[.slice a4 n c4] 35)).heap.size = w.heap.size + 1 + 1 := by simp
  have T3 := cells_new ((w.alloc (.cells #[.int .i64 d, lv, jv, sv] 34)).alloc (.cells #[.slice a4 n c4] 35)) [.int .i64 i] 3
  rw [ha2] at T3
  have T4 := (T2.keep ((Below.refl _ _).alloc (Nat.le_refl _) (.cells #[.int .i64 i] 3))).app T3
  have hB4 := hB2.alloc hB2.size (.cells #[.int .i64 i] 3)
  have ha3 : (((w.alloc (.cells #[.int .i64 d, lv, jv, sv] 34)).alloc (.cells #[.slice a4 n c4] 35)).alloc (.cells #[.int .i64 i] 3)).heap.size = w.heap.size + 1 + 1 + 1 := by simp
  have T5 := cells_new (((w.alloc (.cells #[.int .i64 d, lv, jv, sv] 34)).alloc (.cells #[.slice a4 n c4] 35)).alloc (.cells #[.int .i64 i] 3)) [.int .i64 to] 3
  rw [ha3] at T5
  have T := (T4.keep ((Below.refl _ _).alloc (Nat.le_refl _) (.cells #[.int .i64 to] 3))).app T5
  have hBW := hB4.alloc hB4.size (.cells #[.int .i64 to] 3)
  clear T0 T1 T2 T3 T4 T5 hB0 hB2 hB4 ha1 ha2 ha3
  by_cases hi : i < 0 ∨ (ts.length : Int) ≤ i
  · rw [if_pos hi]
    rw [hn] at hi ⊢
    clear h1 h2 h3 h4' hcell hf
    by_cases g : i < 0
    · have g1 : decide (i < 0) = true := by simpa using g
      clear g hi
      go_enter Try.func24, Try.ntmps24
      go_wp2_with fail
      generalize hW : (((w.alloc (.cells _ 34)).alloc (.cells _ 35)).alloc (.cells _ 3)).alloc (.cells _ 3) = W at T hBW ⊢
      clear hW
      have hOpen := T
      simp only [Cells, blk, List.cons_append, List.nil_append, and_true, Nat.reduceAdd, Nat.add_zero, Nat.zero_add] at hOpen
      obtain ⟨k0, k1, k2, k3, k4, k5, k6⟩ := hOpen
      go_quiet (fail)
      go_wp2
      go_ret
      exact ⟨rfl, below_drewN hBW _⟩
    · have g1 : decide (i < 0) = false := by simpa using g
      have g2 : decide ((n : Int) ≤ i) = true := by simp; omega
      clear g hi
      go_enter Try.func24, Try.ntmps24
      go_wp2_with fail
      generalize hW : (((w.alloc (.cells _ 34)).alloc (.cells _ 35)).alloc (.cells _ 3)).alloc (.cells _ 3) = W at T hBW ⊢
      clear hW
      have hOpen := T
      simp only [Cells, blk, List.cons_append, List.nil_append, and_true, Nat.reduceAdd, Nat.add_zero, Nat.zero_add] at hOpen
      obtain ⟨k0, k1, k2, k3, k4, k5, k6⟩ := hOpen
      go_quiet (fail)
      go_wp2
      go_ret
      exact ⟨rfl, below_drewN hBW _⟩
  · rw [if_neg hi]
    obtain ⟨k, rfl⟩ : ∃ k : Nat, i = k := ⟨i.toNat, by omega⟩
    have hk : k < ts.length := by omega
    rw [Int.toNat_natCast, getD_at ts k _ hk]
    have g1 : decide ((k : Int) < 0) = false := by simp; try omega
    have g2 : decide (n ≤ k) = false := by simp; omega
    have hi0 : (0 : Int) ≤ (k : Int) := by omega
    have hi1 : (k : Int) < (n : Int) := by omega
    obtain ⟨b, off, rfl, hb, hx⟩ := hcell (by omega)
    obtain ⟨ta, tc, x0, x1, x2, x3, x4, hby⟩ := hx k hk
    have hft := hf _ (List.getElem_mem hk)
    have cc := fun (j : Nat) bs bi bt bx ba w' (hj : j < ts.length) (hb : Below w.heap.size w w') => col2_any j k to bs bi bt bx ba (some ⟨b, off, none⟩) c4 ts ts[k] ta tc d lv jv sv ls w' hj hf hft (h4'.below hb) (h1.below hb)
    obtain ⟨p, hp⟩ : ∃ p, colI ls to (k : Int) ts[k] ts = p := ⟨_, rfl⟩
    rw [hp] at cc ⊢
    rw [hn] at cc ⊢
    unfold five at cc
    obtain ⟨t, het⟩ : ∃ t, ts[k] = t := ⟨_, rfl⟩
    rw [het] at x0 x1 x2 x3 x4 hft cc ⊢
    clear hby hx hcell hf het h4' hi hp hn hk
    obtain ⟨TI, TF, TC, TS, tb⟩ := t
    unfold Fits at hft
    simp only at x0 x1 x2 x3 x4 hft cc ⊢
    obtain ⟨tn, htn⟩ : ∃ n, tb.length = n := ⟨_, rfl⟩
    rw [htn] at x4 hft cc ⊢
    clear htn
    have TX : Cells w (blk b (off + k * 5) 0 [.int .i64 TI, .int .i64 TF, .int .i64 TC, .int .i64 TS, .slice ta tn tc]) := ⟨x0, x1, x2, x3, x4, trivial⟩
    have cr := fun w' hb => range_any d lv jv sv ls TF to w' (h1.below hb)
    have cl := fun w' hb => contains_loss sv ss TI to w' (h3.below hb)
    have cf := fun bx w' hb => containsf_any jv js bx TI TF TC TS ta tn tc (by omega) (by omega) w' (h2.below hb)
    obtain ⟨r, hr⟩ : ∃ r, rngB ls TF to = r := ⟨_, rfl⟩
    obtain ⟨o, ho⟩ : ∃ o, ss.contains (TI, to) = o := ⟨_, rfl⟩
    obtain ⟨q, hq⟩ : ∃ q, js.any (hitJ TC TS (endI TS tn)) = q := ⟨_, rfl⟩
    obtain ⟨al, hal⟩ : ∃ g, (List.range n).any p = g := ⟨_, rfl⟩
    rw [hr] at cr ⊢
    rw [ho] at cl ⊢
    rw [hq] at cf ⊢
    rw [hal]
    have HAL := Lib.hid hal
    clear hal
    have CR := Lib.hid cr
    have CL := Lib.hid cl
    have CF := Lib.hid cf
    have CC := Lib.hid cc
    clear cr cl cf cc hr ho hq h1 h2 h3
    have TT := T.app (TX.keep hBW)
    clear T TX x0 x1 x2 x3 x4
    go_enter Try.func24, Try.ntmps24
    go_wp2_with fail
    generalize hW : (((w.alloc (.cells _ 34)).alloc (.cells _ 35)).alloc (.cells _ 3)).alloc (.cells _ 3) = W at TT hBW ⊢
    clear hW
    refine wp_region_held_drew (S := (fun W' : World => Cells W' (blk w.heap.size 0 0 [.int .i64 d, lv, jv, sv] ++ blk (w.heap.size + 1) 0 0 [.slice (some ⟨b, off, none⟩) n c4] ++ blk (w.heap.size + 1 + 1) 0 0 [.int .i64 k] ++ blk (w.heap.size + 1 + 1 + 1) 0 0 [.int .i64 to] ++ blk b (off + k * 5) 0 [.int .i64 TI, .int .i64 TF, .int .i64 TC, .int .i64 TS, .slice ta tn tc]))) (by kernel_rfl) (TT) (fun hHeld => ?_)
    refine wpAnyH_take (i := 0) (oi := _) (v := ?_) (by rw [List.getElem?_toArray]; rfl) (by kernel_rfl) (by kernel_rfl) (by kernel_rfl) (by exact fun _ _ _ h => h) (Or.inl ⟨by rfl, ?_⟩) (by assumption) ?_
    rotate_left
    · intro w hSw
      try simp only [Cells, blk, List.cons_append, List.nil_append, and_true, Nat.reduceAdd, Nat.add_zero, Nat.zero_add] at hSw
      go_simp
      try with_reducible rfl
    simp only [Act.put, List.setIfInBounds_toArray, List.set_cons_zero, List.set_cons_succ]
    refine wpAnyH_take (i := 1) (oi := _) (v := ?_) (by rw [List.getElem?_toArray]; rfl) (by kernel_rfl) (by kernel_rfl) (by kernel_rfl) (by exact fun _ _ _ h => h) (Or.inl ⟨by rfl, ?_⟩) (by assumption) ?_
    rotate_left
    · intro w hSw
      try simp only [Cells, blk, List.cons_append, List.nil_append, and_true, Nat.reduceAdd, Nat.add_zero, Nat.zero_add] at hSw
      go_simp
      try with_reducible rfl
    simp only [Act.put, List.setIfInBounds_toArray, List.set_cons_zero, List.set_cons_succ]
    refine wpAnyH_take (i := 2) (oi := _) (v := ?_) (by rw [List.getElem?_toArray]; rfl) (by kernel_rfl) (by kernel_rfl) (by kernel_rfl) (by exact fun _ _ _ h => h) (Or.inl ⟨by rfl, ?_⟩) (by assumption) ?_
    rotate_left
    · intro w hSw
      try simp only [Cells, blk, List.cons_append, List.nil_append, and_true, Nat.reduceAdd, Nat.add_zero, Nat.zero_add] at hSw
      go_simp
      try with_reducible rfl
    simp only [Act.put, List.setIfInBounds_toArray, List.set_cons_zero, List.set_cons_succ]
    refine wpAnyH_take (i := 3) (oi := _) (v := ?_) (by rw [List.getElem?_toArray]; rfl) (by kernel_rfl) (by kernel_rfl) (by kernel_rfl) (by exact fun _ _ _ h => h) (Or.inl ⟨by rfl, ?_⟩) (by assumption) ?_
    rotate_left
    · intro w hSw
      try simp only [Cells, blk, List.cons_append, List.nil_append, and_true, Nat.reduceAdd, Nat.add_zero, Nat.zero_add] at hSw
      go_simp
      try with_reducible rfl
    simp only [Act.put, List.setIfInBounds_toArray, List.set_cons_zero, List.set_cons_succ]
    refine wpAnyH_take (i := 4) (oi := _) (v := ?_) (by rw [List.getElem?_toArray]; rfl) (by kernel_rfl) (by kernel_rfl) (by kernel_rfl) (by exact fun _ _ _ h => h) (Or.inl ⟨by rfl, ?_⟩) (by assumption) ?_
    rotate_left
    · intro w hSw
      try simp only [Cells, blk, List.cons_append, List.nil_append, and_true, Nat.reduceAdd, Nat.add_zero, Nat.zero_add] at hSw
      go_simp
      try with_reducible rfl
    simp only [Act.put, List.setIfInBounds_toArray, List.set_cons_zero, List.set_cons_succ]
    refine wpAnyH_take (i := 5) (oi := _) (v := ?_) (by rw [List.getElem?_toArray]; rfl) (by kernel_rfl) (by kernel_rfl) (by kernel_rfl) (by exact fun _ _ _ h => h) (Or.inl ⟨by rfl, ?_⟩) (by assumption) ?_
    rotate_left
    · intro w hSw
      try simp only [Cells, blk, List.cons_append, List.nil_append, and_true, Nat.reduceAdd, Nat.add_zero, Nat.zero_add] at hSw
      go_simp
      try with_reducible rfl
    simp only [Act.put, List.setIfInBounds_toArray, List.set_cons_zero, List.set_cons_succ]
    refine wpAnyH_take (i := 6) (oi := _) (v := ?_) (by rw [List.getElem?_toArray]; rfl) (by kernel_rfl) (by kernel_rfl) (by kernel_rfl) (by exact fun _ _ _ h => h) (Or.inl ⟨by rfl, ?_⟩) (by assumption) ?_
    rotate_left
    · intro w hSw
      try simp only [Cells, blk, List.cons_append, List.nil_append, and_true, Nat.reduceAdd, Nat.add_zero, Nat.zero_add] at hSw
      go_simp
      try with_reducible rfl
    simp only [Act.put, List.setIfInBounds_toArray, List.set_cons_zero, List.set_cons_succ]
    refine wpAnyH_take (i := 7) (oi := _) (v := ?_) (by rw [List.getElem?_toArray]; rfl) (by kernel_rfl) (by kernel_rfl) (by kernel_rfl) (by exact fun _ _ _ h => h) (Or.inl ⟨by rfl, ?_⟩) (by assumption) ?_
    rotate_left
    · intro w hSw
      try simp only [Cells, blk, List.cons_append, List.nil_append, and_true, Nat.reduceAdd, Nat.add_zero, Nat.zero_add] at hSw
      go_simp
      try with_reducible rfl
    simp only [Act.put, List.setIfInBounds_toArray, List.set_cons_zero, List.set_cons_succ]
    refine wpAnyH_take (i := 8) (oi := _) (v := ?_) (by rw [List.getElem?_toArray]; rfl) (by kernel_rfl) (by kernel_rfl) (by kernel_rfl) (by exact fun _ _ _ h => h) (Or.inl ⟨by rfl, ?_⟩) (by assumption) ?_
    rotate_left
    · intro w hSw
      try simp only [Cells, blk, List.cons_append, List.nil_append, and_true, Nat.reduceAdd, Nat.add_zero, Nat.zero_add] at hSw
      go_simp
      try with_reducible rfl
    simp only [Act.put, List.setIfInBounds_toArray, List.set_cons_zero, List.set_cons_succ]
    refine wpAnyH_take (i := 9) (oi := _) (v := ?_) (by rw [List.getElem?_toArray]; rfl) (by kernel_rfl) (by kernel_rfl) (by kernel_rfl) (by exact fun _ _ _ h => h) (Or.inl ⟨by rfl, ?_⟩) (by assumption) ?_
    rotate_left
    · intro w hSw
      try simp only [Cells, blk, List.cons_append, List.nil_append, and_true, Nat.reduceAdd, Nat.add_zero, Nat.zero_add] at hSw
      go_simp
      try with_reducible rfl
    simp only [Act.put, List.setIfInBounds_toArray, List.set_cons_zero, List.set_cons_succ]
    refine wpAnyH_take (i := 10) (oi := _) (v := ?_) (by rw [List.getElem?_toArray]; rfl) (by kernel_rfl) (by kernel_rfl) (by kernel_rfl) (by exact fun _ _ _ h => h) (Or.inl ⟨by rfl, ?_⟩) (by assumption) ?_
    rotate_left
    · intro w hSw
      try simp only [Cells, blk, List.cons_append, List.nil_append, and_true, Nat.reduceAdd, Nat.add_zero, Nat.zero_add] at hSw
      go_simp
      try with_reducible rfl
    simp only [Act.put, List.setIfInBounds_toArray, List.set_cons_zero, List.set_cons_succ]
    refine wpAnyH_take (i := 11) (oi := _) (v := ?_) (by rw [List.getElem?_toArray]; rfl) (by kernel_rfl) (by kernel_rfl) (by kernel_rfl) (by exact fun _ _ _ h => h) (Or.inl ⟨by rfl, ?_⟩) (by assumption) ?_
    rotate_left
    · intro w hSw
      try simp only [Cells, blk, List.cons_append, List.nil_append, and_true, Nat.reduceAdd, Nat.add_zero, Nat.zero_add] at hSw
      go_simp
      try with_reducible rfl
    simp only [Act.put, List.setIfInBounds_toArray, List.set_cons_zero, List.set_cons_succ]
    refine wpAnyH_take (i := 12) (oi := _) (v := ?_) (by rw [List.getElem?_toArray]; rfl) (by kernel_rfl) (by kernel_rfl) (by kernel_rfl) (by exact fun _ _ _ h => h) (Or.inl ⟨by rfl, ?_⟩) (by assumption) ?_
    rotate_left
    · intro w hSw
      try simp only [Cells, blk, List.cons_append, List.nil_append, and_true, Nat.reduceAdd, Nat.add_zero, Nat.zero_add] at hSw
      go_simp
      try with_reducible rfl
    simp only [Act.put, List.setIfInBounds_toArray, List.set_cons_zero, List.set_cons_succ]
    refine wpAnyH_take (i := 13) (oi := _) (v := ?_) (by rw [List.getElem?_toArray]; rfl) (by kernel_rfl) (by kernel_rfl) (by kernel_rfl) (by exact fun _ _ _ h => h) (Or.inl ⟨by rfl, ?_⟩) (by assumption) ?_
    rotate_left
    · intro w hSw
      try simp only [Cells, blk, List.cons_append, List.nil_append, and_true, Nat.reduceAdd, Nat.add_zero, Nat.zero_add] at hSw
      go_simp
      try with_reducible rfl
    simp only [Act.put, List.setIfInBounds_toArray, List.set_cons_zero, List.set_cons_succ]
    refine wpAnyH_take (i := 14) (oi := _) (v := ?_) (by rw [List.getElem?_toArray]; rfl) (by kernel_rfl) (by kernel_rfl) (by kernel_rfl) (by exact fun _ _ _ h => h) (Or.inl ⟨by rfl, ?_⟩) (by assumption) ?_
    rotate_left
    · intro w hSw
      try simp only [Cells, blk, List.cons_append, List.nil_append, and_true, Nat.reduceAdd, Nat.add_zero, Nat.zero_add] at hSw
      go_simp
      try with_reducible rfl
    simp only [Act.put, List.setIfInBounds_toArray, List.set_cons_zero, List.set_cons_succ]
    refine wpAnyH_take (i := 15) (oi := _) (v := ?_) (by rw [List.getElem?_toArray]; rfl) (by kernel_rfl) (by kernel_rfl) (by kernel_rfl) (by exact fun _ _ _ h => h) (Or.inl ⟨by rfl, ?_⟩) (by assumption) ?_
    rotate_left
    · intro w hSw
      try simp only [Cells, blk, List.cons_append, List.nil_append, and_true, Nat.reduceAdd, Nat.add_zero, Nat.zero_add] at hSw
      go_simp
      try with_reducible rfl
    simp only [Act.put, List.setIfInBounds_toArray, List.set_cons_zero, List.set_cons_succ]
    refine wpAnyH_ready (rs := [16]) (by kernel_rfl) (by simp) (AllReadyH.cons (o := _) (by rw [List.getElem?_toArray]; rfl) (fun K hK => ?_) AllReadyH.nil)
    go_simp
    go_at_call 21
    refine (CR.out W.drew hBW.drew).mono ?_
    rintro e w2 ⟨rfl, hB2⟩
    have hBd := hBW.drew
    have hBn := hBd.trans (hB2.mono hBd.size)
    have T2 := Cells.keep (W := W.drew) TT.drew hB2
    clear hHeld
    refine hK.out _ _ (T2) (fun hHeld => ?_)
    clear hK K
    try simp only [Act.put, List.setIfInBounds_toArray, List.set_cons_zero, List.set_cons_succ]
    refine wpAnyH_take (i := 17) (oi := _) (v := ?_) (by rw [List.getElem?_toArray]; rfl) (by kernel_rfl) (by kernel_rfl) (by kernel_rfl) (by exact fun _ _ _ h => h) (Or.inl ⟨by rfl, ?_⟩) (by assumption) ?_
    rotate_left
    · intro w hSw
      try simp only [Cells, blk, List.cons_append, List.nil_append, and_true, Nat.reduceAdd, Nat.add_zero, Nat.zero_add] at hSw
      go_simp
      try with_reducible rfl
    simp only [Act.put, List.setIfInBounds_toArray, List.set_cons_zero, List.set_cons_succ]
    refine wpAnyH_take (i := 18) (oi := _) (v := ?_) (by rw [List.getElem?_toArray]; rfl) (by kernel_rfl) (by kernel_rfl) (by kernel_rfl) (by exact fun _ _ _ h => h) (Or.inl ⟨by rfl, ?_⟩) (by assumption) ?_
    rotate_left
    · intro w hSw
      try simp only [Cells, blk, List.cons_append, List.nil_append, and_true, Nat.reduceAdd, Nat.add_zero, Nat.zero_add] at hSw
      go_simp
      try with_reducible rfl
    simp only [Act.put, List.setIfInBounds_toArray, List.set_cons_zero, List.set_cons_succ]
    refine wpAnyH_done (by kernel_rfl) ?_ _
    clear TT hBW hBd hB2
    cases r
    · go_wp2
      go_ret
      exact ⟨rfl, hBn⟩
    · have T3 := T2
      have hOpen := T2
      simp only [Cells, blk, List.cons_append, List.nil_append, and_true, Nat.reduceAdd, Nat.add_zero, Nat.zero_add] at hOpen
      obtain ⟨k0, k1, k2, k3, k4, k5, k6, x0, x1, x2, x3, x4⟩ := hOpen
      have l0 := World.block_lt_of_cell? w2 _ k0
      have l3 := World.block_lt_of_cell? w2 _ k3
      have l4 := World.block_lt_of_cell? w2 _ k4
      have l5 := World.block_lt_of_cell? w2 _ k5
      have l6 := World.block_lt_of_cell? w2 _ k6
      simp only at l0 l3 l4 l5 l6
      have hb2 : b < w2.heap.size := Nat.lt_of_lt_of_le hb hBn.size
      have hmf : ∀ (fn : Fn) (first cap : Array Value) (w : World), (Instr.makeFunc fn first cap).run Try.prog w = .ok (.func fn first cap) w := fun _ _ _ _ => rfl
      have hBX := hBn.alloc hBn.size (.cells #[.int .i64 TI, .int .i64 TF, .int .i64 TC, .int .i64 TS, .slice ta tn tc] 24)
      have T4 := (T3.keep ((Below.refl _ _).alloc (Nat.le_refl _) (.cells #[.int .i64 TI, .int .i64 TF, .int .i64 TC, .int .i64 TS, .slice ta tn tc] 24))).app (cells_new w2 [.int .i64 TI, .int .i64 TF, .int .i64 TC, .int .i64 TS, .slice ta tn tc] 24)
      go_wp2_with fail
      generalize hX : w2.alloc (.cells _ 24) = X at T4 hBX ⊢
      clear hX
      refine (CL.out X hBX).mono ?_
      rintro e w3 ⟨rfl, hB3⟩
      have T5 := T4.keep hB3
      have hBY := hBX.trans (hB3.mono hBX.size)
      clear T2 T3 T4 hB3 hBX k0 k1 k2 k3 k4 k5 k6 x0 x1 x2 x3 x4 hHeld
      cases o
      · have T6 := T5
        have hOpen := T5
        simp only [Cells, blk, List.cons_append, List.nil_append, and_true, Nat.reduceAdd, Nat.add_zero, Nat.zero_add] at hOpen
        obtain ⟨k0, k1, k2, k3, k4, k5, k6, x0, x1, x2, x3, x4, y0, y1, y2, y3, y4⟩ := hOpen
        go_wp2_with fail
        refine (CF.out w2.heap.size w3 hBY T6.right).mono ?_
        rintro e w4 ⟨rfl, hB4⟩
        have T7 := T6.keep hB4
        have hBZ := hBY.trans (hB4.mono hBY.size)
        clear T5 T6 hB4 hBY k0 k1 k2 k3 k4 k5 k6 x0 x1 x2 x3 x4 y0 y1 y2 y3 y4
        cases q
        · have T8 := T7
          have hOpen := T7
          simp only [Cells, blk, List.cons_append, List.nil_append, and_true, Nat.reduceAdd, Nat.add_zero, Nat.zero_add] at hOpen
          obtain ⟨k0, k1, k2, k3, k4, k5, k6, x0, x1, x2, x3, x4, y0, y1, y2, y3, y4⟩ := hOpen
          clear T7
          go_wp2_with fail
          go_loopw [51, 12] (fun i' _ wr => ∃ j : Nat, j ≤ n ∧ i' = .int .i64 j ∧ Hid ((List.range j).any p = false) ∧ Below w4.heap.size w4 wr) (fun i' _ _ => n - (intOf i').toNat)
          case atStart => exact ⟨0, by omega, rfl, rfl, Below.refl _ _⟩
          case round =>
            obtain ⟨j, hj, rfl, hz, hB⟩ := hrel
            have hBr := hBZ.trans (hB.mono hBZ.size)
            by_cases hlt : j < n
            · have T9 := T8.keep hB
              clear k0 k1 k2 k3 k4 k5 k6 x0 x1 x2 x3 x4 y0 y1 y2 y3 y4
              have hOpen := T9
              simp only [Cells, blk, List.cons_append, List.nil_append, and_true, Nat.reduceAdd, Nat.add_zero, Nat.zero_add] at hOpen
              obtain ⟨k0, k1, k2, k3, k4, k5, k6, x0, x1, x2, x3, x4, y0, y1, y2, y3, y4⟩ := hOpen
              have cc := CC.out j (w.heap.size + 1) (w.heap.size + 1 + 1) (w.heap.size + 1 + 1 + 1) w2.heap.size w.heap.size wr hlt hBr ⟨k4, k5, k6, y0, y1, y2, y3, y4, k0, k1, k2, k3, trivial⟩
              have hv := any_range_succ p j
              rw [hz.out, Bool.false_or] at hv
              have ha := any_range_true p j n hlt
              obtain ⟨g, hg⟩ : ∃ g, p j = g := ⟨_, rfl⟩
              rw [hg] at cc hv ha
              have CJ := Lib.hid cc
              have HV := Lib.hid hv
              have HA := Lib.hid ha
              clear cc hv ha hg
              go_wp2_with fail
              refine CJ.out.mono ?_
              rintro e w5 ⟨rfl, hB5⟩
              have hBn := hB.trans (hB5.mono hB.size)
              have hBe := hBr.trans (hB5.mono hBr.size)
              cases g
              · go_wp2
                go_roundw
                case rel => exact ⟨j + 1, by omega, by go_num, HV.out, hBn⟩
                case measure => simp [intOf]; omega
              · have hr : al = true := by rw [← HAL.out]; exact HA.out (by first | rfl | trivial)
                subst hr
                go_wp2
                go_ret
                exact ⟨rfl, hBe⟩
            · have hr : al = false := by rw [← HAL.out, ← hz.out, show j = n by omega]
              subst hr
              go_wp2
              go_ret
              exact ⟨rfl, hBr⟩
        · go_wp2
          go_ret
          exact ⟨rfl, hBZ⟩
      · go_wp2
        go_ret
        exact ⟨rfl, hBY⟩
end Go.Proofs.Ythemdbgcamkecaa
