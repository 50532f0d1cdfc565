/- cache: the walk of CacheLearns. -/
import Derived.Test.YteblimdbkiiaaaaFeB
namespace Go.Proofs.Yteblimdbkiiaaaa
open Go.RowKit

set_option linter.unusedSimpArgs false in
set_option linter.unusedVariables false in
set_option maxRecDepth 100000 in
set_option maxHeartbeats 8000000 in
theorem cacheLearns_walk (v0 v1 v2 : Value) (w : World) (a0 : Arg Try.prog w 26 v0) (a1 : Arg Try.prog w 24 v1) (a2 : Arg Try.prog w 23 v2) :
    Calls Try.prog 3 #[v0, v1, v2] w fun e w' => e = .returned (.bool true) ∧ Below w.heap.size w w' := by
  obtain ⟨c, hk, hl⟩ := arg_ca a0
  obtain ⟨l, hs, hl2⟩ := arg_fds a1
  obtain ⟨hash, rfl, _⟩ := a2.u64 Try.underlying23
  have hlen : ∃ a n cp, v0 = .agg #[.bool c.va, .int .u64 c.ha, .slice a n cp, .bool c.du] ∧ n = c.l.length := by
    obtain ⟨⟨fv, rfl, _, _, _, ao, cap, rfl, _⟩, _⟩ := hk
    exact ⟨_, _, _, rfl, rfl⟩
  obtain ⟨a, n, cp, rfl, hn⟩ := hlen
  have hlen2 : ∃ a n cp, v1 = .slice a n cp ∧ n = l.length := by
    obtain ⟨_, _, _, ao, cap, rfl, _⟩ := hs
    exact ⟨_, _, _, rfl, rfl⟩
  obtain ⟨fa, fn, fc, rfl, hfn⟩ := hlen2
  obtain ⟨cva, cha, cl0, cdu⟩ := c
  simp only at hn hl
  have HK := Lib.hid hk
  have HN := Lib.hid hn
  have HFN := Lib.hid hfn
  have HS := Lib.hid hs
  have hnr : n ≤ 140737488351232 := by unfold reachBytes at hl; omega
  have hfr : fn ≤ 140737488351232 := by unfold reachBytes at hl2; omega
  clear hk hn a0 a1 a2 hl hl2 hfn hs
  have T := cells_new w [.bool cva, .int .u64 cha, .slice a n cp, .bool cdu] 26
  have hB : Below w.heap.size w (w.alloc (.cells #[.bool cva, .int .u64 cha, .slice a n cp, .bool cdu] 26)) := (Below.refl _ _).alloc (Nat.le_refl _) _
  by_cases hbig : 300 < fn
  · have g1 : decide (300 < fn) = true := by simpa using hbig
    go_enter Try.func3, Try.ntmps3
    go_wp2_with fail
    go_at_call 8
    refine (example_any _).mono ?_
    rintro e w4 ⟨rfl, hB4⟩
    go_wp2
    go_ret
    exact ⟨rfl, hB.trans (hB4.mono hB.size)⟩
  have g1 : decide (300 < fn) = false := by simpa using hbig
  by_cases hbig2 : 300 < n
  · have g2 : decide (300 < n) = true := by simpa using hbig2
    go_enter Try.func3, Try.ntmps3
    go_wp2_with fail
    go_at_call 8
    refine (example_any _).mono ?_
    rintro e w4 ⟨rfl, hB4⟩
    go_wp2
    go_ret
    exact ⟨rfl, hB.trans (hB4.mono hB.size)⟩
  have g2 : decide (300 < n) = false := by simpa using hbig2
  have HL : Hid (cl0.length ≤ 1000000) := Lib.hid (by rw [← HN.out]; omega)
  have HL2 : Hid (l.length ≤ 900000) := Lib.hid (by rw [← HFN.out]; omega)
  have HL3 : Hid ((rlTo l l.length).length ≤ 1000000) := Lib.hid (by have := rlTo_len l l.length; have := HL2.out; omega)
  have HLV : Hid ((verC ⟨cva, cha, cl0, cdu⟩ hash).l.length ≤ 1000000) := Lib.hid (by have := HL.out; unfold verC; split <;> simp <;> omega)
  have HLD : Hid ((dbtC ⟨cva, cha, cl0, cdu⟩).l.length ≤ 1000000) := HL
  go_enter Try.func3, Try.ntmps3
  go_upto_region 3 with fail
  generalize hV : World.alloc _ _ = V at T hB ⊢
  clear hV
  have HKV : Hid (CaK V (.agg #[.bool cva, .int .u64 cha, .slice a n cp, .bool cdu]) ⟨cva, cha, cl0, cdu⟩) := Lib.hid (HK.out.below hB)
  have HSV : Hid (SR V (.slice fa fn fc) l.length 6 (fcells l)) := Lib.hid (HS.out.below hB)
  go_upto_region 3 with fail
  refine wp_region_held_drew (S := (fun W' : World => Below V.heap.size V W' ∧ V.heap.size ≤ W'.heap.size ∧ Cells W' (blk w.heap.size 0 0 [.bool cva, .int .u64 cha, .slice a n cp, .bool cdu]))) (by kernel_rfl) (⟨(Below.refl _ _).drew, Nat.le_refl _, T.drew⟩) (fun hHeld => ?_)
  generalize World.drew _ = wd at hHeld ⊢
  have hz := hHeld.2.1
  refine wpAnyH_take (i := 0) (oi := _) (v := ?_) (by rw [List.getElem?_toArray]; rfl) (by kernel_rfl) (by kernel_rfl) (by kernel_rfl) (by exact fun _ _ _ h => h) (Or.inl ⟨by rfl, ?_⟩) (by assumption) ?_
  rotate_left
  · intro w hSw
    try simp only [Cells, blk, List.cons_append, List.nil_append, and_true, Nat.reduceAdd, Nat.add_zero, Nat.zero_add] at hSw
    go_simp
    try with_reducible rfl
  simp only [Act.put, List.setIfInBounds_toArray, List.set_cons_zero, List.set_cons_succ]
  refine wpAnyH_take (i := 1) (oi := _) (v := ?_) (by rw [List.getElem?_toArray]; rfl) (by kernel_rfl) (by kernel_rfl) (by kernel_rfl) (by exact fun _ _ _ h => h) (Or.inl ⟨by rfl, ?_⟩) (by assumption) ?_
  rotate_left
  · intro w hSw
    try simp only [Cells, blk, List.cons_append, List.nil_append, and_true, Nat.reduceAdd, Nat.add_zero, Nat.zero_add] at hSw
    go_simp
    try with_reducible rfl
  simp only [Act.put, List.setIfInBounds_toArray, List.set_cons_zero, List.set_cons_succ]
  refine wpAnyH_take (i := 3) (oi := _) (v := ?_) (by rw [List.getElem?_toArray]; rfl) (by kernel_rfl) (by kernel_rfl) (by kernel_rfl) (by exact fun _ _ _ h => h) (Or.inl ⟨by rfl, ?_⟩) (by assumption) ?_
  rotate_left
  · intro w hSw
    try simp only [Cells, blk, List.cons_append, List.nil_append, and_true, Nat.reduceAdd, Nat.add_zero, Nat.zero_add] at hSw
    go_simp
    try with_reducible rfl
  simp only [Act.put, List.setIfInBounds_toArray, List.set_cons_zero, List.set_cons_succ]
  refine wpAnyH_take (i := 4) (oi := _) (v := ?_) (by rw [List.getElem?_toArray]; rfl) (by kernel_rfl) (by kernel_rfl) (by kernel_rfl) (by exact fun _ _ _ h => h) (Or.inl ⟨by rfl, ?_⟩) (by assumption) ?_
  rotate_left
  · intro w hSw
    try simp only [Cells, blk, List.cons_append, List.nil_append, and_true, Nat.reduceAdd, Nat.add_zero, Nat.zero_add] at hSw
    go_simp
    try with_reducible rfl
  simp only [Act.put, List.setIfInBounds_toArray, List.set_cons_zero, List.set_cons_succ]
  refine wpAnyH_ready (rs := [2]) (by kernel_rfl) (by simp) (AllReadyH.cons (o := _) (by rw [List.getElem?_toArray]; rfl) (fun K hK => ?_) AllReadyH.nil)
  go_simp
  go_at_call 10
  refine (learn_ca _ l hash _ (HSV.out.below hHeld.1) HL2.out).mono ?_
  rintro e wb ⟨vA, rfl, hkA, hBb⟩
  try replace hkB := hkB.below hBb
  refine hK.out _ _ (⟨hHeld.1.trans (hBb.mono (by have := hHeld.2.1; omega)), Nat.le_trans hHeld.2.1 hBb.size, hHeld.2.2.keep hBb⟩) (fun hHeld2 => ?_)
  replace hHeld := hHeld2
  clear hK K hHeld2
  try simp only [Act.put, List.setIfInBounds_toArray, List.set_cons_zero, List.set_cons_succ]
  refine wpAnyH_ready (rs := [5]) (by kernel_rfl) (by simp) (AllReadyH.cons (o := _) (by rw [List.getElem?_toArray]; rfl) (fun K hK => ?_) AllReadyH.nil)
  go_simp
  go_at_call 11
  refine (rlearn_any _ l hash _ (HSV.out.below hHeld.1) HL2.out).mono ?_
  rintro e wb ⟨vB, rfl, hkB, hBb⟩
  try replace hkA := hkA.below hBb
  refine hK.out _ _ (⟨hHeld.1.trans (hBb.mono (by have := hHeld.2.1; omega)), Nat.le_trans hHeld.2.1 hBb.size, hHeld.2.2.keep hBb⟩) (fun hHeld2 => ?_)
  replace hHeld := hHeld2
  clear hK K hHeld2
  try simp only [Act.put, List.setIfInBounds_toArray, List.set_cons_zero, List.set_cons_succ]
  refine wpAnyH_ready (rs := [6]) (by kernel_rfl) (by simp) (AllReadyH.cons (o := _) (by rw [List.getElem?_toArray]; rfl) (fun K hK => ?_) AllReadyH.nil)
  go_simp
  go_at_call 9
  refine (sameCache_any ⟨true, hash, rlTo l l.length, false⟩ _ _ _ hkA.1 hkB HL3.out).mono ?_
  rintro e wb ⟨rfl, hBb⟩
  refine hK.out _ _ (⟨hHeld.1.trans (hBb.mono (by have := hHeld.2.1; omega)), Nat.le_trans hHeld.2.1 hBb.size, hHeld.2.2.keep hBb⟩) (fun hHeld2 => ?_)
  replace hHeld := hHeld2
  clear hK K hHeld2
  try simp only [Act.put, List.setIfInBounds_toArray, List.set_cons_zero, List.set_cons_succ]
  refine wpAnyH_take (i := 7) (oi := _) (v := ?_) (by rw [List.getElem?_toArray]; rfl) (by kernel_rfl) (by kernel_rfl) (by kernel_rfl) (by exact fun _ _ _ h => h) (Or.inl ⟨by rfl, ?_⟩) (by assumption) ?_
  rotate_left
  · intro w hSw
    try simp only [Cells, blk, List.cons_append, List.nil_append, and_true, Nat.reduceAdd, Nat.add_zero, Nat.zero_add] at hSw
    go_simp
    try with_reducible rfl
  simp only [Act.put, List.setIfInBounds_toArray, List.set_cons_zero, List.set_cons_succ]
  refine wpAnyH_take (i := 8) (oi := _) (v := ?_) (by rw [List.getElem?_toArray]; rfl) (by kernel_rfl) (by kernel_rfl) (by kernel_rfl) (by exact fun _ _ _ h => h) (Or.inl ⟨by rfl, ?_⟩) (by assumption) ?_
  rotate_left
  · intro w hSw
    try simp only [Cells, blk, List.cons_append, List.nil_append, and_true, Nat.reduceAdd, Nat.add_zero, Nat.zero_add] at hSw
    go_simp
    try with_reducible rfl
  simp only [Act.put, List.setIfInBounds_toArray, List.set_cons_zero, List.set_cons_succ]
  refine wpAnyH_take (i := 9) (oi := _) (v := ?_) (by rw [List.getElem?_toArray]; rfl) (by kernel_rfl) (by kernel_rfl) (by kernel_rfl) (by exact fun _ _ _ h => h) (Or.inl ⟨by rfl, ?_⟩) (by assumption) ?_
  rotate_left
  · intro w hSw
    try simp only [Cells, blk, List.cons_append, List.nil_append, and_true, Nat.reduceAdd, Nat.add_zero, Nat.zero_add] at hSw
    go_simp
    try with_reducible rfl
  simp only [Act.put, List.setIfInBounds_toArray, List.set_cons_zero, List.set_cons_succ]
  refine wpAnyH_take (i := 11) (oi := _) (v := ?_) (by rw [List.getElem?_toArray]; rfl) (by kernel_rfl) (by kernel_rfl) (by kernel_rfl) (by exact fun _ _ _ h => h) (Or.inl ⟨by rfl, ?_⟩) (by assumption) ?_
  rotate_left
  · intro w hSw
    try simp only [Cells, blk, List.cons_append, List.nil_append, and_true, Nat.reduceAdd, Nat.add_zero, Nat.zero_add] at hSw
    go_simp
    try with_reducible rfl
  simp only [Act.put, List.setIfInBounds_toArray, List.set_cons_zero, List.set_cons_succ]
  refine wpAnyH_take (i := 12) (oi := _) (v := ?_) (by rw [List.getElem?_toArray]; rfl) (by kernel_rfl) (by kernel_rfl) (by kernel_rfl) (by exact fun _ _ _ h => h) (Or.inl ⟨by rfl, ?_⟩) (by assumption) ?_
  rotate_left
  · intro w hSw
    try simp only [Cells, blk, List.cons_append, List.nil_append, and_true, Nat.reduceAdd, Nat.add_zero, Nat.zero_add] at hSw
    go_simp
    try with_reducible rfl
  simp only [Act.put, List.setIfInBounds_toArray, List.set_cons_zero, List.set_cons_succ]
  refine wpAnyH_ready (rs := [10]) (by kernel_rfl) (by simp) (AllReadyH.cons (o := _) (by rw [List.getElem?_toArray]; rfl) (fun K hK => ?_) AllReadyH.nil)
  go_simp
  go_at_call 12
  refine (verify_any _ ⟨cva, cha, cl0, cdu⟩ hash _ (HKV.out.1.below hHeld.1) HL.out).mono ?_
  rintro e wb ⟨vC, rfl, hkC, hBb⟩
  try replace hkD := hkD.below hBb
  refine hK.out _ _ (⟨hHeld.1.trans (hBb.mono (by have := hHeld.2.1; omega)), Nat.le_trans hHeld.2.1 hBb.size, hHeld.2.2.keep hBb⟩) (fun hHeld2 => ?_)
  replace hHeld := hHeld2
  clear hK K hHeld2
  try simp only [Act.put, List.setIfInBounds_toArray, List.set_cons_zero, List.set_cons_succ]
  refine wpAnyH_ready (rs := [13]) (by kernel_rfl) (by simp) (AllReadyH.cons (o := _) (by rw [List.getElem?_toArray]; rfl) (fun K hK => ?_) AllReadyH.nil)
  go_simp
  go_at_call 13
  refine (rverify_any _ ⟨cva, cha, cl0, cdu⟩ hash _ (HKV.out.1.below hHeld.1) HL.out).mono ?_
  rintro e wb ⟨vD, rfl, hkD, hBb⟩
  try replace hkC := hkC.below hBb
  refine hK.out _ _ (⟨hHeld.1.trans (hBb.mono (by have := hHeld.2.1; omega)), Nat.le_trans hHeld.2.1 hBb.size, hHeld.2.2.keep hBb⟩) (fun hHeld2 => ?_)
  replace hHeld := hHeld2
  clear hK K hHeld2
  try simp only [Act.put, List.setIfInBounds_toArray, List.set_cons_zero, List.set_cons_succ]
  refine wpAnyH_ready (rs := [14]) (by kernel_rfl) (by simp) (AllReadyH.cons (o := _) (by rw [List.getElem?_toArray]; rfl) (fun K hK => ?_) AllReadyH.nil)
  go_simp
  go_at_call 9
  refine (sameCache_any (verC ⟨cva, cha, cl0, cdu⟩ hash) _ _ _ hkC.1 hkD HLV.out).mono ?_
  rintro e wb ⟨rfl, hBb⟩
  refine hK.out _ _ (⟨hHeld.1.trans (hBb.mono (by have := hHeld.2.1; omega)), Nat.le_trans hHeld.2.1 hBb.size, hHeld.2.2.keep hBb⟩) (fun hHeld2 => ?_)
  replace hHeld := hHeld2
  clear hK K hHeld2
  try simp only [Act.put, List.setIfInBounds_toArray, List.set_cons_zero, List.set_cons_succ]
  refine wpAnyH_take (i := 15) (oi := _) (v := ?_) (by rw [List.getElem?_toArray]; rfl) (by kernel_rfl) (by kernel_rfl) (by kernel_rfl) (by exact fun _ _ _ h => h) (Or.inl ⟨by rfl, ?_⟩) (by assumption) ?_
  rotate_left
  · intro w hSw
    try simp only [Cells, blk, List.cons_append, List.nil_append, and_true, Nat.reduceAdd, Nat.add_zero, Nat.zero_add] at hSw
    go_simp
    try with_reducible rfl
  simp only [Act.put, List.setIfInBounds_toArray, List.set_cons_zero, List.set_cons_succ]
  refine wpAnyH_take (i := 16) (oi := _) (v := ?_) (by rw [List.getElem?_toArray]; rfl) (by kernel_rfl) (by kernel_rfl) (by kernel_rfl) (by exact fun _ _ _ h => h) (Or.inl ⟨by rfl, ?_⟩) (by assumption) ?_
  rotate_left
  · intro w hSw
    try simp only [Cells, blk, List.cons_append, List.nil_append, and_true, Nat.reduceAdd, Nat.add_zero, Nat.zero_add] at hSw
    go_simp
    try with_reducible rfl
  simp only [Act.put, List.setIfInBounds_toArray, List.set_cons_zero, List.set_cons_succ]
  refine wpAnyH_take (i := 17) (oi := _) (v := ?_) (by rw [List.getElem?_toArray]; rfl) (by kernel_rfl) (by kernel_rfl) (by kernel_rfl) (by exact fun _ _ _ h => h) (Or.inl ⟨by rfl, ?_⟩) (by assumption) ?_
  rotate_left
  · intro w hSw
    try simp only [Cells, blk, List.cons_append, List.nil_append, and_true, Nat.reduceAdd, Nat.add_zero, Nat.zero_add] at hSw
    go_simp
    try with_reducible rfl
  simp only [Act.put, List.setIfInBounds_toArray, List.set_cons_zero, List.set_cons_succ]
  refine wpAnyH_take (i := 19) (oi := _) (v := ?_) (by rw [List.getElem?_toArray]; rfl) (by kernel_rfl) (by kernel_rfl) (by kernel_rfl) (by exact fun _ _ _ h => h) (Or.inl ⟨by rfl, ?_⟩) (by assumption) ?_
  rotate_left
  · intro w hSw
    try simp only [Cells, blk, List.cons_append, List.nil_append, and_true, Nat.reduceAdd, Nat.add_zero, Nat.zero_add] at hSw
    go_simp
    try with_reducible rfl
  simp only [Act.put, List.setIfInBounds_toArray, List.set_cons_zero, List.set_cons_succ]
  refine wpAnyH_ready (rs := [18]) (by kernel_rfl) (by simp) (AllReadyH.cons (o := _) (by rw [List.getElem?_toArray]; rfl) (fun K hK => ?_) AllReadyH.nil)
  go_simp
  go_at_call 14
  refine (doubt_any _ ⟨cva, cha, cl0, cdu⟩ _ (HKV.out.1.below hHeld.1) HL.out).mono ?_
  rintro e wb ⟨vE, rfl, hkE, hBb⟩
  try replace hkF := hkF.below hBb
  refine hK.out _ _ (⟨hHeld.1.trans (hBb.mono (by have := hHeld.2.1; omega)), Nat.le_trans hHeld.2.1 hBb.size, hHeld.2.2.keep hBb⟩) (fun hHeld2 => ?_)
  replace hHeld := hHeld2
  clear hK K hHeld2
  try simp only [Act.put, List.setIfInBounds_toArray, List.set_cons_zero, List.set_cons_succ]
  refine wpAnyH_ready (rs := [20]) (by kernel_rfl) (by simp) (AllReadyH.cons (o := _) (by rw [List.getElem?_toArray]; rfl) (fun K hK => ?_) AllReadyH.nil)
  go_simp
  go_at_call 15
  refine (rdoubt_any _ ⟨cva, cha, cl0, cdu⟩ _ (HKV.out.1.below hHeld.1)).mono ?_
  rintro e wb ⟨vF, rfl, hkF, hBb⟩
  try replace hkE := hkE.below hBb
  refine hK.out _ _ (⟨hHeld.1.trans (hBb.mono (by have := hHeld.2.1; omega)), Nat.le_trans hHeld.2.1 hBb.size, hHeld.2.2.keep hBb⟩) (fun hHeld2 => ?_)
  replace hHeld := hHeld2
  clear hK K hHeld2
  try simp only [Act.put, List.setIfInBounds_toArray, List.set_cons_zero, List.set_cons_succ]
  refine wpAnyH_ready (rs := [21]) (by kernel_rfl) (by simp) (AllReadyH.cons (o := _) (by rw [List.getElem?_toArray]; rfl) (fun K hK => ?_) AllReadyH.nil)
  go_simp
  go_at_call 9
  refine (sameCache_any (dbtC ⟨cva, cha, cl0, cdu⟩) _ _ _ hkE.1 hkF HLD.out).mono ?_
  rintro e wb ⟨rfl, hBb⟩
  refine hK.out _ _ (⟨hHeld.1.trans (hBb.mono (by have := hHeld.2.1; omega)), Nat.le_trans hHeld.2.1 hBb.size, hHeld.2.2.keep hBb⟩) (fun hHeld2 => ?_)
  replace hHeld := hHeld2
  clear hK K hHeld2
  try simp only [Act.put, List.setIfInBounds_toArray, List.set_cons_zero, List.set_cons_succ]
  refine wpAnyH_take (i := 22) (oi := _) (v := ?_) (by rw [List.getElem?_toArray]; rfl) (by kernel_rfl) (by kernel_rfl) (by kernel_rfl) (by exact fun _ _ _ h => h) (Or.inl ⟨by rfl, ?_⟩) (by assumption) ?_
  rotate_left
  · intro w hSw
    try simp only [Cells, blk, List.cons_append, List.nil_append, and_true, Nat.reduceAdd, Nat.add_zero, Nat.zero_add] at hSw
    go_simp
    try with_reducible rfl
  simp only [Act.put, List.setIfInBounds_toArray, List.set_cons_zero, List.set_cons_succ]
  refine wpAnyH_take (i := 23) (oi := _) (v := ?_) (by rw [List.getElem?_toArray]; rfl) (by kernel_rfl) (by kernel_rfl) (by kernel_rfl) (by exact fun _ _ _ h => h) (Or.inl ⟨by rfl, ?_⟩) (by assumption) ?_
  rotate_left
  · intro w hSw
    try simp only [Cells, blk, List.cons_append, List.nil_append, and_true, Nat.reduceAdd, Nat.add_zero, Nat.zero_add] at hSw
    go_simp
    try with_reducible rfl
  simp only [Act.put, List.setIfInBounds_toArray, List.set_cons_zero, List.set_cons_succ]
  refine wpAnyH_ready (rs := [24]) (by kernel_rfl) (by simp) (AllReadyH.cons (o := _) (by rw [List.getElem?_toArray]; rfl) (fun K hK => ?_) AllReadyH.nil)
  go_simp
  go_at_call 8
  refine (example_any _).mono ?_
  rintro e wb ⟨rfl, hBb⟩
  refine hK.out _ _ (⟨hHeld.1.trans (hBb.mono (by have := hHeld.2.1; omega)), Nat.le_trans hHeld.2.1 hBb.size, hHeld.2.2.keep hBb⟩) (fun hHeld2 => ?_)
  replace hHeld := hHeld2
  clear hK K hHeld2
  try simp only [Act.put, List.setIfInBounds_toArray, List.set_cons_zero, List.set_cons_succ]
  refine wpAnyH_take (i := 25) (oi := _) (v := ?_) (by rw [List.getElem?_toArray]; rfl) (by kernel_rfl) (by kernel_rfl) (by kernel_rfl) (by exact fun _ _ _ h => h) (Or.inl ⟨by rfl, ?_⟩) (by assumption) ?_
  rotate_left
  · intro w hSw
    try simp only [Cells, blk, List.cons_append, List.nil_append, and_true, Nat.reduceAdd, Nat.add_zero, Nat.zero_add] at hSw
    go_simp
    try with_reducible rfl
  simp only [Act.put, List.setIfInBounds_toArray, List.set_cons_zero, List.set_cons_succ]
  refine wpAnyH_take (i := 26) (oi := _) (v := ?_) (by rw [List.getElem?_toArray]; rfl) (by kernel_rfl) (by kernel_rfl) (by kernel_rfl) (by exact fun _ _ _ h => h) (Or.inl ⟨by rfl, ?_⟩) (by assumption) ?_
  rotate_left
  · intro w hSw
    try simp only [Cells, blk, List.cons_append, List.nil_append, and_true, Nat.reduceAdd, Nat.add_zero, Nat.zero_add] at hSw
    go_simp
    try with_reducible rfl
  simp only [Act.put, List.setIfInBounds_toArray, List.set_cons_zero, List.set_cons_succ]
  refine wpAnyH_done (by kernel_rfl) ?_ _
  go_wp2
  go_ret
  exact ⟨rfl, hB.trans (hHeld.1.mono hB.size)⟩
end Go.Proofs.Yteblimdbkiiaaaa
