/- attpdu: AttpduChecks. -/
import Derived.Test.YthnffdlnhfhabaaAuF
import Derived.Test.YthnffdlnhfhabaaAuE
import Derived.Test.YthnffdlnhfhabaaAtX
namespace Go.Proofs.Ythnffdlnhfhabaa
open Go.RowKit

set_option linter.unusedSimpArgs false in
set_option linter.unusedVariables false in
set_option maxRecDepth 100000 in
set_option maxHeartbeats 4000000 in
theorem attpduChecks_walk (v0 : Value) (w : World) (a0 : Arg Try.prog w 29 v0) :
    Calls Try.prog 3 #[v0] w fun e w' => e = .returned (.bool true) ∧ Below w.heap.size w w' := by
  obtain ⟨P⟩ := arg_pdu a0
  obtain ⟨ki, ak, ha, la, hi, lo, of, mt, co, cm, a1, n, c, a2, m, d, bs, its, rfl, hval, hlen, hits, hha, hla, hhi, hlo, hki⟩ := P
  have hn : n ≤ 140737488355328 := by have := hval.2.1; unfold reachBytes at this; omega
  have hB := (Below.refl w.heap.size w).alloc (Nat.le_refl _) (.cells #[.int .i64 ki, .int .i64 ak, .int .u16 ha, .int .u16 la, .int .u64 hi, .int .u64 lo, .int .i64 of, .int .i64 mt, .int .i64 co, .bool cm, .slice a1 n c, .slice a2 m d] 29)
  have T0 := cells_new w [.int .i64 ki, .int .i64 ak, .int .u16 ha, .int .u16 la, .int .u64 hi, .int .u64 lo, .int .i64 of, .int .i64 mt, .int .i64 co, .bool cm, .slice a1 n c, .slice a2 m d] 29
  have hli := fun W (hW : Below w.heap.size w W) => light_any ki ak ha la hi lo of mt co cm a1 a2 n c m d its W (hits.below hW) hn
  have HLI := Lib.hid hli
  have HITS := Lib.hid hits
  have HVAL := Lib.hid hval
  have HLEN := Lib.hid hlen
  clear a0 hli hits hval hlen hki
  go_enter Try.func3, Try.ntmps3
  go_upto_region 1 with fail
  generalize World.alloc _ _ = V at T0 hB ⊢
  have HT0 := Lib.hid T0
  have hOpen := T0
  simp only [Cells, blk, List.cons_append, List.nil_append, and_true, Nat.reduceAdd, Nat.add_zero, Nat.zero_add] at hOpen
  obtain ⟨y0, y1, y2, y3, y4, y5, y6, y7, y8, y9, yA, yB⟩ := hOpen
  clear T0
  go_wp2_with fail
  refine (HLI.out _ hB).mono ?_
  rintro e w1 ⟨b, rfl, hlight, hB1⟩
  have hBw := hB.trans (hB1.mono hB.size)
  have HT1 := Lib.hid (HT0.out.keep hB1)
  clear hB1 y0 y1 y2 y3 y4 y5 y6 y7 y8 y9 yA yB HT0 HLI hB
  have TP := HT1.out
  have hOpen := TP
  simp only [Cells, blk, List.cons_append, List.nil_append, and_true, Nat.reduceAdd, Nat.add_zero, Nat.zero_add] at hOpen
  obtain ⟨y0, y1, y2, y3, y4, y5, y6, y7, y8, y9, yA, yB⟩ := hOpen
  clear TP
  cases b
  · clear hlight
    go_wp2_with fail
    refine (example_any _).mono ?_
    rintro e w2 ⟨rfl, hB2⟩
    have hBf := hBw.trans (hB2.mono hBw.size)
    clear hB2
    go_wp2
    go_ret
    exact ⟨rfl, hBf⟩
  · obtain ⟨hm3, hn4, hbn4⟩ := hlight rfl
    have hbn : ∀ t ∈ its, t.n ≤ 1000000 := fun t ht => by have := hbn4 t ht; omega
    have hbn' : ∀ t ∈ its, t.n ≤ 1099511627776 := fun t ht => by have := hbn4 t ht; omega
    have h1 := fun W (hW : Below w.heap.size w W) => check_any ki ak ha la hi lo of mt co cm a1 a2 n c m d its W (HITS.out.below hW) (by omega) hbn'
    have h2 := fun W (hW : Below w.heap.size w W) => rchk_any ki ak ha la hi lo of mt co cm a1 a2 n c m d its W (HITS.out.below hW) (by omega) hbn
    generalize chkP ki ak ha la hi lo of mt co cm n m its = CK at h1 h2
    have H1 := Lib.hid h1
    have H2 := Lib.hid h2
    have HBW := Lib.hid hBw
    clear h1 h2 hm3 hn4 hbn4 hbn hbn' hlight hBw
    go_upto_region 3 with fail
    refine wp_region_held_drew (S := (fun W' : World => Below w.heap.size w W' ∧ w1.heap.size ≤ W'.heap.size ∧ Cells W' (blk w.heap.size 0 0 [.int .i64 ki, .int .i64 ak, .int .u16 ha, .int .u16 la, .int .u64 hi, .int .u64 lo, .int .i64 of, .int .i64 mt, .int .i64 co, .bool cm, .slice a1 n c, .slice a2 m d]))) (by kernel_rfl) (⟨HBW.out.drew, Nat.le_refl _, HT1.out.drew⟩) (fun hHeld => ?_)
    generalize World.drew _ = wd at hHeld ⊢
    have hz := hHeld.2.1
    refine wpAnyH_take (i := 0) (oi := _) (v := ?_) (by rw [List.getElem?_toArray]; rfl) (by kernel_rfl) (by kernel_rfl) (by kernel_rfl) (by exact fun _ _ _ h => h) (Or.inl ⟨by rfl, ?_⟩) (by assumption) ?_
    rotate_left
    · intro w hSw
      try simp only [Cells, blk, List.cons_append, List.nil_append, and_true, Nat.reduceAdd, Nat.add_zero, Nat.zero_add] at hSw
      go_simp
      try with_reducible rfl
    simp only [Act.put, List.setIfInBounds_toArray, List.set_cons_zero, List.set_cons_succ]
    refine wpAnyH_take (i := 2) (oi := _) (v := ?_) (by rw [List.getElem?_toArray]; rfl) (by kernel_rfl) (by kernel_rfl) (by kernel_rfl) (by exact fun _ _ _ h => h) (Or.inl ⟨by rfl, ?_⟩) (by assumption) ?_
    rotate_left
    · intro w hSw
      try simp only [Cells, blk, List.cons_append, List.nil_append, and_true, Nat.reduceAdd, Nat.add_zero, Nat.zero_add] at hSw
      go_simp
      try with_reducible rfl
    simp only [Act.put, List.setIfInBounds_toArray, List.set_cons_zero, List.set_cons_succ]
    refine wpAnyH_ready (rs := [1]) (by kernel_rfl) (by simp) (AllReadyH.cons (o := _) (by rw [List.getElem?_toArray]; rfl) (fun K hK => ?_) AllReadyH.nil)
    go_simp
    refine (H1.out _ hHeld.1).mono ?_
    rintro e wb ⟨rfl, hBb⟩
    refine hK.out _ _ (⟨hHeld.1.trans (hBb.mono hHeld.1.size), Nat.le_trans hHeld.2.1 hBb.size, hHeld.2.2.keep hBb⟩) (fun hHeld2 => ?_)
    replace hHeld := hHeld2
    clear hK K hHeld2
    try simp only [Act.put, List.setIfInBounds_toArray, List.set_cons_zero, List.set_cons_succ]
    refine wpAnyH_ready (rs := [3]) (by kernel_rfl) (by simp) (AllReadyH.cons (o := _) (by rw [List.getElem?_toArray]; rfl) (fun K hK => ?_) AllReadyH.nil)
    go_simp
    refine (H2.out _ hHeld.1).mono ?_
    rintro e wb ⟨rfl, hBb⟩
    refine hK.out _ _ (⟨hHeld.1.trans (hBb.mono hHeld.1.size), Nat.le_trans hHeld.2.1 hBb.size, hHeld.2.2.keep hBb⟩) (fun hHeld2 => ?_)
    replace hHeld := hHeld2
    clear hK K hHeld2
    try simp only [Act.put, List.setIfInBounds_toArray, List.set_cons_zero, List.set_cons_succ]
    refine wpAnyH_take (i := 4) (oi := _) (v := ?_) (by rw [List.getElem?_toArray]; rfl) (by kernel_rfl) (by kernel_rfl) (by kernel_rfl) (by exact fun _ _ _ h => h) (Or.inl ⟨by rfl, ?_⟩) (by assumption) ?_
    rotate_left
    · intro w hSw
      try simp only [Cells, blk, List.cons_append, List.nil_append, and_true, Nat.reduceAdd, Nat.add_zero, Nat.zero_add] at hSw
      go_simp
      try with_reducible rfl
    simp only [Act.put, List.setIfInBounds_toArray, List.set_cons_zero, List.set_cons_succ]
    refine wpAnyH_take (i := 5) (oi := _) (v := ?_) (by rw [List.getElem?_toArray]; rfl) (by kernel_rfl) (by kernel_rfl) (by kernel_rfl) (by exact fun _ _ _ h => h) (Or.inl ⟨by rfl, ?_⟩) (by assumption) ?_
    rotate_left
    · intro w hSw
      try simp only [Cells, blk, List.cons_append, List.nil_append, and_true, Nat.reduceAdd, Nat.add_zero, Nat.zero_add] at hSw
      go_simp
      try with_reducible rfl
    simp only [Act.put, List.setIfInBounds_toArray, List.set_cons_zero, List.set_cons_succ]
    refine wpAnyH_ready (rs := [6]) (by kernel_rfl) (by simp) (AllReadyH.cons (o := _) (by rw [List.getElem?_toArray]; rfl) (fun K hK => ?_) AllReadyH.nil)
    go_simp
    refine (example_any _).mono ?_
    rintro e wb ⟨rfl, hBb⟩
    refine hK.out _ _ (⟨hHeld.1.trans (hBb.mono hHeld.1.size), Nat.le_trans hHeld.2.1 hBb.size, hHeld.2.2.keep hBb⟩) (fun hHeld2 => ?_)
    replace hHeld := hHeld2
    clear hK K hHeld2
    try simp only [Act.put, List.setIfInBounds_toArray, List.set_cons_zero, List.set_cons_succ]
    refine wpAnyH_take (i := 7) (oi := _) (v := ?_) (by rw [List.getElem?_toArray]; rfl) (by kernel_rfl) (by kernel_rfl) (by kernel_rfl) (by exact fun _ _ _ h => h) (Or.inl ⟨by rfl, ?_⟩) (by assumption) ?_
    rotate_left
    · intro w hSw
      try simp only [Cells, blk, List.cons_append, List.nil_append, and_true, Nat.reduceAdd, Nat.add_zero, Nat.zero_add] at hSw
      go_simp
      try with_reducible rfl
    simp only [Act.put, List.setIfInBounds_toArray, List.set_cons_zero, List.set_cons_succ]
    refine wpAnyH_take (i := 8) (oi := _) (v := ?_) (by rw [List.getElem?_toArray]; rfl) (by kernel_rfl) (by kernel_rfl) (by kernel_rfl) (by exact fun _ _ _ h => h) (Or.inl ⟨by rfl, ?_⟩) (by assumption) ?_
    rotate_left
    · intro w hSw
      try simp only [Cells, blk, List.cons_append, List.nil_append, and_true, Nat.reduceAdd, Nat.add_zero, Nat.zero_add] at hSw
      go_simp
      try with_reducible rfl
    simp only [Act.put, List.setIfInBounds_toArray, List.set_cons_zero, List.set_cons_succ]
    refine wpAnyH_done (by kernel_rfl) ?_ _
    go_wp2
    go_ret
    exact ⟨rfl, hHeld.1⟩
end Go.Proofs.Ythnffdlnhfhabaa
