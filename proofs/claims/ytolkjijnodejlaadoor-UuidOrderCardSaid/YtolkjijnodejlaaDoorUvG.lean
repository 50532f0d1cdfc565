/- uuid: the walk of UuidOrder. -/
import Derived.Test.YtolkjijnodejlaaDoorUvF
namespace Go.Proofs.YtolkjijnodejlaaDoor
open Go.RowKit

set_option linter.unusedSimpArgs false in
set_option linter.unusedVariables false in
set_option maxRecDepth 100000 in
set_option maxHeartbeats 4000000 in
theorem uuidOrder_walk (v0 v1 v2 v3 v4 : Value) (w : World) (a0 : Arg Tryd.prog w 25 v0) (a1 : Arg Tryd.prog w 25 v1) (a2 : Arg Tryd.prog w 25 v2) (a3 : Arg Tryd.prog w 22 v3) (a4 : Arg Tryd.prog w 22 v4) (M : Int) (hM : w.cell? ⟨0, 0, none⟩ = some (.int .i64 M)) :
    Calls Tryd.prog 8 #[v0, v1, v2, v3, v4] w fun e w' => e = .returned (.bool true) ∧ Below w.heap.size w w' := by
  obtain ⟨ah', al', rfl, _, _⟩ := arg_uuid a0
  obtain ⟨bh', bl', rfl, _, _⟩ := arg_uuid a1
  obtain ⟨ch', cl', rfl, _, _⟩ := arg_uuid a2
  obtain ⟨n, rfl, hn⟩ := a3.u16 Tryd.underlying22
  obtain ⟨m, rfl, hm⟩ := a4.u16 Tryd.underlying22
  obtain ⟨ah, hah⟩ : ∃ x : Int, (ah' : Int) = x := ⟨_, rfl⟩
  obtain ⟨al, hal⟩ : ∃ x : Int, (al' : Int) = x := ⟨_, rfl⟩
  obtain ⟨bh, hbh⟩ : ∃ x : Int, (bh' : Int) = x := ⟨_, rfl⟩
  obtain ⟨bl, hbl⟩ : ∃ x : Int, (bl' : Int) = x := ⟨_, rfl⟩
  obtain ⟨ch, hch⟩ : ∃ x : Int, (ch' : Int) = x := ⟨_, rfl⟩
  obtain ⟨cl, hcl⟩ : ∃ x : Int, (cl' : Int) = x := ⟨_, rfl⟩
  rw [hah, hal, hbh, hbl, hch, hcl]
  clear a0 a1 a2 a3 a4 hah hal hbh hbl hch hcl
  have hcs := cmpN_cases ah al bh bl
  have htr := cmpN_trans ah al bh bl ch cl
  have hys := cmpN_short n m 9223372588214596859
  have h1 := fun W => compare_any ah al bh bl W
  have h2 := fun W => compare_any bh bl ah al W
  rw [cmpN_flip ah al bh bl] at h2
  have h3 := fun W => compare_any bh bl ch cl W
  have h4 := fun W => compare_any ah al ch cl W
  have h5 := fun W => short_any n hn W
  have h6 := fun W => short_any m hm W
  have h7 := fun W => compare_any ((n : Int) * 4294967296 + 4096) 9223372588214596859 ((m : Int) * 4294967296 + 4096) 9223372588214596859 W
  rw [hys] at h7
  obtain ⟨c1, hc1⟩ : ∃ x, cmpN ah al bh bl = x := ⟨_, rfl⟩
  obtain ⟨d, hd⟩ : ∃ x, cmpN bh bl ch cl = x := ⟨_, rfl⟩
  obtain ⟨f, hf⟩ : ∃ x, cmpN ah al ch cl = x := ⟨_, rfl⟩
  obtain ⟨y, hy⟩ : ∃ x : Int, (if n < m then -1 else if m < n then 1 else 0) = x := ⟨_, rfl⟩
  have hy1 : decide (y < 0) = decide ((n : Int) < (m : Int)) := by rw [← hy]; split <;> (try split) <;> simp <;> omega
  have hy2 : (y == 0) = ((n : Int) == (m : Int)) := by
    rw [← hy, Bool.eq_iff_iff]
    split <;> (try split) <;> simp <;> omega
  simp only [hc1, hd, hf] at hcs htr h1 h2 h3 h4
  simp only [hy] at h7
  obtain ⟨SN, hSN⟩ : ∃ x : Int, (n : Int) * 4294967296 + 4096 = x := ⟨_, rfl⟩
  obtain ⟨SM, hSM⟩ : ∃ x : Int, (m : Int) * 4294967296 + 4096 = x := ⟨_, rfl⟩
  obtain ⟨SL, hSL⟩ : ∃ x : Int, (9223372588214596859 : Int) = x := ⟨_, rfl⟩
  simp only [hSN, hSM, hSL] at h5 h6 h7
  have w1 : IntKind.i64.wrap (- -c1) = c1 := by rw [Int.neg_neg]; exact IntWalk.i64_in _ (by omega)
  have w1' : IntKind.i64.wrap c1 = c1 := IntWalk.i64_in _ (by omega)
  have T0 := cells_new w [.int .u64 ah, .int .u64 al] 25
  have T1 := cells_new (w.alloc (.cells #[.int .u64 ah, .int .u64 al] 25)) [.int .u64 bh, .int .u64 bl] 25
  have T2 := cells_new ((w.alloc (.cells #[.int .u64 ah, .int .u64 al] 25)).alloc (.cells #[.int .u64 bh, .int .u64 bl] 25)) [.int .u64 ch, .int .u64 cl] 25
  have T := (((T0.keep ((Below.refl _ _).alloc (Nat.le_refl _) _)).app T1).keep ((Below.refl _ _).alloc (Nat.le_refl _) _)).app T2
  have hB : Below w.heap.size w (((w.alloc (.cells #[.int .u64 ah, .int .u64 al] 25)).alloc (.cells #[.int .u64 bh, .int .u64 bl] 25)).alloc (.cells #[.int .u64 ch, .int .u64 cl] 25)) := (((Below.refl _ _).alloc (Nat.le_refl _) _).alloc (by simp) _).alloc (by simp; omega) _
  simp only [World.size_alloc] at T
  have H1 := Lib.hid h1
  have H2 := Lib.hid h2
  have H3 := Lib.hid h3
  have H4 := Lib.hid h4
  have H5 := Lib.hid h5
  have H6 := Lib.hid h6
  have H7 := Lib.hid h7
  have HCS := Lib.hid hcs
  have HTR := Lib.hid htr
  have HY1 := Lib.hid hy1
  have HY2 := Lib.hid hy2
  clear T0 T1 T2 h1 h2 h3 h4 h5 h6 h7 hcs htr hys hy1 hy2 hc1 hd hf hy hSN hSM hSL hn hm
  go_enter Tryd.func8, Tryd.ntmps8
  go_upto_region 1 with fail
  generalize hV : World.alloc _ _ = V at T hB ⊢
  clear hV
  have HM := Lib.hid (kc hM hB)
  have HT := Lib.hid T
  clear hM T
  have hOpen := HT.out
  simp only [Cells, blk, List.cons_append, List.nil_append, and_true, Nat.reduceAdd, Nat.add_zero, Nat.zero_add] at hOpen
  obtain ⟨m0, m1, m2, m3, m4, m5⟩ := hOpen
  go_wp2_with fail
  go_at_call 23
  refine (H1.out _).mono ?_
  rintro e x1 ⟨rfl, hB1⟩
  clear m0 m1 m2 m3 m4 m5
  have T1 := HT.out.keep hB1
  have hOpen := T1
  simp only [Cells, blk, List.cons_append, List.nil_append, and_true, Nat.reduceAdd, Nat.add_zero, Nat.zero_add] at hOpen
  obtain ⟨m0, m1, m2, m3, m4, m5⟩ := hOpen
  clear T1
  go_wp2_with fail
  go_at_call 23
  refine (H2.out _).mono ?_
  rintro e x2 ⟨rfl, hB2⟩
  have hV2 := hB1.trans (hB2.mono hB1.size)
  clear m0 m1 m2 m3 m4 m5 hB1 hB2
  have T1 := HT.out.keep hV2
  have hOpen := T1
  simp only [Cells, blk, List.cons_append, List.nil_append, and_true, Nat.reduceAdd, Nat.add_zero, Nat.zero_add] at hOpen
  obtain ⟨m0, m1, m2, m3, m4, m5⟩ := hOpen
  clear T1
  have hcs := HCS.out
  rcases hcs with ⟨g, rfl⟩ | ⟨g, rfl⟩ | ⟨rfl, g, rfl⟩ | ⟨rfl, g, rfl⟩ | ⟨rfl, rfl, rfl⟩
  · have e1 : (ah == bh) = false := by simp; omega
    have e2 : ¬ ah = bh := by omega
    go_wp2_with fail
    go_at_call 23
    refine (H3.out _).mono ?_
    rintro e x3 ⟨rfl, hB3⟩
    have hV3 := hV2.trans (hB3.mono hV2.size)
    clear m0 m1 m2 m3 m4 m5 hB3
    have T1 := HT.out.keep hV3
    have hOpen := T1
    simp only [Cells, blk, List.cons_append, List.nil_append, and_true, Nat.reduceAdd, Nat.add_zero, Nat.zero_add] at hOpen
    obtain ⟨m0, m1, m2, m3, m4, m5⟩ := hOpen
    clear T1
    by_cases hd : d ≤ 0
    · have gd : decide (d ≤ 0) = true := by simpa using hd
      have hf0 : f ≤ 0 := HTR.out (by decide) hd
      have gf : decide (0 < f) = false := by simp; omega
      clear hf0
      go_wp2_with fail
      go_at_call 23
      refine (H4.out _).mono ?_
      rintro e x4 ⟨rfl, hB4⟩
      have hV4 := hV3.trans (hB4.mono hV3.size)
      clear hB4
      clear m0 m1 m2 m3 m4 m5
      go_wp2_with fail
      go_at_call 11
      refine (H5.out _).mono ?_
      rintro e x5 ⟨rfl, hB5⟩
      have hV5 := hV4.trans (hB5.mono hV4.size)
      go_wp2_with fail
      go_at_call 11
      refine (H6.out _).mono ?_
      rintro e x6 ⟨rfl, hB6⟩
      have hV6 := hV5.trans (hB6.mono hV5.size)
      go_wp2_with fail
      go_at_call 23
      refine (H7.out _).mono ?_
      rintro e x7 ⟨rfl, hB7⟩
      have hV7 := hV6.trans (hB7.mono hV6.size)
      clear hB5 hB6 hB7 hV5 hV6
      have hy1 := HY1.out
      have hy2 := HY2.out
      obtain ⟨s, hs⟩ : ∃ s, decide ((n : Int) < (m : Int)) = s := ⟨_, rfl⟩
      obtain ⟨t, ht⟩ : ∃ t, ((n : Int) == (m : Int)) = t := ⟨_, rfl⟩
      have hs' : decide (n < m) = s := by rw [← hs]; simp
      have ht' : (n == m) = t := by rw [← ht, Bool.eq_iff_iff]; simp; omega
      rw [hs] at hy1
      rw [ht] at hy2
      go_wp2_with fail
      go_at_call 13
      refine (example_any M _ (kc HM.out hV7)).mono ?_
      rintro e x8 ⟨rfl, hB8⟩
      go_wp2
      go_ret
      exact ⟨rfl, hB.trans ((hV7.trans (hB8.mono hV7.size)).mono hB.size)⟩
    · have gd : decide (d ≤ 0) = false := by simpa using hd
      clear m0 m1 m2 m3 m4 m5
      go_wp2_with fail
      go_at_call 11
      refine (H5.out _).mono ?_
      rintro e x5 ⟨rfl, hB5⟩
      have hV5 := hV3.trans (hB5.mono hV3.size)
      go_wp2_with fail
      go_at_call 11
      refine (H6.out _).mono ?_
      rintro e x6 ⟨rfl, hB6⟩
      have hV6 := hV5.trans (hB6.mono hV5.size)
      go_wp2_with fail
      go_at_call 23
      refine (H7.out _).mono ?_
      rintro e x7 ⟨rfl, hB7⟩
      have hV7 := hV6.trans (hB7.mono hV6.size)
      clear hB5 hB6 hB7 hV5 hV6
      have hy1 := HY1.out
      have hy2 := HY2.out
      obtain ⟨s, hs⟩ : ∃ s, decide ((n : Int) < (m : Int)) = s := ⟨_, rfl⟩
      obtain ⟨t, ht⟩ : ∃ t, ((n : Int) == (m : Int)) = t := ⟨_, rfl⟩
      have hs' : decide (n < m) = s := by rw [← hs]; simp
      have ht' : (n == m) = t := by rw [← ht, Bool.eq_iff_iff]; simp; omega
      rw [hs] at hy1
      rw [ht] at hy2
      go_wp2_with fail
      go_at_call 13
      refine (example_any M _ (kc HM.out hV7)).mono ?_
      rintro e x8 ⟨rfl, hB8⟩
      go_wp2
      go_ret
      exact ⟨rfl, hB.trans ((hV7.trans (hB8.mono hV7.size)).mono hB.size)⟩
  · have e1 : (ah == bh) = false := by simp; omega
    have e2 : ¬ ah = bh := by omega
    go_wp2_with fail
    go_at_call 11
    refine (H5.out _).mono ?_
    rintro e x5 ⟨rfl, hB5⟩
    have hV5 := hV2.trans (hB5.mono hV2.size)
    go_wp2_with fail
    go_at_call 11
    refine (H6.out _).mono ?_
    rintro e x6 ⟨rfl, hB6⟩
    have hV6 := hV5.trans (hB6.mono hV5.size)
    go_wp2_with fail
    go_at_call 23
    refine (H7.out _).mono ?_
    rintro e x7 ⟨rfl, hB7⟩
    have hV7 := hV6.trans (hB7.mono hV6.size)
    clear hB5 hB6 hB7 hV5 hV6
    have hy1 := HY1.out
    have hy2 := HY2.out
    obtain ⟨s, hs⟩ : ∃ s, decide ((n : Int) < (m : Int)) = s := ⟨_, rfl⟩
    obtain ⟨t, ht⟩ : ∃ t, ((n : Int) == (m : Int)) = t := ⟨_, rfl⟩
    have hs' : decide (n < m) = s := by rw [← hs]; simp
    have ht' : (n == m) = t := by rw [← ht, Bool.eq_iff_iff]; simp; omega
    rw [hs] at hy1
    rw [ht] at hy2
    go_wp2_with fail
    go_at_call 13
    refine (example_any M _ (kc HM.out hV7)).mono ?_
    rintro e x8 ⟨rfl, hB8⟩
    go_wp2
    go_ret
    exact ⟨rfl, hB.trans ((hV7.trans (hB8.mono hV7.size)).mono hB.size)⟩
  · have e1 : (al == bl) = false := by simp; omega
    have e2 : ¬ al = bl := by omega
    go_wp2_with fail
    go_at_call 23
    refine (H3.out _).mono ?_
    rintro e x3 ⟨rfl, hB3⟩
    have hV3 := hV2.trans (hB3.mono hV2.size)
    clear m0 m1 m2 m3 m4 m5 hB3
    have T1 := HT.out.keep hV3
    have hOpen := T1
    simp only [Cells, blk, List.cons_append, List.nil_append, and_true, Nat.reduceAdd, Nat.add_zero, Nat.zero_add] at hOpen
    obtain ⟨m0, m1, m2, m3, m4, m5⟩ := hOpen
    clear T1
    by_cases hd : d ≤ 0
    · have gd : decide (d ≤ 0) = true := by simpa using hd
      have hf0 : f ≤ 0 := HTR.out (by decide) hd
      have gf : decide (0 < f) = false := by simp; omega
      clear hf0
      go_wp2_with fail
      go_at_call 23
      refine (H4.out _).mono ?_
      rintro e x4 ⟨rfl, hB4⟩
      have hV4 := hV3.trans (hB4.mono hV3.size)
      clear hB4
      clear m0 m1 m2 m3 m4 m5
      go_wp2_with fail
      go_at_call 11
      refine (H5.out _).mono ?_
      rintro e x5 ⟨rfl, hB5⟩
      have hV5 := hV4.trans (hB5.mono hV4.size)
      go_wp2_with fail
      go_at_call 11
      refine (H6.out _).mono ?_
      rintro e x6 ⟨rfl, hB6⟩
      have hV6 := hV5.trans (hB6.mono hV5.size)
      go_wp2_with fail
      go_at_call 23
      refine (H7.out _).mono ?_
      rintro e x7 ⟨rfl, hB7⟩
      have hV7 := hV6.trans (hB7.mono hV6.size)
      clear hB5 hB6 hB7 hV5 hV6
      have hy1 := HY1.out
      have hy2 := HY2.out
      obtain ⟨s, hs⟩ : ∃ s, decide ((n : Int) < (m : Int)) = s := ⟨_, rfl⟩
      obtain ⟨t, ht⟩ : ∃ t, ((n : Int) == (m : Int)) = t := ⟨_, rfl⟩
      have hs' : decide (n < m) = s := by rw [← hs]; simp
      have ht' : (n == m) = t := by rw [← ht, Bool.eq_iff_iff]; simp; omega
      rw [hs] at hy1
      rw [ht] at hy2
      go_wp2_with fail
      go_at_call 13
      refine (example_any M _ (kc HM.out hV7)).mono ?_
      rintro e x8 ⟨rfl, hB8⟩
      go_wp2
      go_ret
      exact ⟨rfl, hB.trans ((hV7.trans (hB8.mono hV7.size)).mono hB.size)⟩
    · have gd : decide (d ≤ 0) = false := by simpa using hd
      clear m0 m1 m2 m3 m4 m5
      go_wp2_with fail
      go_at_call 11
      refine (H5.out _).mono ?_
      rintro e x5 ⟨rfl, hB5⟩
      have hV5 := hV3.trans (hB5.mono hV3.size)
      go_wp2_with fail
      go_at_call 11
      refine (H6.out _).mono ?_
      rintro e x6 ⟨rfl, hB6⟩
      have hV6 := hV5.trans (hB6.mono hV5.size)
      go_wp2_with fail
      go_at_call 23
      refine (H7.out _).mono ?_
      rintro e x7 ⟨rfl, hB7⟩
      have hV7 := hV6.trans (hB7.mono hV6.size)
      clear hB5 hB6 hB7 hV5 hV6
      have hy1 := HY1.out
      have hy2 := HY2.out
      obtain ⟨s, hs⟩ : ∃ s, decide ((n : Int) < (m : Int)) = s := ⟨_, rfl⟩
      obtain ⟨t, ht⟩ : ∃ t, ((n : Int) == (m : Int)) = t := ⟨_, rfl⟩
      have hs' : decide (n < m) = s := by rw [← hs]; simp
      have ht' : (n == m) = t := by rw [← ht, Bool.eq_iff_iff]; simp; omega
      rw [hs] at hy1
      rw [ht] at hy2
      go_wp2_with fail
      go_at_call 13
      refine (example_any M _ (kc HM.out hV7)).mono ?_
      rintro e x8 ⟨rfl, hB8⟩
      go_wp2
      go_ret
      exact ⟨rfl, hB.trans ((hV7.trans (hB8.mono hV7.size)).mono hB.size)⟩
  · have e1 : (al == bl) = false := by simp; omega
    have e2 : ¬ al = bl := by omega
    go_wp2_with fail
    go_at_call 11
    refine (H5.out _).mono ?_
    rintro e x5 ⟨rfl, hB5⟩
    have hV5 := hV2.trans (hB5.mono hV2.size)
    go_wp2_with fail
    go_at_call 11
    refine (H6.out _).mono ?_
    rintro e x6 ⟨rfl, hB6⟩
    have hV6 := hV5.trans (hB6.mono hV5.size)
    go_wp2_with fail
    go_at_call 23
    refine (H7.out _).mono ?_
    rintro e x7 ⟨rfl, hB7⟩
    have hV7 := hV6.trans (hB7.mono hV6.size)
    clear hB5 hB6 hB7 hV5 hV6
    have hy1 := HY1.out
    have hy2 := HY2.out
    obtain ⟨s, hs⟩ : ∃ s, decide ((n : Int) < (m : Int)) = s := ⟨_, rfl⟩
    obtain ⟨t, ht⟩ : ∃ t, ((n : Int) == (m : Int)) = t := ⟨_, rfl⟩
    have hs' : decide (n < m) = s := by rw [← hs]; simp
    have ht' : (n == m) = t := by rw [← ht, Bool.eq_iff_iff]; simp; omega
    rw [hs] at hy1
    rw [ht] at hy2
    go_wp2_with fail
    go_at_call 13
    refine (example_any M _ (kc HM.out hV7)).mono ?_
    rintro e x8 ⟨rfl, hB8⟩
    go_wp2
    go_ret
    exact ⟨rfl, hB.trans ((hV7.trans (hB8.mono hV7.size)).mono hB.size)⟩
  · skip
    go_wp2_with fail
    go_at_call 23
    refine (H3.out _).mono ?_
    rintro e x3 ⟨rfl, hB3⟩
    have hV3 := hV2.trans (hB3.mono hV2.size)
    clear m0 m1 m2 m3 m4 m5 hB3
    have T1 := HT.out.keep hV3
    have hOpen := T1
    simp only [Cells, blk, List.cons_append, List.nil_append, and_true, Nat.reduceAdd, Nat.add_zero, Nat.zero_add] at hOpen
    obtain ⟨m0, m1, m2, m3, m4, m5⟩ := hOpen
    clear T1
    by_cases hd : d ≤ 0
    · have gd : decide (d ≤ 0) = true := by simpa using hd
      have hf0 : f ≤ 0 := HTR.out (by decide) hd
      have gf : decide (0 < f) = false := by simp; omega
      clear hf0
      go_wp2_with fail
      go_at_call 23
      refine (H4.out _).mono ?_
      rintro e x4 ⟨rfl, hB4⟩
      have hV4 := hV3.trans (hB4.mono hV3.size)
      clear hB4
      clear m0 m1 m2 m3 m4 m5
      go_wp2_with fail
      go_at_call 11
      refine (H5.out _).mono ?_
      rintro e x5 ⟨rfl, hB5⟩
      have hV5 := hV4.trans (hB5.mono hV4.size)
      go_wp2_with fail
      go_at_call 11
      refine (H6.out _).mono ?_
      rintro e x6 ⟨rfl, hB6⟩
      have hV6 := hV5.trans (hB6.mono hV5.size)
      go_wp2_with fail
      go_at_call 23
      refine (H7.out _).mono ?_
      rintro e x7 ⟨rfl, hB7⟩
      have hV7 := hV6.trans (hB7.mono hV6.size)
      clear hB5 hB6 hB7 hV5 hV6
      have hy1 := HY1.out
      have hy2 := HY2.out
      obtain ⟨s, hs⟩ : ∃ s, decide ((n : Int) < (m : Int)) = s := ⟨_, rfl⟩
      obtain ⟨t, ht⟩ : ∃ t, ((n : Int) == (m : Int)) = t := ⟨_, rfl⟩
      have hs' : decide (n < m) = s := by rw [← hs]; simp
      have ht' : (n == m) = t := by rw [← ht, Bool.eq_iff_iff]; simp; omega
      rw [hs] at hy1
      rw [ht] at hy2
      go_wp2_with fail
      go_at_call 13
      refine (example_any M _ (kc HM.out hV7)).mono ?_
      rintro e x8 ⟨rfl, hB8⟩
      go_wp2
      go_ret
      exact ⟨rfl, hB.trans ((hV7.trans (hB8.mono hV7.size)).mono hB.size)⟩
    · have gd : decide (d ≤ 0) = false := by simpa using hd
      clear m0 m1 m2 m3 m4 m5
      go_wp2_with fail
      go_at_call 11
      refine (H5.out _).mono ?_
      rintro e x5 ⟨rfl, hB5⟩
      have hV5 := hV3.trans (hB5.mono hV3.size)
      go_wp2_with fail
      go_at_call 11
      refine (H6.out _).mono ?_
      rintro e x6 ⟨rfl, hB6⟩
      have hV6 := hV5.trans (hB6.mono hV5.size)
      go_wp2_with fail
      go_at_call 23
      refine (H7.out _).mono ?_
      rintro e x7 ⟨rfl, hB7⟩
      have hV7 := hV6.trans (hB7.mono hV6.size)
      clear hB5 hB6 hB7 hV5 hV6
      have hy1 := HY1.out
      have hy2 := HY2.out
      obtain ⟨s, hs⟩ : ∃ s, decide ((n : Int) < (m : Int)) = s := ⟨_, rfl⟩
      obtain ⟨t, ht⟩ : ∃ t, ((n : Int) == (m : Int)) = t := ⟨_, rfl⟩
      have hs' : decide (n < m) = s := by rw [← hs]; simp
      have ht' : (n == m) = t := by rw [← ht, Bool.eq_iff_iff]; simp; omega
      rw [hs] at hy1
      rw [ht] at hy2
      go_wp2_with fail
      go_at_call 13
      refine (example_any M _ (kc HM.out hV7)).mono ?_
      rintro e x8 ⟨rfl, hB8⟩
      go_wp2
      go_ret
      exact ⟨rfl, hB.trans ((hV7.trans (hB8.mono hV7.size)).mono hB.size)⟩
end Go.Proofs.YtolkjijnodejlaaDoor
