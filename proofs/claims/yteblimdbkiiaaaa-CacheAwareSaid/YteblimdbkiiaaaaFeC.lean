/- cache: the walks of CacheAware and CacheUses. -/
import Derived.Test.YteblimdbkiiaaaaFeB
namespace Go.Proofs.Yteblimdbkiiaaaa
open Go.RowKit

set_option linter.unusedSimpArgs false in
set_option linter.unusedVariables false in
set_option maxRecDepth 100000 in
set_option maxHeartbeats 4000000 in
theorem cacheAware_walk (v0 v1 v2 : Value) (w : World) (a0 : Arg Try.prog w 3 v0) (a1 : Arg Try.prog w 4 v1) (a2 : Arg Try.prog w 4 v2) :
    Calls Try.prog 5 #[v0, v1, v2] w fun e w' => e = .returned (.bool true) ∧ Below w.heap.size w w' := by
  obtain ⟨ph, rfl, _⟩ := a0.i64 Try.underlying3
  obtain ⟨b1, rfl⟩ := a1.bool Try.underlying4
  obtain ⟨b2, rfl⟩ := a2.bool Try.underlying4
  have h1 := fun W => aware_any ph b1 W
  have h2 := fun W => raware_any ph b1 W
  obtain ⟨x, hx⟩ : ∃ x, ((ph == 0) && !b1) = x := ⟨_, rfl⟩
  simp only [hx] at h1 h2
  obtain ⟨q, hq⟩ : ∃ q : Int, (if x = true then 1 else 2) = q := ⟨_, rfl⟩
  have hq0 : (q == 0) = false := by rw [← hq]; cases x <;> rfl
  rw [hq] at h1 h2
  have h3 := fun W => aware_any q b2 W
  simp only [hq0, Bool.false_and] at h3
  have H1 := Lib.hid h1
  have H2 := Lib.hid h2
  have H3 := Lib.hid h3
  clear h1 h2 h3 hx hq hq0
  go_enter Try.func5, Try.ntmps5
  go_wp2_with fail
  go_at_call 20
  refine (H1.out _).mono ?_
  rintro e w1 ⟨rfl, hB1⟩
  go_wp2_with fail
  go_at_call 21
  refine (H2.out _).mono ?_
  rintro e w2 ⟨rfl, hB2⟩
  go_wp2_with fail
  go_at_call 20
  refine (H3.out _).mono ?_
  rintro e w3 ⟨rfl, hB3⟩
  have hB := hB1.trans ((hB2.trans (hB3.mono hB2.size)).mono hB1.size)
  clear hB1 hB2 hB3
  cases x
  all_goals
    go_wp2_with fail
    go_at_call 8
    refine (example_any _).mono ?_
    rintro e w4 ⟨rfl, hB4⟩
    go_wp2
    go_ret
    exact ⟨rfl, hB.trans (hB4.mono hB.size)⟩

set_option linter.unusedSimpArgs false in
set_option linter.unusedVariables false in
set_option maxRecDepth 100000 in
set_option maxHeartbeats 4000000 in
theorem cacheUses_walk (v0 v1 v2 v3 : Value) (w : World) (a0 : Arg Try.prog w 26 v0) (a1 : Arg Try.prog w 34 v1) (a2 : Arg Try.prog w 34 v2) (a3 : Arg Try.prog w 35 v3) :
    Calls Try.prog 4 #[v0, v1, v2, v3] w fun e w' => e = .returned (.bool true) ∧ Below w.heap.size w w' := by
  obtain ⟨c, hk, hl⟩ := arg_ca a0
  obtain ⟨sh, sl, rfl⟩ := arg_uuid a1
  obtain ⟨ch, cl, rfl⟩ := arg_uuid a2
  obtain ⟨va, rfl, _⟩ := a3.u16 Try.underlying35
  have hlen : ∃ a n cp, v0 = .agg #[.bool c.va, .int .u64 c.ha, .slice a n cp, .bool c.du] ∧ n = c.l.length := by
    obtain ⟨⟨fv, rfl, _, _, _, ao, cap, rfl, _⟩, _⟩ := hk
    exact ⟨_, _, _, rfl, rfl⟩
  obtain ⟨a, n, cp, rfl, hn⟩ := hlen
  obtain ⟨cva, cha, cl0, cdu⟩ := c
  simp only at hn hl
  have HK := Lib.hid hk
  have HN := Lib.hid hn
  have hnr : n ≤ 140737488351232 := by unfold reachBytes at hl; omega
  clear hk hn a0 a1 a2 a3 hl
  have T0 := cells_new w [.bool cva, .int .u64 cha, .slice a n cp, .bool cdu] 26
  have T1 := cells_new (w.alloc (.cells #[.bool cva, .int .u64 cha, .slice a n cp, .bool cdu] 26)) [.int .u64 sh, .int .u64 sl] 34
  have T2 := cells_new ((w.alloc (.cells #[.bool cva, .int .u64 cha, .slice a n cp, .bool cdu] 26)).alloc (.cells #[.int .u64 sh, .int .u64 sl] 34)) [.int .u64 ch, .int .u64 cl] 34
  have T := (((T0.keep ((Below.refl _ _).alloc (Nat.le_refl _) _)).app T1).keep ((Below.refl _ _).alloc (Nat.le_refl _) _)).app T2
  have hB : Below w.heap.size w (((w.alloc (.cells #[.bool cva, .int .u64 cha, .slice a n cp, .bool cdu] 26)).alloc (.cells #[.int .u64 sh, .int .u64 sl] 34)).alloc (.cells #[.int .u64 ch, .int .u64 cl] 34)) := (((Below.refl _ _).alloc (Nat.le_refl _) _).alloc (by simp) _).alloc (by simp; omega) _
  simp only [World.size_alloc] at T
  clear T0 T1 T2
  by_cases hbig : 300 < n
  · have g1 : decide (300 < n) = true := by simpa using hbig
    go_enter Try.func4, Try.ntmps4
    go_wp2_with fail
    go_at_call 8
    refine (example_any _).mono ?_
    rintro e w4 ⟨rfl, hB4⟩
    go_wp2
    go_ret
    exact ⟨rfl, hB.trans (hB4.mono hB.size)⟩
  · have g1 : decide (300 < n) = false := by simpa using hbig
    have HL : Hid (cl0.length ≤ 1000000) := Lib.hid (by rw [← HN.out]; omega)
    go_enter Try.func4, Try.ntmps4
    go_upto_region 3 with fail
    generalize hV : World.alloc _ _ = V at T hB ⊢
    clear hV
    have HK0 : Hid (CaK V (.agg #[.bool cva, .int .u64 cha, .slice a n cp, .bool cdu]) ⟨cva, cha, cl0, cdu⟩) := Lib.hid (HK.out.below hB)
    have HB := Lib.hid hB
    have HT := Lib.hid T
    have hOpen := T
    simp only [Cells, blk, List.cons_append, List.nil_append, and_true, Nat.reduceAdd, Nat.add_zero, Nat.zero_add] at hOpen
    obtain ⟨m0, m1, m2, m3, s0, s1, t0, t1⟩ := hOpen
    clear T hB
    go_wp2_with fail
    go_at_call 16
    refine (use_any _ ⟨cva, cha, cl0, cdu⟩ _ _ _ _ _ HK0.out.1 HL.out).mono ?_
    rintro e w1 ⟨rfl, hB1⟩
    have HT1 := Lib.hid (HT.out.keep hB1)
    clear m0 m1 m2 m3 s0 s1 t0 t1
    have hOpen := HT1.out
    simp only [Cells, blk, List.cons_append, List.nil_append, and_true, Nat.reduceAdd, Nat.add_zero, Nat.zero_add] at hOpen
    obtain ⟨m0, m1, m2, m3, s0, s1, t0, t1⟩ := hOpen
    go_wp2_with fail
    go_at_call 17
    refine (ruse_any _ ⟨cva, cha, cl0, cdu⟩ _ _ _ _ _ (HK0.out.1.below hB1) HL.out).mono ?_
    rintro e w2 ⟨rfl, hB2⟩
    have hB2' := hB1.trans (hB2.mono hB1.size)
    have HT2 := Lib.hid (HT.out.keep hB2')
    clear m0 m1 m2 m3 s0 s1 t0 t1 hB1 hB2
    have hOpen := HT2.out
    simp only [Cells, blk, List.cons_append, List.nil_append, and_true, Nat.reduceAdd, Nat.add_zero, Nat.zero_add] at hOpen
    obtain ⟨m0, m1, m2, m3, s0, s1, t0, t1⟩ := hOpen
    go_wp2_with fail
    go_at_call 18
    refine (cfg_any _ ⟨cva, cha, cl0, cdu⟩ _ _ (HK0.out.below hB2') HL.out).mono ?_
    rintro e w3 ⟨rfl, hB3⟩
    have hB3' := hB2'.trans (hB3.mono hB2'.size)
    have HT3 := Lib.hid (HT.out.keep hB3')
    clear m0 m1 m2 m3 s0 s1 t0 t1 hB2' hB3
    have hOpen := HT3.out
    simp only [Cells, blk, List.cons_append, List.nil_append, and_true, Nat.reduceAdd, Nat.add_zero, Nat.zero_add] at hOpen
    obtain ⟨m0, m1, m2, m3, s0, s1, t0, t1⟩ := hOpen
    go_wp2_with fail
    go_at_call 19
    refine (rcfg_any _ ⟨cva, cha, cl0, cdu⟩ _ _ (HK0.out.1.below hB3') HL.out).mono ?_
    rintro e w4 ⟨rfl, hB4⟩
    have hB4' := hB3'.trans (hB4.mono hB3'.size)
    clear m0 m1 m2 m3 s0 s1 t0 t1 hB3' hB4
    generalize useC _ _ _ _ _ = p
    generalize cfgC _ _ = q
    obtain ⟨p1, p2⟩ := p
    obtain ⟨q1, q2⟩ := q
    simp only
    go_wp2_with fail
    go_at_call 8
    refine (example_any _).mono ?_
    rintro e w5 ⟨rfl, hB5⟩
    go_wp2
    go_ret
    exact ⟨rfl, HB.out.trans ((hB4'.trans (hB5.mono hB4'.size)).mono HB.out.size)⟩
end Go.Proofs.Yteblimdbkiiaaaa
