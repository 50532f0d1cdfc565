/- capture: CaptureSelects. -/
import Derived.Test.YtccknpdnapoboaaDoorCqP
import Derived.Test.YtccknpdnapoboaaDoorCqS
import Derived.Test.YtccknpdnapoboaaDoorCqV
import Derived.Test.YtccknpdnapoboaaDoorCqX
namespace Go.Proofs.YtccknpdnapoboaaDoor
open Go.RowKit

theorem CpInv.cpsC {base e : Nat} {w : World} {out : Value} {ts : List Cp} {vs : List Value} (h : CpInv base e w out ts vs) : CpsC w out ts :=
  CpI.cpsC ⟨h.len, h.own, h.rd⟩
theorem arg_filter {w : World} {v : Value} (h : Arg Tryd.prog w 39 v) : ∃ x0 x1 x2 x3 x4 : Int, v = .agg #[.int .i64 x0, .int .i64 x1, .int .i64 x2, .int .i64 x3, .int .i64 x4] := by
  obtain ⟨cs, rfl, hl, hf⟩ := h.struct Tryd.underlying39
  rw [show Tryd.prog.cellsOf 39 = 5 by kernel_rfl] at hl
  obtain ⟨c0, c1, c2, c3, c4, rfl⟩ := list5 cs hl
  have f0 : Rd Tryd.prog w 3 (([c0, c1, c2, c3, c4].drop 0).take (Tryd.prog.cellsOf 3)) := hf 0 _ rfl
  have f1 : Rd Tryd.prog w 3 (([c0, c1, c2, c3, c4].drop 1).take (Tryd.prog.cellsOf 3)) := hf 1 _ rfl
  have f2 : Rd Tryd.prog w 3 (([c0, c1, c2, c3, c4].drop 2).take (Tryd.prog.cellsOf 3)) := hf 2 _ rfl
  have f3 : Rd Tryd.prog w 3 (([c0, c1, c2, c3, c4].drop 3).take (Tryd.prog.cellsOf 3)) := hf 3 _ rfl
  have f4 : Rd Tryd.prog w 3 (([c0, c1, c2, c3, c4].drop 4).take (Tryd.prog.cellsOf 3)) := hf 4 _ rfl
  simp only [Tryd.cells_int, List.drop_succ_cons, List.drop_zero, List.take_succ_cons, List.take_zero] at f0 f1 f2 f3 f4
  obtain ⟨x0, e0, _⟩ := f0.i64 Tryd.underlying3
  obtain ⟨x1, e1, _⟩ := f1.i64 Tryd.underlying3
  obtain ⟨x2, e2, _⟩ := f2.i64 Tryd.underlying3
  obtain ⟨x3, e3, _⟩ := f3.i64 Tryd.underlying3
  obtain ⟨x4, e4, _⟩ := f4.i64 Tryd.underlying3
  simp only [List.cons.injEq, and_true] at e0 e1 e2 e3 e4
  subst e0 e1 e2 e3 e4
  exact ⟨x0, x1, x2, x3, x4, rfl⟩
set_option linter.unusedSimpArgs false in
set_option linter.unusedVariables false in
set_option maxRecDepth 100000 in
set_option maxHeartbeats 8000000 in
theorem captureSelects_walk (v0 v1 v2 : Value) (w : World) (a0 : ArgM Tryd.prog w 22 v0 1048576) (a1 : ArgM Tryd.prog w 22 v1 1048576) (a2 : ArgM Tryd.prog w 39 v2 1048576) (hs : Sums w) (hp : Pow10 w) :
    Calls Tryd.prog 7 #[v0, v1, v2] w fun e w' => e = .returned (.bool true) ∧ Below w.heap.size w w' := by
  obtain ⟨l1, hl1, hbd1, hg1⟩ := arg_cpsM a0
  obtain ⟨l2, hl2, hbd2, _⟩ := arg_cpsM a1
  obtain ⟨x0, x1, x2, x3, x4, rfl⟩ := arg_filter a2.arg
  clear a0 a1 a2
  have hb0 : Below w.heap.size w (w.alloc (.cells #[.int .i64 x0, .int .i64 x1, .int .i64 x2, .int .i64 x3, .int .i64 x4] 39)) := (Below.refl _ _).alloc (Nat.le_refl _) _
  have T0 := cells_new w [.int .i64 x0, .int .i64 x1, .int .i64 x2, .int .i64 x3, .int .i64 x4] 39
  change Cells (w.alloc (.cells #[.int .i64 x0, .int .i64 x1, .int .i64 x2, .int .i64 x3, .int .i64 x4] 39)) _ at T0
  obtain ⟨U, hU⟩ : ∃ U, w.alloc (.cells #[.int .i64 x0, .int .i64 x1, .int .i64 x2, .int .i64 x3, .int .i64 x4] 39) = U := ⟨_, rfl⟩
  rw [hU] at hb0 T0
  have HLV := Lib.hid (lives_any U (hs.keep hb0) (hp.keep hb0))
  have HP := Lib.hid hp
  obtain ⟨n, hn⟩ : ∃ n, l1.length = n := ⟨_, rfl⟩
  obtain ⟨m, hm⟩ : ∃ n, l2.length = n := ⟨_, rfl⟩
  rw [hn] at hbd1
  rw [hm] at hbd2
  have hv : ∃ a c, v0 = .slice a n c := by
    obtain ⟨⟨_, ao, cap, rfl, _⟩, _⟩ := hl1
    exact ⟨ao, cap, by rw [hn]⟩
  have hv2 : ∃ a c, v1 = .slice a m c := by
    obtain ⟨⟨_, ao, cap, rfl, _⟩, _⟩ := hl2
    exact ⟨ao, cap, by rw [hm]⟩
  obtain ⟨a, c, rfl⟩ := hv
  obtain ⟨a2, c2, rfl⟩ := hv2
  have HC1 := Lib.hid hl1
  have HC2 := Lib.hid hl2
  have HN := Lib.hid hn
  have HM := Lib.hid hm
  have HG := Lib.hid hg1
  have HB0 := Lib.hid hb0
  have HT0 := Lib.hid T0
  clear hs hp hl1 hl2 hn hm hb0 T0 hg1
  by_cases hbig : n ≤ 64
  rotate_left
  · have t1 : decide (n ≤ 64) = false := by simpa using hbig
    go_enter Tryd.func7, Tryd.ntmps7
    go_upto_region 1 with fail
    try rw [hU]
    clear hU
    go_wp2_with fail
    refine HLV.out.mono ?_
    rintro e w1 ⟨rfl, hB1⟩
    have HB1 := Lib.hid (HB0.out.trans (hB1.mono HB0.out.size))
    have HT1 := Lib.hid (HT0.out.keep hB1)
    clear hB1 HLV HT0 HB0
    go_wp2_with fail
    refine (few_any a n c w1).mono ?_
    rintro e w' ⟨rfl, rfl⟩
    go_wp2
    go_ret
    exact ⟨rfl, HB1.out⟩
  have t1 : decide (n ≤ 64) = true := by simpa using hbig
  go_enter Tryd.func7, Tryd.ntmps7
  go_upto_region 1 with fail
  try rw [hU]
  clear hU
  go_wp2_with fail
  refine HLV.out.mono ?_
  rintro e w1 ⟨rfl, hB1⟩
  have HB1 := Lib.hid (HB0.out.trans (hB1.mono HB0.out.size))
  have HT1 := Lib.hid (HT0.out.keep hB1)
  clear hB1 HLV HT0 HB0
  go_wp2_with fail
  refine (few_any a n c w1).mono ?_
  rintro e w' ⟨rfl, rfl⟩
  go_wp2_with fail
  refine (few_any a2 m c2 w1).mono ?_
  rintro e w' ⟨rfl, rfl⟩
  by_cases hbig2 : m ≤ 64
  rotate_left
  · have t2 : decide (m ≤ 64) = false := by simpa using hbig2
    go_wp2
    go_ret
    exact ⟨rfl, HB1.out⟩
  have t2 : decide (m ≤ 64) = true := by simpa using hbig2
  go_upto_region 5 with fail
  refine wp_region_held_drew (S := (fun W' : World => Below w.heap.size w W' ∧ Cells W' (blk w.heap.size 0 0 [.int .i64 x0, .int .i64 x1, .int .i64 x2, .int .i64 x3, .int .i64 x4]))) (by kernel_rfl) (⟨HB1.out.drew, HT1.out.drew⟩) (fun hHeld => ?_)
  refine wpAnyH_take (i := 0) (oi := _) (v := ?_) (by rw [List.getElem?_toArray]; rfl) (by kernel_rfl) (by kernel_rfl) (by kernel_rfl) (by exact fun _ _ _ h => h) (Or.inl ⟨by rfl, ?_⟩) (by assumption) ?_
  rotate_left
  · intro w hSw
    try simp only [Cells, blk, List.cons_append, List.nil_append, and_true, Nat.reduceAdd, Nat.add_zero, Nat.zero_add] at hSw
    go_simp
    try with_reducible rfl
  simp only [Act.put, List.setIfInBounds_toArray, List.set_cons_zero, List.set_cons_succ]
  refine wpAnyH_take (i := 2) (oi := _) (v := ?_) (by rw [List.getElem?_toArray]; rfl) (by kernel_rfl) (by kernel_rfl) (by kernel_rfl) (by exact fun _ _ _ h => h) (Or.inl ⟨by rfl, ?_⟩) (by assumption) ?_
  rotate_left
  · intro w hSw
    try simp only [Cells, blk, List.cons_append, List.nil_append, and_true, Nat.reduceAdd, Nat.add_zero, Nat.zero_add] at hSw
    go_simp
    try with_reducible rfl
  simp only [Act.put, List.setIfInBounds_toArray, List.set_cons_zero, List.set_cons_succ]
  refine wpAnyH_take (i := 4) (oi := _) (v := ?_) (by rw [List.getElem?_toArray]; rfl) (by kernel_rfl) (by kernel_rfl) (by kernel_rfl) (by exact fun _ _ _ h => h) (Or.inl ⟨by rfl, ?_⟩) (by assumption) ?_
  rotate_left
  · intro w hSw
    try simp only [Cells, blk, List.cons_append, List.nil_append, and_true, Nat.reduceAdd, Nat.add_zero, Nat.zero_add] at hSw
    go_simp
    try with_reducible rfl
  simp only [Act.put, List.setIfInBounds_toArray, List.set_cons_zero, List.set_cons_succ]
  refine wpAnyH_take (i := 5) (oi := _) (v := ?_) (by rw [List.getElem?_toArray]; rfl) (by kernel_rfl) (by kernel_rfl) (by kernel_rfl) (by exact fun _ _ _ h => h) (Or.inl ⟨by rfl, ?_⟩) (by assumption) ?_
  rotate_left
  · intro w hSw
    try simp only [Cells, blk, List.cons_append, List.nil_append, and_true, Nat.reduceAdd, Nat.add_zero, Nat.zero_add] at hSw
    go_simp
    try with_reducible rfl
  simp only [Act.put, List.setIfInBounds_toArray, List.set_cons_zero, List.set_cons_succ]
  refine wpAnyH_ready (rs := [1]) (by kernel_rfl) (by simp) (AllReadyH.cons (o := _) (by rw [List.getElem?_toArray]; rfl) (fun K hK => ?_) AllReadyH.nil)
  go_simp
  go_at_call 12
  refine (copy_any (.slice a n c) l1 _ (HC1.out.1.below hHeld.1) (by rw [HN.out]; omega)).mono ?_
  rintro e wA ⟨vA, vsA, rfl, hinvA, hBA⟩
  have hcA := hinvA.cps
  clear hinvA
  have hKp := hHeld
  clear hHeld
  refine hK.out _ _ (⟨hKp.1.trans (hBA.mono hKp.1.size), hKp.2.keep hBA⟩) (fun hHeld => ?_)
  clear hK K
  try simp only [Act.put, List.setIfInBounds_toArray, List.set_cons_zero, List.set_cons_succ]
  refine wpAnyH_ready (rs := [3]) (by kernel_rfl) (by simp) (AllReadyH.cons (o := _) (by rw [List.getElem?_toArray]; rfl) (fun K hK => ?_) AllReadyH.nil)
  go_simp
  go_at_call 17
  refine (select_any vA l1 x0 x1 x2 x3 x4 _ hcA (by rw [HN.out]; exact hbig)).mono ?_
  rintro e wB ⟨vB, rfl, hcB, hBB⟩
  have hKp := hHeld
  clear hHeld
  refine hK.out _ _ (⟨hKp.1.trans (hBB.mono hKp.1.size), hKp.2.keep hBB⟩) (fun hHeld => ?_)
  clear hK K
  try simp only [Act.put, List.setIfInBounds_toArray, List.set_cons_zero, List.set_cons_succ]
  refine wpAnyH_ready (rs := [6]) (by kernel_rfl) (by simp) (AllReadyH.cons (o := _) (by rw [List.getElem?_toArray]; rfl) (fun K hK => ?_) AllReadyH.nil)
  go_simp
  go_at_call 18
  refine (rselect_any (.slice a n c) l1 x0 x1 x2 x3 x4 _ (HC1.out.1.below hHeld.1) (by rw [HN.out]; exact hbig)).mono ?_
  rintro e wC ⟨vC, rfl, hcC, hBC⟩
  have hcB' := hcB.below hBC
  have hKp := hHeld
  clear hHeld
  refine hK.out _ _ (⟨hKp.1.trans (hBC.mono hKp.1.size), hKp.2.keep hBC⟩) (fun hHeld => ?_)
  clear hK K
  try simp only [Act.put, List.setIfInBounds_toArray, List.set_cons_zero, List.set_cons_succ]
  refine wpAnyH_ready (rs := [7]) (by kernel_rfl) (by simp) (AllReadyH.cons (o := _) (by rw [List.getElem?_toArray]; rfl) (fun K hK => ?_) AllReadyH.nil)
  go_simp
  go_at_call 16
  refine (same_any vB vC _ _ _ hcB' hcC).mono ?_
  rintro e wD ⟨D, rfl, hD, hBD⟩
  have hDt : D = true := by first | exact hD.2 rfl | exact hD.2 trivial
  subst hDt
  have hKp := hHeld
  clear hHeld
  refine hK.out _ _ (⟨hKp.1.trans (hBD.mono hKp.1.size), hKp.2.keep hBD⟩) (fun hHeld => ?_)
  clear hK K
  try simp only [Act.put, List.setIfInBounds_toArray, List.set_cons_zero, List.set_cons_succ]
  refine wpAnyH_take (i := 8) (oi := _) (v := ?_) (by rw [List.getElem?_toArray]; rfl) (by kernel_rfl) (by kernel_rfl) (by kernel_rfl) (by exact fun _ _ _ h => h) (Or.inl ⟨by rfl, ?_⟩) (by assumption) ?_
  rotate_left
  · intro w hSw
    try simp only [Cells, blk, List.cons_append, List.nil_append, and_true, Nat.reduceAdd, Nat.add_zero, Nat.zero_add] at hSw
    go_simp
    try with_reducible rfl
  simp only [Act.put, List.setIfInBounds_toArray, List.set_cons_zero, List.set_cons_succ]
  refine wpAnyH_done (by kernel_rfl) ?_ _
  have HBD := Lib.hid hHeld.1
  clear hKp hHeld hcA hcB hcB' hcC hBA hBB hBC hBD hD HT1 HB1
  go_upto_region 7 with fail
  go_cut [40] (fun b wx => b = .bool false ∧ Below w.heap.size w wx)
  case first =>
    by_cases hn0 : n = 0
    · have d1 : decide (0 < n) = false := by simp [hn0]
      have d1' : decide ((0 : Int) < (n : Int)) = false := by simp [hn0]
      clear hn0
      go_quiet (fail)
      have hBf := below_drewN HBD.out
      go_wp2_with fail
      go_meet
      exact ⟨rfl, hBf _⟩
    · have p0 : 0 < n := by omega
      have d1 : decide (0 < n) = true := by simpa using p0
      have d1' : decide ((0 : Int) < (n : Int)) = true := by simp; omega
      have i0 : (0 : Int) < (n : Int) := by omega
      clear hn0
      obtain ⟨b, off, rfl, hb, hx⟩ := HC1.out.1.2.elim fun ao h => h.elim fun cap h => by
        have e := h.1
        rw [HN.out] at e
        cases e
        exact h.2 (by rw [HN.out]; exact p0)
      have h0l : 0 < l1.length := by rw [HN.out]; exact p0
      obtain ⟨ra, rc, d0, e1, e2, e3, e4, hby⟩ := hx 0 h0l
      have hgd := HG.out _ (List.getElem_mem h0l)
      obtain ⟨⟨T, C, F, KD, bs⟩, he⟩ : ∃ t, l1[0] = t := ⟨_, rfl⟩
      rw [he] at d0 e1 e2 e3 e4 hby hgd
      simp only [Nat.zero_mul, Nat.add_zero] at d0 e1 e2 e3 e4 hby hgd
      have q0 := kc d0 HBD.out
      have q1 := kc e1 HBD.out
      have q2 := kc e2 HBD.out
      have q3 := kc e3 HBD.out
      have q4 := kc e4 HBD.out
      have HHE := Lib.hid he
      have HBYW := Lib.hid hby
      obtain ⟨⟨hiT, hiC, hiF, _⟩, hlen⟩ := hgd
      clear hx hby he d0 e1 e2 e3 e4
      refine wp_region_held_drew (S := (fun W' : World => Below w.heap.size w W' ∧ Cells W' (blk b off 0 [.int .i64 T, .int .i64 C, .int .i64 F, .int .i64 KD, .slice ra bs.length rc]))) (by kernel_rfl) (⟨HBD.out.drew, (⟨kc q0 (Below.refl _ _).drew, kc q1 (Below.refl _ _).drew, kc q2 (Below.refl _ _).drew, kc q3 (Below.refl _ _).drew, kc q4 (Below.refl _ _).drew, trivial⟩ : Cells _ (blk b off 0 [.int .i64 T, .int .i64 C, .int .i64 F, .int .i64 KD, .slice ra bs.length rc]))⟩) (fun hHeld => ?_)
      refine wpAnyH_take (i := 0) (oi := _) (v := ?_) (by rw [List.getElem?_toArray]; rfl) (by kernel_rfl) (by kernel_rfl) (by kernel_rfl) (by exact fun _ _ _ h => h) (Or.inl ⟨by rfl, ?_⟩) (by assumption) ?_
      rotate_left
      · intro w hSw
        try simp only [Cells, blk, List.cons_append, List.nil_append, and_true, Nat.reduceAdd, Nat.add_zero, Nat.zero_add] at hSw
        go_simp
        try with_reducible rfl
      simp only [Act.put, List.setIfInBounds_toArray, List.set_cons_zero, List.set_cons_succ]
      refine wpAnyH_take (i := 1) (oi := _) (v := ?_) (by rw [List.getElem?_toArray]; rfl) (by kernel_rfl) (by kernel_rfl) (by kernel_rfl) (by exact fun _ _ _ h => h) (Or.inl ⟨by rfl, ?_⟩) (by assumption) ?_
      rotate_left
      · intro w hSw
        try simp only [Cells, blk, List.cons_append, List.nil_append, and_true, Nat.reduceAdd, Nat.add_zero, Nat.zero_add] at hSw
        go_simp
        try with_reducible rfl
      simp only [Act.put, List.setIfInBounds_toArray, List.set_cons_zero, List.set_cons_succ]
      refine wpAnyH_take (i := 2) (oi := _) (v := ?_) (by rw [List.getElem?_toArray]; rfl) (by kernel_rfl) (by kernel_rfl) (by kernel_rfl) (by exact fun _ _ _ h => h) (Or.inl ⟨by rfl, ?_⟩) (by assumption) ?_
      rotate_left
      · intro w hSw
        try simp only [Cells, blk, List.cons_append, List.nil_append, and_true, Nat.reduceAdd, Nat.add_zero, Nat.zero_add] at hSw
        go_simp
        try with_reducible rfl
      simp only [Act.put, List.setIfInBounds_toArray, List.set_cons_zero, List.set_cons_succ]
      refine wpAnyH_take (i := 3) (oi := _) (v := ?_) (by rw [List.getElem?_toArray]; rfl) (by kernel_rfl) (by kernel_rfl) (by kernel_rfl) (by exact fun _ _ _ h => h) (Or.inl ⟨by rfl, ?_⟩) (by assumption) ?_
      rotate_left
      · intro w hSw
        try simp only [Cells, blk, List.cons_append, List.nil_append, and_true, Nat.reduceAdd, Nat.add_zero, Nat.zero_add] at hSw
        go_simp
        try with_reducible rfl
      simp only [Act.put, List.setIfInBounds_toArray, List.set_cons_zero, List.set_cons_succ]
      refine wpAnyH_take (i := 4) (oi := _) (v := ?_) (by rw [List.getElem?_toArray]; rfl) (by kernel_rfl) (by kernel_rfl) (by kernel_rfl) (by exact fun _ _ _ h => h) (Or.inl ⟨by rfl, ?_⟩) (by assumption) ?_
      rotate_left
      · intro w hSw
        try simp only [Cells, blk, List.cons_append, List.nil_append, and_true, Nat.reduceAdd, Nat.add_zero, Nat.zero_add] at hSw
        go_simp
        try with_reducible rfl
      simp only [Act.put, List.setIfInBounds_toArray, List.set_cons_zero, List.set_cons_succ]
      refine wpAnyH_take (i := 9) (oi := _) (v := ?_) (by rw [List.getElem?_toArray]; rfl) (by kernel_rfl) (by kernel_rfl) (by kernel_rfl) (by exact fun _ _ _ h => h) (Or.inl ⟨by rfl, ?_⟩) (by assumption) ?_
      rotate_left
      · intro w hSw
        try simp only [Cells, blk, List.cons_append, List.nil_append, and_true, Nat.reduceAdd, Nat.add_zero, Nat.zero_add] at hSw
        go_simp
        try with_reducible rfl
      simp only [Act.put, List.setIfInBounds_toArray, List.set_cons_zero, List.set_cons_succ]
      refine wpAnyH_take (i := 10) (oi := _) (v := ?_) (by rw [List.getElem?_toArray]; rfl) (by kernel_rfl) (by kernel_rfl) (by kernel_rfl) (by exact fun _ _ _ h => h) (Or.inl ⟨by rfl, ?_⟩) (by assumption) ?_
      rotate_left
      · intro w hSw
        try simp only [Cells, blk, List.cons_append, List.nil_append, and_true, Nat.reduceAdd, Nat.add_zero, Nat.zero_add] at hSw
        go_simp
        try with_reducible rfl
      simp only [Act.put, List.setIfInBounds_toArray, List.set_cons_zero, List.set_cons_succ]
      refine wpAnyH_take (i := 11) (oi := _) (v := ?_) (by rw [List.getElem?_toArray]; rfl) (by kernel_rfl) (by kernel_rfl) (by kernel_rfl) (by exact fun _ _ _ h => h) (Or.inl ⟨by rfl, ?_⟩) (by assumption) ?_
      rotate_left
      · intro w hSw
        try simp only [Cells, blk, List.cons_append, List.nil_append, and_true, Nat.reduceAdd, Nat.add_zero, Nat.zero_add] at hSw
        go_simp
        try with_reducible rfl
      simp only [Act.put, List.setIfInBounds_toArray, List.set_cons_zero, List.set_cons_succ]
      refine wpAnyH_ready (rs := [5]) (by kernel_rfl) (by simp) (AllReadyH.cons (o := _) (by rw [List.getElem?_toArray]; rfl) (fun K hK => ?_) AllReadyH.nil)
      go_simp
      go_at_call 12
      refine (copy_any (.slice (some ⟨b, off, none⟩) n c) l1 _ (HC1.out.1.below hHeld.1) (by rw [HN.out]; omega)).mono ?_
      rintro e wA ⟨vA, vsA, rfl, hinvA, hBA⟩
      obtain ⟨_, aoA, capA, hvA, hxA⟩ := hinvA.cps
      rw [HN.out] at hvA
      subst hvA
      obtain ⟨bA, oA, rfl, hbA, hxA⟩ := hxA h0l
      obtain ⟨rA, cA, r0, r1, r2, r3, r4, hbyA⟩ := hxA 0 h0l
      rw [HHE.out] at r0 r1 r2 r3 r4 hbyA
      simp only [Nat.zero_mul, Nat.add_zero] at r0 r1 r2 r3 r4 hbyA
      clear hinvA hxA
      have hKp := hHeld
      clear hHeld
      refine hK.out _ _ (⟨hKp.1.trans (hBA.mono hKp.1.size), hKp.2.keep hBA⟩) (fun hHeld => ?_)
      clear hK K
      try simp only [Act.put, List.setIfInBounds_toArray, List.set_cons_zero, List.set_cons_succ]
      refine wpAnyH_take (i := 6) (oi := _) (v := ?_) (by rw [List.getElem?_toArray]; rfl) (by kernel_rfl) (by kernel_rfl) (by kernel_rfl) (by exact fun _ _ _ h => h) (Or.inl ⟨by rfl, ?_⟩) (by assumption) ?_
      rotate_left
      · intro w hSw
        try simp only [Cells, blk, List.cons_append, List.nil_append, and_true, Nat.reduceAdd, Nat.add_zero, Nat.zero_add] at hSw
        go_simp
        try with_reducible rfl
      simp only [Act.put, List.setIfInBounds_toArray, List.set_cons_zero, List.set_cons_succ]
      refine wpAnyH_ready (rs := [7]) (by kernel_rfl) (by simp) (AllReadyH.cons (o := _) (by rw [List.getElem?_toArray]; rfl) (fun K hK => ?_) AllReadyH.nil)
      go_simp
      have hKp := hHeld
      clear hHeld
      refine hK.out _ _ (hKp) (fun hHeld => ?_)
      clear hK K
      try simp only [Act.put, List.setIfInBounds_toArray, List.set_cons_zero, List.set_cons_succ]
      refine wpAnyH_ready (rs := [8]) (by kernel_rfl) (by simp) (AllReadyH.cons (o := _) (by rw [List.getElem?_toArray]; rfl) (fun K hK => ?_) AllReadyH.nil)
      go_simp
      go_at_call 19
      refine (line_any T C F KD rA bs.length cA bs _ (HP.out.keep hHeld.1) hbyA (by omega) hiT hiC hiF).mono ?_
      rintro e wB ⟨rfl, hBB⟩
      have hKp := hHeld
      clear hHeld
      refine hK.out _ _ (⟨hKp.1.trans (hBB.mono hKp.1.size), hKp.2.keep hBB⟩) (fun hHeld => ?_)
      clear hK K
      try simp only [Act.put, List.setIfInBounds_toArray, List.set_cons_zero, List.set_cons_succ]
      refine wpAnyH_ready (rs := [12]) (by kernel_rfl) (by simp) (AllReadyH.cons (o := _) (by rw [List.getElem?_toArray]; rfl) (fun K hK => ?_) AllReadyH.nil)
      go_simp
      go_at_call 20
      refine (rline_any T C F KD ra bs.length rc bs _ (HBYW.out.below hHeld.1) (by omega) hiT hiC hiF).mono ?_
      rintro e wC ⟨rfl, hBC⟩
      have hKp := hHeld
      clear hHeld
      refine hK.out _ _ (⟨hKp.1.trans (hBC.mono hKp.1.size), hKp.2.keep hBC⟩) (fun hHeld => ?_)
      clear hK K
      try simp only [Act.put, List.setIfInBounds_toArray, List.set_cons_zero, List.set_cons_succ]
      refine wpAnyH_take (i := 13) (oi := _) (v := ?_) (by rw [List.getElem?_toArray]; rfl) (by kernel_rfl) (by kernel_rfl) (by kernel_rfl) (by exact fun _ _ _ h => h) (Or.inl ⟨by rfl, ?_⟩) (by assumption) ?_
      rotate_left
      · intro w hSw
        try simp only [Cells, blk, List.cons_append, List.nil_append, and_true, Nat.reduceAdd, Nat.add_zero, Nat.zero_add] at hSw
        go_simp
        try with_reducible rfl
      simp only [Act.put, List.setIfInBounds_toArray, List.set_cons_zero, List.set_cons_succ]
      refine wpAnyH_take (i := 14) (oi := _) (v := ?_) (by rw [List.getElem?_toArray]; rfl) (by kernel_rfl) (by kernel_rfl) (by kernel_rfl) (by exact fun _ _ _ h => h) (Or.inl ⟨by rfl, ?_⟩) (by assumption) ?_
      rotate_left
      · intro w hSw
        try simp only [Cells, blk, List.cons_append, List.nil_append, and_true, Nat.reduceAdd, Nat.add_zero, Nat.zero_add] at hSw
        go_simp
        try with_reducible rfl
      simp only [Act.put, List.setIfInBounds_toArray, List.set_cons_zero, List.set_cons_succ]
      refine wpAnyH_done (by kernel_rfl) ?_ _
      go_wp2_with fail
      go_meet
      exact ⟨rfl, hHeld.1⟩
  case rest =>
  obtain ⟨rfl, hB5⟩ := hcut
  rename World => V
  have HB5 := Lib.hid hB5
  clear hB5 HBD
  go_wp2_with fail
  refine (ordered_any (.slice a n c) l1 V (HC1.out.1.below HB5.out)).mono ?_
  rintro e w6 ⟨D1, rfl, _, hB6⟩
  have HB6 := Lib.hid (HB5.out.trans (hB6.mono HB5.out.size))
  clear hB6 HB5
  cases D1 with
  | false =>
    go_wp2
    go_ret
    exact ⟨rfl, HB6.out⟩
  | true =>
  go_wp2_with fail
  refine (ordered_any (.slice a2 m c2) l2 w6 (HC2.out.1.below HB6.out)).mono ?_
  rintro e w7 ⟨D2, rfl, _, hB7⟩
  have HB7 := Lib.hid (HB6.out.trans (hB7.mono HB6.out.size))
  clear hB7 HB6
  cases D2 with
  | false =>
    go_wp2
    go_ret
    exact ⟨rfl, HB7.out⟩
  | true =>
  have HCA := Lib.hid (copy_any (.slice a n c) l1 w7 (HC1.out.1.below HB7.out) (by rw [HN.out]; omega))
  go_wp2_with fail
  refine HCA.out.mono ?_
  rintro e w8 ⟨v8, vs8, rfl, hinv8, hB8⟩
  have HB8 := Lib.hid (HB7.out.trans (hB8.mono HB7.out.size))
  have HCB := Lib.hid (copy_any (.slice a2 m c2) l2 w8 (HC2.out.1.below HB8.out) (by rw [HM.out]; omega))
  have HV8 := Lib.hid hinv8.cpsC
  clear hB8 HB7 HCA hinv8
  go_wp2_with fail
  refine HCB.out.mono ?_
  rintro e w9 ⟨v9, vs9, rfl, hinv9, hB9⟩
  have HB9 := Lib.hid (HB8.out.trans (hB9.mono HB8.out.size))
  have HMG := Lib.hid (merge_any v8 v9 l1 l2 w9 (HV8.out.below hB9) hinv9.cpsC (by rw [HN.out]; exact hbig) (by rw [HM.out]; exact hbig2))
  clear hB9 HB8 HCB hinv9 HV8
  go_wp2_with fail
  refine HMG.out.mono ?_
  rintro e w10 ⟨v10, rfl, hc10, hB10⟩
  have HB10 := Lib.hid (HB9.out.trans (hB10.mono HB9.out.size))
  have HRM := Lib.hid (rmerge_any (.slice a n c) (.slice a2 m c2) l1 l2 w10 (HC1.out.1.below HB10.out) (HC2.out.1.below HB10.out) (by rw [HN.out]; exact hbig) (by rw [HM.out]; exact hbig2))
  have HV10 := Lib.hid hc10
  clear hB10 HB9 HMG hc10
  go_wp2_with fail
  refine HRM.out.mono ?_
  rintro e w11 ⟨v11, rfl, hc11, hB11⟩
  have HB11 := Lib.hid (HB10.out.trans (hB11.mono HB10.out.size))
  have HSM := Lib.hid (same_any v10 v11 _ _ w11 (HV10.out.below hB11) hc11)
  clear hB11 HB10 HRM hc11 HV10
  go_wp2_with fail
  refine HSM.out.mono ?_
  rintro e w12 ⟨D, rfl, hD, hB12⟩
  obtain rfl : D = true := by first | exact hD.2 rfl | exact hD.2 trivial
  have HB12 := Lib.hid (HB11.out.trans (hB12.mono HB11.out.size))
  clear hB12 HB11 HSM hD
  go_wp2
  go_ret
  exact ⟨rfl, HB12.out⟩
end Go.Proofs.YtccknpdnapoboaaDoor
