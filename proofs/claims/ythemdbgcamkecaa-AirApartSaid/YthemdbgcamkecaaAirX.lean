/- air: the walk of AirUndisturbed. -/
import Derived.Test.YthemdbgcamkecaaAirU
namespace Go.Proofs.Ythemdbgcamkecaa
open Go.RowKit

theorem Try.cells_listen : Try.prog.cellsOf 45 = 4 := by kernel_rfl
theorem arg_listen {w : World} {v : Value} (h : Arg Try.prog w 45 v) : ∃ a b c e : Int, v = .agg #[.int .i64 a, .int .i64 b, .int .i64 c, .int .i64 e] := by
  obtain ⟨cs, rfl, hl, hf⟩ := h.struct Try.underlying45
  rw [Try.cells_listen] at hl
  obtain ⟨c0, c1, c2, c3, rfl⟩ := list4 cs hl
  have f0 : Rd Try.prog w 3 (([c0, c1, c2, c3].drop 0).take (Try.prog.cellsOf 3)) := hf 0 _ rfl
  have f1 : Rd Try.prog w 3 (([c0, c1, c2, c3].drop 1).take (Try.prog.cellsOf 3)) := hf 1 _ rfl
  have f2 : Rd Try.prog w 3 (([c0, c1, c2, c3].drop 2).take (Try.prog.cellsOf 3)) := hf 2 _ rfl
  have f3 : Rd Try.prog w 3 (([c0, c1, c2, c3].drop 3).take (Try.prog.cellsOf 3)) := hf 3 _ rfl
  simp only [Try.cells_int, List.drop_succ_cons, List.drop_zero, List.take_succ_cons, List.take_zero] at f0 f1 f2 f3
  obtain ⟨x0, e0, _⟩ := f0.i64 Try.underlying3
  obtain ⟨x1, e1, _⟩ := f1.i64 Try.underlying3
  obtain ⟨x2, e2, _⟩ := f2.i64 Try.underlying3
  obtain ⟨x3, e3, _⟩ := f3.i64 Try.underlying3
  simp only [List.cons.injEq, and_true] at e0 e1 e2 e3
  subst e0 e1 e2 e3
  exact ⟨x0, x1, x2, x3, rfl⟩

/-- one transmission alone -/
theorem alone_heard {ls : List (Int × Int)} {dev ch st en : Int} {t : Tr} (h : okB ls dev ch st en t = true) :
    bestE (okK ls dev ch st en [t]) (ltE [t]) [t].length = 0 ∧ hearR ls [] [] [t] dev 0 = ⟨t.id, dev, 1, t.st, endI t.st t.bs.length, t.bs⟩ := by
  have hr : rngB ls t.fr dev = true := by
    unfold okB at h
    simp only [Bool.and_eq_true] at h
    exact h.2
  have hd : distE ls [] [] [t] 0 dev = 1 := by
    unfold distE
    rw [if_neg (by simp)]
    simp [hr, List.range, List.range.loop, colI]
  refine ⟨?_, ?_⟩
  · show bestE (okK ls dev ch st en [t]) (ltE [t]) 1 = 0
    rw [bestE, if_pos]
    · rfl
    · exact ⟨h, .inl (by show (-1 : Int) < 0; decide)⟩
  · unfold hearR
    rw [if_neg (by decide), hd]
    simp
theorem alone_not {ls : List (Int × Int)} {dev ch st en : Int} {t : Tr} (h : okB ls dev ch st en t = false) :
    bestE (okK ls dev ch st en [t]) (ltE [t]) [t].length = -1 ∧ hearR ls [] [] [t] dev (-1) = noRc := by
  refine ⟨?_, by unfold hearR; rw [if_pos (by decide)]⟩
  show bestE (okK ls dev ch st en [t]) (ltE [t]) 1 = -1
  rw [bestE_skip (by exact h)]
  rfl
theorem set6_bytes {W X : World} {i : Nat} {v : Value} {bs : List Nat} (hg : W.grownBy X (some i)) (h : BytesAt W v bs) (hne : bs = [] ∨ ∃ b, v.ownBlock = some b ∧ b ≠ i) : BytesAt X v bs := by
  refine ⟨h.1.grown hg ?_, h.2⟩
  rcases hne with e | ⟨b, e1, e2⟩
  · exact .inl (by rw [e]; rfl)
  · exact .inr ⟨b, e1, fun e => e2 (by simpa using e.symm)⟩

set_option linter.unusedSimpArgs false in
set_option linter.unusedVariables false in
set_option maxRecDepth 100000 in
set_option maxHeartbeats 8000000 in
theorem airUndisturbed_walk (v0 v1 v2 : Value) (w : World) (a0 : Arg Try.prog w 34 v0) (a1 : Arg Try.prog w 24 v1) (a2 : Arg Try.prog w 45 v2) :
    Calls Try.prog 6 #[v0, v1, v2] w fun e w' => e = .returned (.bool true) ∧ Below w.heap.size w w' := by
  obtain ⟨d, lv, jv, sv, ls, js, ss, rfl, hair, _⟩ := arg_air a0
  obtain ⟨⟨TI, TF, TC, TS, tb⟩, ta, tc, rfl, hby⟩ := arg_tx a1
  obtain ⟨dev, LC, LS, LE, rfl⟩ := arg_listen a2
  unfold txV
  simp only at hby ⊢
  obtain ⟨n1, hn1⟩ : ∃ n, ls.length = n := ⟨_, rfl⟩
  have HN1 := Lib.hid hn1
  have HLW := Lib.hid hair.l
  have HLB := Lib.hid hair.lb
  have HBW := Lib.hid hby
  obtain ⟨al, cl, hlv⟩ := hair.l.val
  obtain ⟨aj, cj, hjv⟩ := hair.j.val
  obtain ⟨as', cs', hsv⟩ := hair.s.val
  rw [hn1] at hlv
  subst hlv
  obtain ⟨n2, hn2⟩ : ∃ n, js.length = n := ⟨_, rfl⟩
  obtain ⟨n3, hn3⟩ : ∃ n, ss.length = n := ⟨_, rfl⟩
  rw [hn2] at hjv
  rw [hn3] at hsv
  subst hjv
  subst hsv
  clear hn2 hn3 hair hby a0 a1 a2 hn1
  have A0 := heap_alloc_new w (.cells #[.int .i64 d, .slice al n1 cl, .slice aj n2 cj, .slice as' n3 cs'] 34)
  have A1 := (Below.heap_alloc (w.alloc (.cells #[.int .i64 d, .slice al n1 cl, .slice aj n2 cj, .slice as' n3 cs'] 34)) (.cells #[.int .i64 TI, .int .i64 TF, .int .i64 TC, .int .i64 TS, .slice ta tb.length tc] 24) w.heap.size (by simp)).trans A0
  have hb0 : Below w.heap.size w (w.alloc (.cells #[.int .i64 d, .slice al n1 cl, .slice aj n2 cj, .slice as' n3 cs'] 34)) := (Below.refl _ _).alloc (Nat.le_refl _) _
  have e1 : (w.alloc (.cells #[.int .i64 d, .slice al n1 cl, .slice aj n2 cj, .slice as' n3 cs'] 34)).heap.size = w.heap.size + 1 := by simp
  have T1 := cells_new (w.alloc (.cells #[.int .i64 d, .slice al n1 cl, .slice aj n2 cj, .slice as' n3 cs'] 34)) [.int .i64 TI, .int .i64 TF, .int .i64 TC, .int .i64 TS, .slice ta tb.length tc] 24
  rw [e1] at T1
  have hb1 := hb0.alloc hb0.size (.cells #[.int .i64 TI, .int .i64 TF, .int .i64 TC, .int .i64 TS, .slice ta tb.length tc] 24)
  have e2 : ((w.alloc (.cells #[.int .i64 d, .slice al n1 cl, .slice aj n2 cj, .slice as' n3 cs'] 34)).alloc (.cells #[.int .i64 TI, .int .i64 TF, .int .i64 TC, .int .i64 TS, .slice ta tb.length tc] 24)).heap.size = w.heap.size + 1 + 1 := by simp
  have T2 := cells_new ((w.alloc (.cells #[.int .i64 d, .slice al n1 cl, .slice aj n2 cj, .slice as' n3 cs'] 34)).alloc (.cells #[.int .i64 TI, .int .i64 TF, .int .i64 TC, .int .i64 TS, .slice ta tb.length tc] 24)) [.int .i64 dev, .int .i64 LC, .int .i64 LS, .int .i64 LE] 45
  rw [e2] at T2
  have T := (T1.keep ((Below.refl _ _).alloc (Nat.le_refl _) (.cells #[.int .i64 dev, .int .i64 LC, .int .i64 LS, .int .i64 LE] 45))).app T2
  have hA := (Below.heap_alloc ((w.alloc (.cells #[.int .i64 d, .slice al n1 cl, .slice aj n2 cj, .slice as' n3 cs'] 34)).alloc (.cells #[.int .i64 TI, .int .i64 TF, .int .i64 TC, .int .i64 TS, .slice ta tb.length tc] 24)) (.cells #[.int .i64 dev, .int .i64 LC, .int .i64 LS, .int .i64 LE] 45) w.heap.size (by simp; omega)).trans A1
  have hBW := hb1.alloc hb1.size (.cells #[.int .i64 dev, .int .i64 LC, .int .i64 LS, .int .i64 LE] 45)
  have hsz : w.heap.size + 3 ≤ (((w.alloc (.cells #[.int .i64 d, .slice al n1 cl, .slice aj n2 cj, .slice as' n3 cs'] 34)).alloc (.cells #[.int .i64 TI, .int .i64 TF, .int .i64 TC, .int .i64 TS, .slice ta tb.length tc] 24)).alloc (.cells #[.int .i64 dev, .int .i64 LC, .int .i64 LS, .int .i64 LE] 45)).heap.size := by simp
  clear A0 A1 T1 T2 hb0 hb1 e1 e2
  go_enter Try.func6, Try.ntmps6
  go_wp2_with fail
  generalize hW : ((w.alloc (.cells _ 34)).alloc (.cells _ 24)).alloc (.cells _ 45) = W at T hBW hA hsz ⊢
  clear hW
  refine (lives_any _).mono ?_
  rintro e w1 ⟨rfl, hB1⟩
  have hC1 := hBW.trans (hB1.mono hBW.size)
  have hA1 := (hB1.block w.heap.size (by omega)).trans hA
  have hs1 := Nat.le_trans hsz hB1.size
  have T1 := T.keep hB1
  have c2 := cell_of_row _ _ 2 _ _ _ hA1
  have c3 := cell_of_row _ _ 3 _ _ _ hA1
  have z2 := frozen_of_row _ _ 2 _ _ hA1
  have z3 := frozen_of_row _ _ 3 _ _ hA1
  simp at c2 c3
  go_upto_region 4 with fail
  have hA2 := heap_setCell_same _ w.heap.size 2 _ _ (.slice none 0 0) hA1
  simp only [List.setIfInBounds_toArray, List.set_cons_zero, List.set_cons_succ] at hA2
  have hA3 := heap_setCell_same _ w.heap.size 3 _ _ (.slice none 0 0) hA2
  simp only [List.setIfInBounds_toArray, List.set_cons_zero, List.set_cons_succ] at hA3
  have hg := (set1 w1 ⟨w.heap.size, 2, none⟩ (.slice none 0 0)).trans (set1 _ ⟨w.heap.size, 3, none⟩ (.slice none 0 0))
  have TV0 := Cells.grown hg T1 (fun x hx => by simp [blk] at hx; rcases hx with rfl | rfl | rfl | rfl | rfl | rfl | rfl | rfl | rfl <;> (simp; try omega))
  have hCV := hC1.grown hg hC1.size (fun k hk => by simp at hk; omega)
  have hsV := Nat.le_trans hs1 hg.size
  clear hg hA2 hA1 hA c2 c3 z2 z3 T1 T hB1
  generalize hV : (w1.setCell _ _).setCell _ _ = V at TV0 hCV hsV hA3 ⊢
  clear hV
  have TV : Cells V (blk w.heap.size 0 0 [.int .i64 d, .slice al n1 cl, .slice none 0 0, .slice none 0 0] ++ (blk (w.heap.size + 1) 0 0 [.int .i64 TI, .int .i64 TF, .int .i64 TC, .int .i64 TS, .slice ta tb.length tc] ++ blk (w.heap.size + 1 + 1) 0 0 [.int .i64 dev, .int .i64 LC, .int .i64 LS, .int .i64 LE])) := ⟨cell_of_row _ _ 0 _ _ _ hA3, cell_of_row _ _ 1 _ _ _ hA3, cell_of_row _ _ 2 _ _ _ hA3, cell_of_row _ _ 3 _ _ _ hA3, TV0⟩
  clear TV0 hA3
  by_cases hbig : 64 < n1
  · have gb : decide (64 < n1) = true := by simpa using hbig
    have gb2 : decide ((64 : Int) < (n1 : Int)) = true := by simp; omega
    have hOpen := TV
    simp only [Cells, blk, List.cons_append, List.nil_append, and_true, Nat.reduceAdd, Nat.add_zero, Nat.zero_add] at hOpen
    obtain ⟨k0, k1, k2, k3, k4, k5, k6, k7, k8, k9, k10, k11, k12⟩ := hOpen
    go_quiet (fail)
    go_wp2
    go_ret
    exact ⟨rfl, below_drewN hCV _⟩
  · have gb : decide (64 < n1) = false := by simpa using hbig
    have gb2 : decide ((64 : Int) < (n1 : Int)) = false := by simp; omega
    obtain ⟨E, hE⟩ : ∃ E, checkE d ls [] [] [⟨TI, TF, TC, TS, tb⟩] = E := ⟨_, rfl⟩
    have HE := Lib.hid hE
    clear hE
    go_cut [25] (fun c wx => c = .bool (E != 0) ∧ Below V.heap.size V wx)
    case first =>
      refine wp_region_held_drew (S := (fun W' : World => Below V.heap.size V W' ∧ V.heap.size ≤ W'.heap.size ∧ Cells W' (blk w.heap.size 0 0 [.int .i64 d, .slice al n1 cl, .slice none 0 0, .slice none 0 0] ++ (blk (w.heap.size + 1) 0 0 [.int .i64 TI, .int .i64 TF, .int .i64 TC, .int .i64 TS, .slice ta tb.length tc] ++ blk (w.heap.size + 1 + 1) 0 0 [.int .i64 dev, .int .i64 LC, .int .i64 LS, .int .i64 LE])))) (by kernel_rfl) (⟨(Below.refl _ _).drew, Nat.le_refl _, TV.drew⟩) (fun hHeld => ?_)
      generalize World.drew _ = wd at hHeld ⊢
      have hz := hHeld.2.1
      refine wpAnyH_take (i := 0) (oi := _) (v := ?_) (by rw [List.getElem?_toArray]; rfl) (by kernel_rfl) (by kernel_rfl) (by kernel_rfl) (by exact fun _ _ _ h => h) (Or.inl ⟨by rfl, ?_⟩) (by assumption) ?_
      rotate_left
      · intro w hSw
        try simp only [Cells, blk, List.cons_append, List.nil_append, and_true, Nat.reduceAdd, Nat.add_zero, Nat.zero_add] at hSw
        go_simp
        try with_reducible rfl
      simp only [Act.put, List.setIfInBounds_toArray, List.set_cons_zero, List.set_cons_succ]
      refine wpAnyH_take (i := 1) (oi := _) (v := ?_) (by rw [List.getElem?_toArray]; rfl) (by kernel_rfl) (by kernel_rfl) (by kernel_rfl) (by exact fun _ _ _ h => h) (Or.inl ⟨by rfl, ?_⟩) (by assumption) ?_
      rotate_left
      · intro w hSw
        try simp only [Cells, blk, List.cons_append, List.nil_append, and_true, Nat.reduceAdd, Nat.add_zero, Nat.zero_add] at hSw
        go_simp
        try with_reducible rfl
      simp only [Act.put, List.setIfInBounds_toArray, List.set_cons_zero, List.set_cons_succ]
      refine wpAnyH_take (i := 2) (oi := _) (v := ?_) (by rw [List.getElem?_toArray]; rfl) (by kernel_rfl) (by kernel_rfl) (by kernel_rfl) (by exact fun _ _ _ h => h) (Or.inl ⟨by rfl, ?_⟩) (by assumption) ?_
      rotate_left
      · intro w hSw
        try simp only [Cells, blk, List.cons_append, List.nil_append, and_true, Nat.reduceAdd, Nat.add_zero, Nat.zero_add] at hSw
        go_simp
        try with_reducible rfl
      simp only [Act.put, List.setIfInBounds_toArray, List.set_cons_zero, List.set_cons_succ]
      refine wpAnyH_take (i := 3) (oi := _) (v := ?_) (by rw [List.getElem?_toArray]; rfl) (by kernel_rfl) (by kernel_rfl) (by kernel_rfl) (by exact fun _ _ _ h => h) (Or.inl ⟨by rfl, ?_⟩) (by assumption) ?_
      rotate_left
      · intro w hSw
        try simp only [Cells, blk, List.cons_append, List.nil_append, and_true, Nat.reduceAdd, Nat.add_zero, Nat.zero_add] at hSw
        go_simp
        try with_reducible rfl
      simp only [Act.put, List.setIfInBounds_toArray, List.set_cons_zero, List.set_cons_succ]
      refine wpAnyH_take (i := 4) (oi := _) (v := ?_) (by rw [List.getElem?_toArray]; rfl) (by kernel_rfl) (by kernel_rfl) (by kernel_rfl) (by exact fun _ _ _ h => h) (Or.inl ⟨by rfl, ?_⟩) (by assumption) ?_
      rotate_left
      · intro w hSw
        try simp only [Cells, blk, List.cons_append, List.nil_append, and_true, Nat.reduceAdd, Nat.add_zero, Nat.zero_add] at hSw
        go_simp
        try with_reducible rfl
      simp only [Act.put, List.setIfInBounds_toArray, List.set_cons_zero, List.set_cons_succ]
      refine wpAnyH_take (i := 5) (oi := _) (v := ?_) (by rw [List.getElem?_toArray]; rfl) (by kernel_rfl) (by kernel_rfl) (by kernel_rfl) (by exact fun _ _ _ h => h) (Or.inl ⟨by rfl, ?_⟩) (by assumption) ?_
      rotate_left
      · intro w hSw
        try simp only [Cells, blk, List.cons_append, List.nil_append, and_true, Nat.reduceAdd, Nat.add_zero, Nat.zero_add] at hSw
        go_simp
        try with_reducible rfl
      simp only [Act.put, List.setIfInBounds_toArray, List.set_cons_zero, List.set_cons_succ]
      refine wpAnyH_take (i := 7) (oi := _) (v := ?_) (by rw [List.getElem?_toArray]; rfl) (by kernel_rfl) (by kernel_rfl) (by kernel_rfl) (by exact fun _ _ _ h => h) (Or.inl ⟨by rfl, ?_⟩) (by assumption) ?_
      rotate_left
      · intro w hSw
        try simp only [Cells, blk, List.cons_append, List.nil_append, and_true, Nat.reduceAdd, Nat.add_zero, Nat.zero_add] at hSw
        go_simp
        try with_reducible rfl
      simp only [Act.put, List.setIfInBounds_toArray, List.set_cons_zero, List.set_cons_succ]
      refine wpAnyH_ready (rs := [6, 8]) (by kernel_rfl) (by simp) (AllReadyH.cons (o := _) (by rw [List.getElem?_toArray]; rfl) (fun K hK => ?_) (AllReadyH.cons (o := _) (by rw [List.getElem?_toArray]; rfl) (fun K hK => ?_) AllReadyH.nil))
      · go_simp
        go_at_call 18
        refine (own_any d (.slice al n1 cl) (.slice none 0 0) (.slice none 0 0) ls [] [] _ (HLW.out.below (hCV.trans (hHeld.1.mono hCV.size))) (sr_nil _ _) (sr_nil _ _) HLB.out (by simp) (by simp)).mono ?_
        rintro e wo ⟨lvo, jvo, svo, rfl, so1, so2, so3, hBo⟩
        try replace htx := htx.below hBo
        try replace hco := hco.below hBo
        try replace h8 := (hBo.block _ (by have := h8s; omega)).trans h8
        try replace h8s := Nat.le_trans h8s hBo.size
        refine hK.out _ _ (⟨hHeld.1.trans (hBo.mono (by have := hHeld.2.1; omega)), Nat.le_trans hHeld.2.1 hBo.size, hHeld.2.2.keep hBo⟩) (fun hHeld2 => ?_)
        replace hHeld := hHeld2
        clear hK K hHeld2
        try simp only [Act.put, List.setIfInBounds_toArray, List.set_cons_zero, List.set_cons_succ]
        have hz := hHeld.2.1
        refine wpAnyH_ready (rs := [8]) (by kernel_rfl) (by simp) (AllReadyH.cons (o := _) (by rw [List.getElem?_toArray]; rfl) (fun K hK => ?_) AllReadyH.nil)
        go_simp
        generalize hX : World.alloc _ (.cells _ 24) = w2
        obtain ⟨h2, hB2, h2z⟩ := alloc_named hX
        clear hX h2z
        have htx := txs_one (t := ⟨TI, TF, TC, TS, tb⟩) h2 ((HBW.out.below (hCV.trans (hHeld.1.mono hCV.size))).below hB2)
        try replace so1 := so1.below hB2
        try replace so2 := so2.below hB2
        try replace so3 := so3.below hB2
        try replace h8 := (hB2.block _ (by have := h8s; omega)).trans h8
        try replace h8s := Nat.le_trans h8s hB2.size
        refine hK.out _ _ (⟨hHeld.1.trans (hB2.mono (by have := hHeld.2.1; omega)), Nat.le_trans hHeld.2.1 hB2.size, hHeld.2.2.keep hB2⟩) (fun hHeld2 => ?_)
        replace hHeld := hHeld2
        clear hK K hHeld2
        try simp only [Act.put, List.setIfInBounds_toArray, List.set_cons_zero, List.set_cons_succ]
        have hz := hHeld.2.1
        refine wpAnyH_ready (rs := [9]) (by kernel_rfl) (by simp) (AllReadyH.cons (o := _) (by rw [List.getElem?_toArray]; rfl) (fun K hK => ?_) AllReadyH.nil)
        go_simp
        go_at_call 19
        refine (copy_any _ [⟨TI, TF, TC, TS, tb⟩] _ htx (by simp)).mono ?_
        rintro e wc2 ⟨tvc, vsc, rfl, hinv, hBc⟩
        have hco := hinv.txs
        clear hinv
        try replace so1 := so1.below hBc
        try replace so2 := so2.below hBc
        try replace so3 := so3.below hBc
        try replace h8 := (hBc.block _ (by have := h8s; omega)).trans h8
        try replace h8s := Nat.le_trans h8s hBc.size
        refine hK.out _ _ (⟨hHeld.1.trans (hBc.mono (by have := hHeld.2.1; omega)), Nat.le_trans hHeld.2.1 hBc.size, hHeld.2.2.keep hBc⟩) (fun hHeld2 => ?_)
        replace hHeld := hHeld2
        clear hK K hHeld2
        try simp only [Act.put, List.setIfInBounds_toArray, List.set_cons_zero, List.set_cons_succ]
        have hz := hHeld.2.1
        refine wpAnyH_ready (rs := [10]) (by kernel_rfl) (by simp) (AllReadyH.cons (o := _) (by rw [List.getElem?_toArray]; rfl) (fun K hK => ?_) AllReadyH.nil)
        go_simp
        go_at_call 17
        refine (check_any d lvo jvo svo tvc ls [] [] [⟨TI, TF, TC, TS, tb⟩] _ so1.1 so2.1 so3.1 hco).mono ?_
        rintro e wk ⟨rfl, hBk⟩
        rw [HE.out]
        refine hK.out _ _ (⟨hHeld.1.trans (hBk.mono (by have := hHeld.2.1; omega)), Nat.le_trans hHeld.2.1 hBk.size, hHeld.2.2.keep hBk⟩) (fun hHeld2 => ?_)
        replace hHeld := hHeld2
        clear hK K hHeld2
        try simp only [Act.put, List.setIfInBounds_toArray, List.set_cons_zero, List.set_cons_succ]
        refine wpAnyH_take (i := 11) (oi := _) (v := ?_) (by rw [List.getElem?_toArray]; rfl) (by kernel_rfl) (by kernel_rfl) (by kernel_rfl) (by exact fun _ _ _ h => h) (Or.inl ⟨by rfl, ?_⟩) (by assumption) ?_
        rotate_left
        · intro w hSw
          try simp only [Cells, blk, List.cons_append, List.nil_append, and_true, Nat.reduceAdd, Nat.add_zero, Nat.zero_add] at hSw
          go_simp
          try with_reducible rfl
        simp only [Act.put, List.setIfInBounds_toArray, List.set_cons_zero, List.set_cons_succ]
        refine wpAnyH_take (i := 12) (oi := _) (v := ?_) (by rw [List.getElem?_toArray]; rfl) (by kernel_rfl) (by kernel_rfl) (by kernel_rfl) (by exact fun _ _ _ h => h) (Or.inl ⟨by rfl, ?_⟩) (by assumption) ?_
        rotate_left
        · intro w hSw
          try simp only [Cells, blk, List.cons_append, List.nil_append, and_true, Nat.reduceAdd, Nat.add_zero, Nat.zero_add] at hSw
          go_simp
          try with_reducible rfl
        simp only [Act.put, List.setIfInBounds_toArray, List.set_cons_zero, List.set_cons_succ]
        refine wpAnyH_done (by kernel_rfl) ?_ _
        go_wp2_with fail
        go_meet
        exact ⟨rfl, hHeld.1⟩
      · go_simp
        generalize hX : World.alloc _ (.cells _ 24) = w2
        obtain ⟨h2, hB2, h2z⟩ := alloc_named hX
        clear hX h2z
        have htx := txs_one (t := ⟨TI, TF, TC, TS, tb⟩) h2 ((HBW.out.below (hCV.trans (hHeld.1.mono hCV.size))).below hB2)
        try replace so1 := so1.below hB2
        try replace so2 := so2.below hB2
        try replace so3 := so3.below hB2
        try replace h8 := (hB2.block _ (by have := h8s; omega)).trans h8
        try replace h8s := Nat.le_trans h8s hB2.size
        refine hK.out _ _ (⟨hHeld.1.trans (hB2.mono (by have := hHeld.2.1; omega)), Nat.le_trans hHeld.2.1 hB2.size, hHeld.2.2.keep hB2⟩) (fun hHeld2 => ?_)
        replace hHeld := hHeld2
        clear hK K hHeld2
        try simp only [Act.put, List.setIfInBounds_toArray, List.set_cons_zero, List.set_cons_succ]
        have hz := hHeld.2.1
        refine wpAnyH_ready (rs := [6]) (by kernel_rfl) (by simp) (AllReadyH.cons (o := _) (by rw [List.getElem?_toArray]; rfl) (fun K hK => ?_) AllReadyH.nil)
        go_simp
        go_at_call 18
        refine (own_any d (.slice al n1 cl) (.slice none 0 0) (.slice none 0 0) ls [] [] _ (HLW.out.below (hCV.trans (hHeld.1.mono hCV.size))) (sr_nil _ _) (sr_nil _ _) HLB.out (by simp) (by simp)).mono ?_
        rintro e wo ⟨lvo, jvo, svo, rfl, so1, so2, so3, hBo⟩
        try replace htx := htx.below hBo
        try replace hco := hco.below hBo
        try replace h8 := (hBo.block _ (by have := h8s; omega)).trans h8
        try replace h8s := Nat.le_trans h8s hBo.size
        refine hK.out _ _ (⟨hHeld.1.trans (hBo.mono (by have := hHeld.2.1; omega)), Nat.le_trans hHeld.2.1 hBo.size, hHeld.2.2.keep hBo⟩) (fun hHeld2 => ?_)
        replace hHeld := hHeld2
        clear hK K hHeld2
        try simp only [Act.put, List.setIfInBounds_toArray, List.set_cons_zero, List.set_cons_succ]
        have hz := hHeld.2.1
        refine wpAnyH_ready (rs := [9]) (by kernel_rfl) (by simp) (AllReadyH.cons (o := _) (by rw [List.getElem?_toArray]; rfl) (fun K hK => ?_) AllReadyH.nil)
        go_simp
        go_at_call 19
        refine (copy_any _ [⟨TI, TF, TC, TS, tb⟩] _ htx (by simp)).mono ?_
        rintro e wc2 ⟨tvc, vsc, rfl, hinv, hBc⟩
        have hco := hinv.txs
        clear hinv
        try replace so1 := so1.below hBc
        try replace so2 := so2.below hBc
        try replace so3 := so3.below hBc
        try replace h8 := (hBc.block _ (by have := h8s; omega)).trans h8
        try replace h8s := Nat.le_trans h8s hBc.size
        refine hK.out _ _ (⟨hHeld.1.trans (hBc.mono (by have := hHeld.2.1; omega)), Nat.le_trans hHeld.2.1 hBc.size, hHeld.2.2.keep hBc⟩) (fun hHeld2 => ?_)
        replace hHeld := hHeld2
        clear hK K hHeld2
        try simp only [Act.put, List.setIfInBounds_toArray, List.set_cons_zero, List.set_cons_succ]
        have hz := hHeld.2.1
        refine wpAnyH_ready (rs := [10]) (by kernel_rfl) (by simp) (AllReadyH.cons (o := _) (by rw [List.getElem?_toArray]; rfl) (fun K hK => ?_) AllReadyH.nil)
        go_simp
        go_at_call 17
        refine (check_any d lvo jvo svo tvc ls [] [] [⟨TI, TF, TC, TS, tb⟩] _ so1.1 so2.1 so3.1 hco).mono ?_
        rintro e wk ⟨rfl, hBk⟩
        rw [HE.out]
        refine hK.out _ _ (⟨hHeld.1.trans (hBk.mono (by have := hHeld.2.1; omega)), Nat.le_trans hHeld.2.1 hBk.size, hHeld.2.2.keep hBk⟩) (fun hHeld2 => ?_)
        replace hHeld := hHeld2
        clear hK K hHeld2
        try simp only [Act.put, List.setIfInBounds_toArray, List.set_cons_zero, List.set_cons_succ]
        refine wpAnyH_take (i := 11) (oi := _) (v := ?_) (by rw [List.getElem?_toArray]; rfl) (by kernel_rfl) (by kernel_rfl) (by kernel_rfl) (by exact fun _ _ _ h => h) (Or.inl ⟨by rfl, ?_⟩) (by assumption) ?_
        rotate_left
        · intro w hSw
          try simp only [Cells, blk, List.cons_append, List.nil_append, and_true, Nat.reduceAdd, Nat.add_zero, Nat.zero_add] at hSw
          go_simp
          try with_reducible rfl
        simp only [Act.put, List.setIfInBounds_toArray, List.set_cons_zero, List.set_cons_succ]
        refine wpAnyH_take (i := 12) (oi := _) (v := ?_) (by rw [List.getElem?_toArray]; rfl) (by kernel_rfl) (by kernel_rfl) (by kernel_rfl) (by exact fun _ _ _ h => h) (Or.inl ⟨by rfl, ?_⟩) (by assumption) ?_
        rotate_left
        · intro w hSw
          try simp only [Cells, blk, List.cons_append, List.nil_append, and_true, Nat.reduceAdd, Nat.add_zero, Nat.zero_add] at hSw
          go_simp
          try with_reducible rfl
        simp only [Act.put, List.setIfInBounds_toArray, List.set_cons_zero, List.set_cons_succ]
        refine wpAnyH_done (by kernel_rfl) ?_ _
        go_wp2_with fail
        go_meet
        exact ⟨rfl, hHeld.1⟩
    case rest =>
    obtain ⟨rfl, hBU⟩ := hcut
    rename World => U
    have TU := TV.keep hBU
    have hCU := hCV.trans (hBU.mono hCV.size)
    have hsU := Nat.le_trans hsV hBU.size
    by_cases hE0 : E = 0
    · subst hE0
      obtain ⟨hd8, hfit, _⟩ := check_fits HE.out
      have hft := hfit _ (List.mem_singleton.2 rfl)
      unfold Fits at hft
      simp only at hft
      obtain ⟨r, hr⟩ : ∃ r, rngB ls TF dev = r := ⟨_, rfl⟩
      obtain ⟨okv, hokv⟩ : ∃ b, okB ls dev LC LS LE ⟨TI, TF, TC, TS, tb⟩ = b := ⟨_, rfl⟩
      have hokp : okv = (decide (TC = LC) && decide (LS ≤ TS) && decide (TS < LE) && r) := by rw [← hokv, ← hr]; rfl
      obtain ⟨RC, OKF, hrc1, hrc2, hhr, hhf⟩ : ∃ (RC : Rc) (F : Int), (okv = true → RC = ⟨TI, dev, 1, TS, endI TS tb.length, tb⟩) ∧ (okv = false → RC = noRc) ∧
          (bestE (okK ls dev LC LS LE [⟨TI, TF, TC, TS, tb⟩]) (ltE [⟨TI, TF, TC, TS, tb⟩]) [(⟨TI, TF, TC, TS, tb⟩ : Tr)].length = F ∧ hearR ls [] [] [⟨TI, TF, TC, TS, tb⟩] dev F = RC) ∧ decide (0 ≤ F) = okv := by
        cases okv
        · have q := alone_not hokv
          exact ⟨noRc, -1, (fun h => by cases h), fun _ => rfl, q, rfl⟩
        · have q := alone_heard hokv
          exact ⟨_, 0, fun _ => rfl, (fun h => by cases h), q, rfl⟩
      obtain ⟨r0, r1, r2, r3, r4, rb⟩ := RC
      have ch : ∀ (lvo jvo svo tvc : Value) (W' : World), SR W' lvo ls.length 2 (tcells ls) → SR W' jvo 0 3 (jcells []) → SR W' svo 0 2 (tcells []) → Txs W' tvc [⟨TI, TF, TC, TS, tb⟩] →
          Calls Try.prog 26 #[.agg #[.int .i64 d, lvo, jvo, svo], tvc, .agg #[.int .i64 dev, .int .i64 LC, .int .i64 LS, .int .i64 LE]] W'
            fun e w' => ∃ va, e = .returned (.tuple #[.agg #[.int .i64 r0, .int .i64 r1, .int .i64 r2, .int .i64 r3, .int .i64 r4, va], .bool okv]) ∧ BytesO W'.heap.size w' va rb ∧ Below W'.heap.size W' w' := fun lvo jvo svo tvc W' g1 g2 g3 g4 => by
        refine (hear_any d lvo jvo svo tvc ls [] [] [⟨TI, TF, TC, TS, tb⟩] dev LC LS LE W' hfit g1 g2 g3 g4).mono ?_
        rintro e w' ⟨va, rfl, hva, hB⟩
        rw [hhr.1, hhr.2] at hva ⊢
        rw [hhf]
        exact ⟨va, rfl, hva, hB⟩
      have CH := Lib.hid ch
      have HRC1 := Lib.hid hrc1
      have HRC2 := Lib.hid hrc2
      have HOKP := Lib.hid hokp
      have HR := Lib.hid hr
      clear ch hrc1 hrc2 hhr hhf hokp hokv hfit hr
      go_upto_region 6 with fail
      go_cut [7, 8] (fun p ok wx => ∃ i va, p = .pointer (some ⟨i, 0, none⟩) ∧ ok = .bool okv ∧ wx.heap[i]? = some (.cells #[.int .i64 r0, .int .i64 r1, .int .i64 r2, .int .i64 r3, .int .i64 r4, va] 47 (0, 0)) ∧ BytesAt wx va rb ∧ Below U.heap.size U wx)
      case first =>
        refine wp_region_held_drew (S := (fun W' : World => Below U.heap.size U W' ∧ U.heap.size ≤ W'.heap.size ∧ Cells W' (blk w.heap.size 0 0 [.int .i64 d, .slice al n1 cl, .slice none 0 0, .slice none 0 0] ++ (blk (w.heap.size + 1) 0 0 [.int .i64 TI, .int .i64 TF, .int .i64 TC, .int .i64 TS, .slice ta tb.length tc] ++ blk (w.heap.size + 1 + 1) 0 0 [.int .i64 dev, .int .i64 LC, .int .i64 LS, .int .i64 LE])))) (by kernel_rfl) (⟨(Below.refl _ _).drew, Nat.le_refl _, TU.drew⟩) (fun hHeld => ?_)
        generalize World.drew _ = wd at hHeld ⊢
        have hz := hHeld.2.1
        refine wpAnyH_take (i := 0) (oi := _) (v := ?_) (by rw [List.getElem?_toArray]; rfl) (by kernel_rfl) (by kernel_rfl) (by kernel_rfl) (by exact fun _ _ _ h => h) (Or.inl ⟨by rfl, ?_⟩) (by assumption) ?_
        rotate_left
        · intro w hSw
          try simp only [Cells, blk, List.cons_append, List.nil_append, and_true, Nat.reduceAdd, Nat.add_zero, Nat.zero_add] at hSw
          go_simp
          try with_reducible rfl
        simp only [Act.put, List.setIfInBounds_toArray, List.set_cons_zero, List.set_cons_succ]
        refine wpAnyH_take (i := 2) (oi := _) (v := ?_) (by rw [List.getElem?_toArray]; rfl) (by kernel_rfl) (by kernel_rfl) (by kernel_rfl) (by exact fun _ _ _ h => h) (Or.inl ⟨by rfl, ?_⟩) (by assumption) ?_
        rotate_left
        · intro w hSw
          try simp only [Cells, blk, List.cons_append, List.nil_append, and_true, Nat.reduceAdd, Nat.add_zero, Nat.zero_add] at hSw
          go_simp
          try with_reducible rfl
        simp only [Act.put, List.setIfInBounds_toArray, List.set_cons_zero, List.set_cons_succ]
        refine wpAnyH_take (i := 5) (oi := _) (v := ?_) (by rw [List.getElem?_toArray]; rfl) (by kernel_rfl) (by kernel_rfl) (by kernel_rfl) (by exact fun _ _ _ h => h) (Or.inl ⟨by rfl, ?_⟩) (by assumption) ?_
        rotate_left
        · intro w hSw
          try simp only [Cells, blk, List.cons_append, List.nil_append, and_true, Nat.reduceAdd, Nat.add_zero, Nat.zero_add] at hSw
          go_simp
          try with_reducible rfl
        simp only [Act.put, List.setIfInBounds_toArray, List.set_cons_zero, List.set_cons_succ]
        refine wpAnyH_ready (rs := [1, 3, 10]) (by kernel_rfl) (by simp) (AllReadyH.cons (o := _) (by rw [List.getElem?_toArray]; rfl) (fun K hK => ?_) (AllReadyH.cons (o := _) (by rw [List.getElem?_toArray]; rfl) (fun K hK => ?_) (AllReadyH.cons (o := _) (by rw [List.getElem?_toArray]; rfl) (fun K hK => ?_) AllReadyH.nil)))
        · go_simp
          go_at_call 18
          refine (own_any d (.slice al n1 cl) (.slice none 0 0) (.slice none 0 0) ls [] [] _ (HLW.out.below (hCU.trans (hHeld.1.mono hCU.size))) (sr_nil _ _) (sr_nil _ _) HLB.out (by simp) (by simp)).mono ?_
          rintro e wo ⟨lvo, jvo, svo, rfl, so1, so2, so3, hBo⟩
          try replace htx := htx.below hBo
          try replace hco := hco.below hBo
          try replace h8 := (hBo.block _ (by have := h8s; omega)).trans h8
          try replace h8s := Nat.le_trans h8s hBo.size
          refine hK.out _ _ (⟨hHeld.1.trans (hBo.mono (by have := hHeld.2.1; omega)), Nat.le_trans hHeld.2.1 hBo.size, hHeld.2.2.keep hBo⟩) (fun hHeld2 => ?_)
          replace hHeld := hHeld2
          clear hK K hHeld2
          try simp only [Act.put, List.setIfInBounds_toArray, List.set_cons_zero, List.set_cons_succ]
          have hz := hHeld.2.1
          refine wpAnyH_ready (rs := [3, 10]) (by kernel_rfl) (by simp) (AllReadyH.cons (o := _) (by rw [List.getElem?_toArray]; rfl) (fun K hK => ?_) (AllReadyH.cons (o := _) (by rw [List.getElem?_toArray]; rfl) (fun K hK => ?_) AllReadyH.nil))
          · go_simp
            generalize hX : World.alloc _ (.cells _ 24) = w2
            obtain ⟨h2, hB2, h2z⟩ := alloc_named hX
            clear hX h2z
            have htx := txs_one (t := ⟨TI, TF, TC, TS, tb⟩) h2 (HBW.out.below (hCU.trans ((hHeld.1.trans (hB2.mono (by have := hHeld.2.1; omega))).mono hCU.size)))
            try replace so1 := so1.below hB2
            try replace so2 := so2.below hB2
            try replace so3 := so3.below hB2
            try replace h8 := (hB2.block _ (by have := h8s; omega)).trans h8
            try replace h8s := Nat.le_trans h8s hB2.size
            refine hK.out _ _ (⟨hHeld.1.trans (hB2.mono (by have := hHeld.2.1; omega)), Nat.le_trans hHeld.2.1 hB2.size, hHeld.2.2.keep hB2⟩) (fun hHeld2 => ?_)
            replace hHeld := hHeld2
            clear hK K hHeld2
            try simp only [Act.put, List.setIfInBounds_toArray, List.set_cons_zero, List.set_cons_succ]
            have hz := hHeld.2.1
            refine wpAnyH_ready (rs := [4, 10]) (by kernel_rfl) (by simp) (AllReadyH.cons (o := _) (by rw [List.getElem?_toArray]; rfl) (fun K hK => ?_) (AllReadyH.cons (o := _) (by rw [List.getElem?_toArray]; rfl) (fun K hK => ?_) AllReadyH.nil))
            · go_simp
              go_at_call 19
              refine (copy_any _ [⟨TI, TF, TC, TS, tb⟩] _ htx (by simp)).mono ?_
              rintro e wc2 ⟨tvc, vsc, rfl, hinv, hBc⟩
              have hco := hinv.txs
              clear hinv
              try replace so1 := so1.below hBc
              try replace so2 := so2.below hBc
              try replace so3 := so3.below hBc
              try replace h8 := (hBc.block _ (by have := h8s; omega)).trans h8
              try replace h8s := Nat.le_trans h8s hBc.size
              refine hK.out _ _ (⟨hHeld.1.trans (hBc.mono (by have := hHeld.2.1; omega)), Nat.le_trans hHeld.2.1 hBc.size, hHeld.2.2.keep hBc⟩) (fun hHeld2 => ?_)
              replace hHeld := hHeld2
              clear hK K hHeld2
              try simp only [Act.put, List.setIfInBounds_toArray, List.set_cons_zero, List.set_cons_succ]
              have hz := hHeld.2.1
              refine wpAnyH_ready (rs := [6, 10]) (by kernel_rfl) (by simp) (AllReadyH.cons (o := _) (by rw [List.getElem?_toArray]; rfl) (fun K hK => ?_) (AllReadyH.cons (o := _) (by rw [List.getElem?_toArray]; rfl) (fun K hK => ?_) AllReadyH.nil))
              · go_simp
                go_at_call 26
                refine (CH.out lvo jvo svo tvc _ so1.1 so2.1 so3.1 hco).mono ?_
                rintro e w4 ⟨va, rfl, hva, hB4⟩
                obtain ⟨xa, xc, rfl⟩ := hva.1.1.val
                have hnl := hva.1.nil_or
                have hvo := hva.2
                have hvb := hva.1
                clear hva
                try have hlow := h8s
                try replace h8 := (hB4.block _ (by have := h8s; omega)).trans h8
                try replace h8s := Nat.le_trans h8s hB4.size
                refine hK.out _ _ (⟨hHeld.1.trans (hB4.mono (by have := hHeld.2.1; omega)), Nat.le_trans hHeld.2.1 hB4.size, hHeld.2.2.keep hB4⟩) (fun hHeld2 => ?_)
                replace hHeld := hHeld2
                clear hK K hHeld2
                try simp only [Act.put, List.setIfInBounds_toArray, List.set_cons_zero, List.set_cons_succ]
                have hz := hHeld.2.1
                try have f0 := cell_of_row _ _ 0 _ _ _ h8
                try have f1 := cell_of_row _ _ 1 _ _ _ h8
                try have f2 := cell_of_row _ _ 2 _ _ _ h8
                try have f3 := cell_of_row _ _ 3 _ _ _ h8
                try have f4 := cell_of_row _ _ 4 _ _ _ h8
                try have f5 := cell_of_row _ _ 5 _ _ _ h8
                try have z0 := frozen_of_row _ _ 0 _ _ h8
                try have z1 := frozen_of_row _ _ 1 _ _ h8
                try have z2 := frozen_of_row _ _ 2 _ _ h8
                try have z3 := frozen_of_row _ _ 3 _ _ h8
                try have z4 := frozen_of_row _ _ 4 _ _ h8
                try have z5 := frozen_of_row _ _ 5 _ _ h8
                try simp at f0 f1 f2 f3 f4 f5
                refine wpAnyH_take (i := 7) (oi := _) (v := ?_) (by rw [List.getElem?_toArray]; rfl) (by kernel_rfl) (by kernel_rfl) (by kernel_rfl) (by exact fun _ _ _ h => h) (Or.inl ⟨by rfl, ?_⟩) (by assumption) ?_
                rotate_left
                · intro w hSw
                  try simp only [Cells, blk, List.cons_append, List.nil_append, and_true, Nat.reduceAdd, Nat.add_zero, Nat.zero_add] at hSw
                  go_simp
                  try with_reducible rfl
                simp only [Act.put, List.setIfInBounds_toArray, List.set_cons_zero, List.set_cons_succ]
                refine wpAnyH_take (i := 8) (oi := _) (v := ?_) (by rw [List.getElem?_toArray]; rfl) (by kernel_rfl) (by kernel_rfl) (by kernel_rfl) (by exact fun _ _ _ h => h) (Or.inl ⟨by rfl, ?_⟩) (by assumption) ?_
                rotate_left
                · intro w hSw
                  try simp only [Cells, blk, List.cons_append, List.nil_append, and_true, Nat.reduceAdd, Nat.add_zero, Nat.zero_add] at hSw
                  go_simp
                  try with_reducible rfl
                simp only [Act.put, List.setIfInBounds_toArray, List.set_cons_zero, List.set_cons_succ]
                refine wpAnyH_take (i := 9) (oi := _) (v := ?_) (by rw [List.getElem?_toArray]; rfl) (by kernel_rfl) (by kernel_rfl) (by kernel_rfl) (by exact fun _ _ _ h => h) (Or.inl ⟨by rfl, ?_⟩) (by assumption) ?_
                rotate_left
                · intro w hSw
                  try simp only [Cells, blk, List.cons_append, List.nil_append, and_true, Nat.reduceAdd, Nat.add_zero, Nat.zero_add] at hSw
                  go_simp
                  try with_reducible rfl
                simp only [Act.put, List.setIfInBounds_toArray, List.set_cons_zero, List.set_cons_succ]
                refine wpAnyH_ready (rs := [10]) (by kernel_rfl) (by simp) (AllReadyH.cons (o := _) (by rw [List.getElem?_toArray]; rfl) (fun K hK => ?_) AllReadyH.nil)
                go_simp
                generalize hX : World.alloc _ (.cells _ 47) = w8
                obtain ⟨h8, hB8, h8z⟩ := alloc_named hX
                clear hX
                refine hK.out _ _ (⟨hHeld.1.trans (hB8.mono (by have := hHeld.2.1; omega)), Nat.le_trans hHeld.2.1 hB8.size, hHeld.2.2.keep hB8⟩) (fun hHeld2 => ?_)
                replace hHeld := hHeld2
                clear hK K hHeld2
                try simp only [Act.put, List.setIfInBounds_toArray, List.set_cons_zero, List.set_cons_succ]
                have h8s := Nat.le_of_eq h8z.symm
                clear h8z
                have hi8 := hz
                have hz := hHeld.2.1
                try replace htx := htx.below hB8
                try replace hco := hco.below hB8
                try replace so1 := so1.below hB8
                try replace so2 := so2.below hB8
                try replace so3 := so3.below hB8
                try replace hvb := hvb.below hB8
                try have f0 := cell_of_row _ _ 0 _ _ _ h8
                try have f1 := cell_of_row _ _ 1 _ _ _ h8
                try have f2 := cell_of_row _ _ 2 _ _ _ h8
                try have f3 := cell_of_row _ _ 3 _ _ _ h8
                try have f4 := cell_of_row _ _ 4 _ _ _ h8
                try have f5 := cell_of_row _ _ 5 _ _ _ h8
                try have z0 := frozen_of_row _ _ 0 _ _ h8
                try have z1 := frozen_of_row _ _ 1 _ _ h8
                try have z2 := frozen_of_row _ _ 2 _ _ h8
                try have z3 := frozen_of_row _ _ 3 _ _ h8
                try have z4 := frozen_of_row _ _ 4 _ _ h8
                try have z5 := frozen_of_row _ _ 5 _ _ h8
                try simp at f0 f1 f2 f3 f4 f5
                refine wpAnyH_ready (rs := [11]) (by kernel_rfl) (by simp) (AllReadyH.cons (o := _) (by rw [List.getElem?_toArray]; rfl) (fun K hK => ?_) AllReadyH.nil)
                go_simp
                generalize hX : World.setCell _ _ _ = w9
                obtain ⟨h9, hg9⟩ := set6 h8 hX
                clear hX
                have hva9 := set6_bytes hg9 hvb (by
                  rcases hnl with e | ⟨b, e1, e2⟩
                  · exact .inl e
                  · refine .inr ⟨b, e1, ?_⟩
                    have := hvo b e1
                    omega)
                refine hK.out _ _ (⟨hHeld.1.grown hg9 (by have := hHeld.2.1; omega) (fun q hq => by have := hi8; simp at hq; omega), Nat.le_trans hHeld.2.1 hg9.size, hHeld.2.2.grown hg9 (fun x hx => by have := hi8; simp [blk] at hx; rcases hx with rfl | rfl | rfl | rfl | rfl | rfl | rfl | rfl | rfl | rfl | rfl | rfl | rfl <;> (simp; omega))⟩) (fun hHeld2 => ?_)
                replace hHeld := hHeld2
                clear hK K hHeld2
                try simp only [Act.put, List.setIfInBounds_toArray, List.set_cons_zero, List.set_cons_succ]
                have hz := hHeld.2.1
                refine wpAnyH_take (i := 12) (oi := _) (v := ?_) (by rw [List.getElem?_toArray]; rfl) (by kernel_rfl) (by kernel_rfl) (by kernel_rfl) (by exact fun _ _ _ h => h) (Or.inl ⟨by rfl, ?_⟩) (by assumption) ?_
                rotate_left
                · intro w hSw
                  try simp only [Cells, blk, List.cons_append, List.nil_append, and_true, Nat.reduceAdd, Nat.add_zero, Nat.zero_add] at hSw
                  go_simp
                  try with_reducible rfl
                simp only [Act.put, List.setIfInBounds_toArray, List.set_cons_zero, List.set_cons_succ]
                refine wpAnyH_done (by kernel_rfl) ?_ _
                go_wp2_with fail
                go_meet
                exact ⟨_, _, rfl, rfl, h9, hva9, hHeld.1⟩
              · go_simp
                generalize hX : World.alloc _ (.cells _ 47) = w8
                obtain ⟨h8, hB8, h8z⟩ := alloc_named hX
                clear hX
                refine hK.out _ _ (⟨hHeld.1.trans (hB8.mono (by have := hHeld.2.1; omega)), Nat.le_trans hHeld.2.1 hB8.size, hHeld.2.2.keep hB8⟩) (fun hHeld2 => ?_)
                replace hHeld := hHeld2
                clear hK K hHeld2
                try simp only [Act.put, List.setIfInBounds_toArray, List.set_cons_zero, List.set_cons_succ]
                have h8s := Nat.le_of_eq h8z.symm
                clear h8z
                have hi8 := hz
                have hz := hHeld.2.1
                try replace htx := htx.below hB8
                try replace hco := hco.below hB8
                try replace so1 := so1.below hB8
                try replace so2 := so2.below hB8
                try replace so3 := so3.below hB8
                try replace hvb := hvb.below hB8
                try have f0 := cell_of_row _ _ 0 _ _ _ h8
                try have f1 := cell_of_row _ _ 1 _ _ _ h8
                try have f2 := cell_of_row _ _ 2 _ _ _ h8
                try have f3 := cell_of_row _ _ 3 _ _ _ h8
                try have f4 := cell_of_row _ _ 4 _ _ _ h8
                try have f5 := cell_of_row _ _ 5 _ _ _ h8
                try have z0 := frozen_of_row _ _ 0 _ _ h8
                try have z1 := frozen_of_row _ _ 1 _ _ h8
                try have z2 := frozen_of_row _ _ 2 _ _ h8
                try have z3 := frozen_of_row _ _ 3 _ _ h8
                try have z4 := frozen_of_row _ _ 4 _ _ h8
                try have z5 := frozen_of_row _ _ 5 _ _ h8
                try simp at f0 f1 f2 f3 f4 f5
                refine wpAnyH_ready (rs := [6]) (by kernel_rfl) (by simp) (AllReadyH.cons (o := _) (by rw [List.getElem?_toArray]; rfl) (fun K hK => ?_) AllReadyH.nil)
                go_simp
                go_at_call 26
                refine (CH.out lvo jvo svo tvc _ so1.1 so2.1 so3.1 hco).mono ?_
                rintro e w4 ⟨va, rfl, hva, hB4⟩
                obtain ⟨xa, xc, rfl⟩ := hva.1.1.val
                have hnl := hva.1.nil_or
                have hvo := hva.2
                have hvb := hva.1
                clear hva
                try have hlow := h8s
                try replace h8 := (hB4.block _ (by have := h8s; omega)).trans h8
                try replace h8s := Nat.le_trans h8s hB4.size
                refine hK.out _ _ (⟨hHeld.1.trans (hB4.mono (by have := hHeld.2.1; omega)), Nat.le_trans hHeld.2.1 hB4.size, hHeld.2.2.keep hB4⟩) (fun hHeld2 => ?_)
                replace hHeld := hHeld2
                clear hK K hHeld2
                try simp only [Act.put, List.setIfInBounds_toArray, List.set_cons_zero, List.set_cons_succ]
                have hz := hHeld.2.1
                try have f0 := cell_of_row _ _ 0 _ _ _ h8
                try have f1 := cell_of_row _ _ 1 _ _ _ h8
                try have f2 := cell_of_row _ _ 2 _ _ _ h8
                try have f3 := cell_of_row _ _ 3 _ _ _ h8
                try have f4 := cell_of_row _ _ 4 _ _ _ h8
                try have f5 := cell_of_row _ _ 5 _ _ _ h8
                try have z0 := frozen_of_row _ _ 0 _ _ h8
                try have z1 := frozen_of_row _ _ 1 _ _ h8
                try have z2 := frozen_of_row _ _ 2 _ _ h8
                try have z3 := frozen_of_row _ _ 3 _ _ h8
                try have z4 := frozen_of_row _ _ 4 _ _ h8
                try have z5 := frozen_of_row _ _ 5 _ _ h8
                try simp at f0 f1 f2 f3 f4 f5
                refine wpAnyH_take (i := 7) (oi := _) (v := ?_) (by rw [List.getElem?_toArray]; rfl) (by kernel_rfl) (by kernel_rfl) (by kernel_rfl) (by exact fun _ _ _ h => h) (Or.inl ⟨by rfl, ?_⟩) (by assumption) ?_
                rotate_left
                · intro w hSw
                  try simp only [Cells, blk, List.cons_append, List.nil_append, and_true, Nat.reduceAdd, Nat.add_zero, Nat.zero_add] at hSw
                  go_simp
                  try with_reducible rfl
                simp only [Act.put, List.setIfInBounds_toArray, List.set_cons_zero, List.set_cons_succ]
                refine wpAnyH_take (i := 8) (oi := _) (v := ?_) (by rw [List.getElem?_toArray]; rfl) (by kernel_rfl) (by kernel_rfl) (by kernel_rfl) (by exact fun _ _ _ h => h) (Or.inl ⟨by rfl, ?_⟩) (by assumption) ?_
                rotate_left
                · intro w hSw
                  try simp only [Cells, blk, List.cons_append, List.nil_append, and_true, Nat.reduceAdd, Nat.add_zero, Nat.zero_add] at hSw
                  go_simp
                  try with_reducible rfl
                simp only [Act.put, List.setIfInBounds_toArray, List.set_cons_zero, List.set_cons_succ]
                refine wpAnyH_take (i := 9) (oi := _) (v := ?_) (by rw [List.getElem?_toArray]; rfl) (by kernel_rfl) (by kernel_rfl) (by kernel_rfl) (by exact fun _ _ _ h => h) (Or.inl ⟨by rfl, ?_⟩) (by assumption) ?_
                rotate_left
                · intro w hSw
                  try simp only [Cells, blk, List.cons_append, List.nil_append, and_true, Nat.reduceAdd, Nat.add_zero, Nat.zero_add] at hSw
                  go_simp
                  try with_reducible rfl
                simp only [Act.put, List.setIfInBounds_toArray, List.set_cons_zero, List.set_cons_succ]
                refine wpAnyH_ready (rs := [11]) (by kernel_rfl) (by simp) (AllReadyH.cons (o := _) (by rw [List.getElem?_toArray]; rfl) (fun K hK => ?_) AllReadyH.nil)
                go_simp
                generalize hX : World.setCell _ _ _ = w9
                obtain ⟨h9, hg9⟩ := set6 h8 hX
                clear hX
                have hva9 := set6_bytes hg9 hvb (by
                  rcases hnl with e | ⟨b, e1, e2⟩
                  · exact .inl e
                  · refine .inr ⟨b, e1, ?_⟩
                    have := hvo b e1
                    omega)
                refine hK.out _ _ (⟨hHeld.1.grown hg9 (by have := hHeld.2.1; omega) (fun q hq => by have := hi8; simp at hq; omega), Nat.le_trans hHeld.2.1 hg9.size, hHeld.2.2.grown hg9 (fun x hx => by have := hi8; simp [blk] at hx; rcases hx with rfl | rfl | rfl | rfl | rfl | rfl | rfl | rfl | rfl | rfl | rfl | rfl | rfl <;> (simp; omega))⟩) (fun hHeld2 => ?_)
                replace hHeld := hHeld2
                clear hK K hHeld2
                try simp only [Act.put, List.setIfInBounds_toArray, List.set_cons_zero, List.set_cons_succ]
                have hz := hHeld.2.1
                refine wpAnyH_take (i := 12) (oi := _) (v := ?_) (by rw [List.getElem?_toArray]; rfl) (by kernel_rfl) (by kernel_rfl) (by kernel_rfl) (by exact fun _ _ _ h => h) (Or.inl ⟨by rfl, ?_⟩) (by assumption) ?_
                rotate_left
                · intro w hSw
                  try simp only [Cells, blk, List.cons_append, List.nil_append, and_true, Nat.reduceAdd, Nat.add_zero, Nat.zero_add] at hSw
                  go_simp
                  try with_reducible rfl
                simp only [Act.put, List.setIfInBounds_toArray, List.set_cons_zero, List.set_cons_succ]
                refine wpAnyH_done (by kernel_rfl) ?_ _
                go_wp2_with fail
                go_meet
                exact ⟨_, _, rfl, rfl, h9, hva9, hHeld.1⟩
            · go_simp
              generalize hX : World.alloc _ (.cells _ 47) = w8
              obtain ⟨h8, hB8, h8z⟩ := alloc_named hX
              clear hX
              refine hK.out _ _ (⟨hHeld.1.trans (hB8.mono (by have := hHeld.2.1; omega)), Nat.le_trans hHeld.2.1 hB8.size, hHeld.2.2.keep hB8⟩) (fun hHeld2 => ?_)
              replace hHeld := hHeld2
              clear hK K hHeld2
              try simp only [Act.put, List.setIfInBounds_toArray, List.set_cons_zero, List.set_cons_succ]
              have h8s := Nat.le_of_eq h8z.symm
              clear h8z
              have hi8 := hz
              have hz := hHeld.2.1
              try replace htx := htx.below hB8
              try replace hco := hco.below hB8
              try replace so1 := so1.below hB8
              try replace so2 := so2.below hB8
              try replace so3 := so3.below hB8
              try replace hvb := hvb.below hB8
              try have f0 := cell_of_row _ _ 0 _ _ _ h8
              try have f1 := cell_of_row _ _ 1 _ _ _ h8
              try have f2 := cell_of_row _ _ 2 _ _ _ h8
              try have f3 := cell_of_row _ _ 3 _ _ _ h8
              try have f4 := cell_of_row _ _ 4 _ _ _ h8
              try have f5 := cell_of_row _ _ 5 _ _ _ h8
              try have z0 := frozen_of_row _ _ 0 _ _ h8
              try have z1 := frozen_of_row _ _ 1 _ _ h8
              try have z2 := frozen_of_row _ _ 2 _ _ h8
              try have z3 := frozen_of_row _ _ 3 _ _ h8
              try have z4 := frozen_of_row _ _ 4 _ _ h8
              try have z5 := frozen_of_row _ _ 5 _ _ h8
              try simp at f0 f1 f2 f3 f4 f5
              refine wpAnyH_ready (rs := [4]) (by kernel_rfl) (by simp) (AllReadyH.cons (o := _) (by rw [List.getElem?_toArray]; rfl) (fun K hK => ?_) AllReadyH.nil)
              go_simp
              go_at_call 19
              refine (copy_any _ [⟨TI, TF, TC, TS, tb⟩] _ htx (by simp)).mono ?_
              rintro e wc2 ⟨tvc, vsc, rfl, hinv, hBc⟩
              have hco := hinv.txs
              clear hinv
              try replace so1 := so1.below hBc
              try replace so2 := so2.below hBc
              try replace so3 := so3.below hBc
              try replace h8 := (hBc.block _ (by have := h8s; omega)).trans h8
              try replace h8s := Nat.le_trans h8s hBc.size
              refine hK.out _ _ (⟨hHeld.1.trans (hBc.mono (by have := hHeld.2.1; omega)), Nat.le_trans hHeld.2.1 hBc.size, hHeld.2.2.keep hBc⟩) (fun hHeld2 => ?_)
              replace hHeld := hHeld2
              clear hK K hHeld2
              try simp only [Act.put, List.setIfInBounds_toArray, List.set_cons_zero, List.set_cons_succ]
              have hz := hHeld.2.1
              refine wpAnyH_ready (rs := [6]) (by kernel_rfl) (by simp) (AllReadyH.cons (o := _) (by rw [List.getElem?_toArray]; rfl) (fun K hK => ?_) AllReadyH.nil)
              go_simp
              go_at_call 26
              refine (CH.out lvo jvo svo tvc _ so1.1 so2.1 so3.1 hco).mono ?_
              rintro e w4 ⟨va, rfl, hva, hB4⟩
              obtain ⟨xa, xc, rfl⟩ := hva.1.1.val
              have hnl := hva.1.nil_or
              have hvo := hva.2
              have hvb := hva.1
              clear hva
              try have hlow := h8s
              try replace h8 := (hB4.block _ (by have := h8s; omega)).trans h8
              try replace h8s := Nat.le_trans h8s hB4.size
              refine hK.out _ _ (⟨hHeld.1.trans (hB4.mono (by have := hHeld.2.1; omega)), Nat.le_trans hHeld.2.1 hB4.size, hHeld.2.2.keep hB4⟩) (fun hHeld2 => ?_)
              replace hHeld := hHeld2
              clear hK K hHeld2
              try simp only [Act.put, List.setIfInBounds_toArray, List.set_cons_zero, List.set_cons_succ]
              have hz := hHeld.2.1
              try have f0 := cell_of_row _ _ 0 _ _ _ h8
              try have f1 := cell_of_row _ _ 1 _ _ _ h8
              try have f2 := cell_of_row _ _ 2 _ _ _ h8
              try have f3 := cell_of_row _ _ 3 _ _ _ h8
              try have f4 := cell_of_row _ _ 4 _ _ _ h8
              try have f5 := cell_of_row _ _ 5 _ _ _ h8
              try have z0 := frozen_of_row _ _ 0 _ _ h8
              try have z1 := frozen_of_row _ _ 1 _ _ h8
              try have z2 := frozen_of_row _ _ 2 _ _ h8
              try have z3 := frozen_of_row _ _ 3 _ _ h8
              try have z4 := frozen_of_row _ _ 4 _ _ h8
              try have z5 := frozen_of_row _ _ 5 _ _ h8
              try simp at f0 f1 f2 f3 f4 f5
              refine wpAnyH_take (i := 7) (oi := _) (v := ?_) (by rw [List.getElem?_toArray]; rfl) (by kernel_rfl) (by kernel_rfl) (by kernel_rfl) (by exact fun _ _ _ h => h) (Or.inl ⟨by rfl, ?_⟩) (by assumption) ?_
              rotate_left
              · intro w hSw
                try simp only [Cells, blk, List.cons_append, List.nil_append, and_true, Nat.reduceAdd, Nat.add_zero, Nat.zero_add] at hSw
                go_simp
                try with_reducible rfl
              simp only [Act.put, List.setIfInBounds_toArray, List.set_cons_zero, List.set_cons_succ]
              refine wpAnyH_take (i := 8) (oi := _) (v := ?_) (by rw [List.getElem?_toArray]; rfl) (by kernel_rfl) (by kernel_rfl) (by kernel_rfl) (by exact fun _ _ _ h => h) (Or.inl ⟨by rfl, ?_⟩) (by assumption) ?_
              rotate_left
              · intro w hSw
                try simp only [Cells, blk, List.cons_append, List.nil_append, and_true, Nat.reduceAdd, Nat.add_zero, Nat.zero_add] at hSw
                go_simp
                try with_reducible rfl
              simp only [Act.put, List.setIfInBounds_toArray, List.set_cons_zero, List.set_cons_succ]
              refine wpAnyH_take (i := 9) (oi := _) (v := ?_) (by rw [List.getElem?_toArray]; rfl) (by kernel_rfl) (by kernel_rfl) (by kernel_rfl) (by exact fun _ _ _ h => h) (Or.inl ⟨by rfl, ?_⟩) (by assumption) ?_
              rotate_left
              · intro w hSw
                try simp only [Cells, blk, List.cons_append, List.nil_append, and_true, Nat.reduceAdd, Nat.add_zero, Nat.zero_add] at hSw
                go_simp
                try with_reducible rfl
              simp only [Act.put, List.setIfInBounds_toArray, List.set_cons_zero, List.set_cons_succ]
              refine wpAnyH_ready (rs := [11]) (by kernel_rfl) (by simp) (AllReadyH.cons (o := _) (by rw [List.getElem?_toArray]; rfl) (fun K hK => ?_) AllReadyH.nil)
              go_simp
              generalize hX : World.setCell _ _ _ = w9
              obtain ⟨h9, hg9⟩ := set6 h8 hX
              clear hX
              have hva9 := set6_bytes hg9 hvb (by
                rcases hnl with e | ⟨b, e1, e2⟩
                · exact .inl e
                · refine .inr ⟨b, e1, ?_⟩
                  have := hvo b e1
                  omega)
              refine hK.out _ _ (⟨hHeld.1.grown hg9 (by have := hHeld.2.1; omega) (fun q hq => by have := hi8; simp at hq; omega), Nat.le_trans hHeld.2.1 hg9.size, hHeld.2.2.grown hg9 (fun x hx => by have := hi8; simp [blk] at hx; rcases hx with rfl | rfl | rfl | rfl | rfl | rfl | rfl | rfl | rfl | rfl | rfl | rfl | rfl <;> (simp; omega))⟩) (fun hHeld2 => ?_)
              replace hHeld := hHeld2
              clear hK K hHeld2
              try simp only [Act.put, List.setIfInBounds_toArray, List.set_cons_zero, List.set_cons_succ]
              have hz := hHeld.2.1
              refine wpAnyH_take (i := 12) (oi := _) (v := ?_) (by rw [List.getElem?_toArray]; rfl) (by kernel_rfl) (by kernel_rfl) (by kernel_rfl) (by exact fun _ _ _ h => h) (Or.inl ⟨by rfl, ?_⟩) (by assumption) ?_
              rotate_left
              · intro w hSw
                try simp only [Cells, blk, List.cons_append, List.nil_append, and_true, Nat.reduceAdd, Nat.add_zero, Nat.zero_add] at hSw
                go_simp
                try with_reducible rfl
              simp only [Act.put, List.setIfInBounds_toArray, List.set_cons_zero, List.set_cons_succ]
              refine wpAnyH_done (by kernel_rfl) ?_ _
              go_wp2_with fail
              go_meet
              exact ⟨_, _, rfl, rfl, h9, hva9, hHeld.1⟩
          · go_simp
            generalize hX : World.alloc _ (.cells _ 47) = w8
            obtain ⟨h8, hB8, h8z⟩ := alloc_named hX
            clear hX
            refine hK.out _ _ (⟨hHeld.1.trans (hB8.mono (by have := hHeld.2.1; omega)), Nat.le_trans hHeld.2.1 hB8.size, hHeld.2.2.keep hB8⟩) (fun hHeld2 => ?_)
            replace hHeld := hHeld2
            clear hK K hHeld2
            try simp only [Act.put, List.setIfInBounds_toArray, List.set_cons_zero, List.set_cons_succ]
            have h8s := Nat.le_of_eq h8z.symm
            clear h8z
            have hi8 := hz
            have hz := hHeld.2.1
            try replace htx := htx.below hB8
            try replace hco := hco.below hB8
            try replace so1 := so1.below hB8
            try replace so2 := so2.below hB8
            try replace so3 := so3.below hB8
            try replace hvb := hvb.below hB8
            try have f0 := cell_of_row _ _ 0 _ _ _ h8
            try have f1 := cell_of_row _ _ 1 _ _ _ h8
            try have f2 := cell_of_row _ _ 2 _ _ _ h8
            try have f3 := cell_of_row _ _ 3 _ _ _ h8
            try have f4 := cell_of_row _ _ 4 _ _ _ h8
            try have f5 := cell_of_row _ _ 5 _ _ _ h8
            try have z0 := frozen_of_row _ _ 0 _ _ h8
            try have z1 := frozen_of_row _ _ 1 _ _ h8
            try have z2 := frozen_of_row _ _ 2 _ _ h8
            try have z3 := frozen_of_row _ _ 3 _ _ h8
            try have z4 := frozen_of_row _ _ 4 _ _ h8
            try have z5 := frozen_of_row _ _ 5 _ _ h8
            try simp at f0 f1 f2 f3 f4 f5
            refine wpAnyH_ready (rs := [3]) (by kernel_rfl) (by simp) (AllReadyH.cons (o := _) (by rw [List.getElem?_toArray]; rfl) (fun K hK => ?_) AllReadyH.nil)
            go_simp
            generalize hX : World.alloc _ (.cells _ 24) = w2
            obtain ⟨h2, hB2, h2z⟩ := alloc_named hX
            clear hX h2z
            have htx := txs_one (t := ⟨TI, TF, TC, TS, tb⟩) h2 (HBW.out.below (hCU.trans ((hHeld.1.trans (hB2.mono (by have := hHeld.2.1; omega))).mono hCU.size)))
            try replace so1 := so1.below hB2
            try replace so2 := so2.below hB2
            try replace so3 := so3.below hB2
            try replace h8 := (hB2.block _ (by have := h8s; omega)).trans h8
            try replace h8s := Nat.le_trans h8s hB2.size
            refine hK.out _ _ (⟨hHeld.1.trans (hB2.mono (by have := hHeld.2.1; omega)), Nat.le_trans hHeld.2.1 hB2.size, hHeld.2.2.keep hB2⟩) (fun hHeld2 => ?_)
            replace hHeld := hHeld2
            clear hK K hHeld2
            try simp only [Act.put, List.setIfInBounds_toArray, List.set_cons_zero, List.set_cons_succ]
            have hz := hHeld.2.1
            refine wpAnyH_ready (rs := [4]) (by kernel_rfl) (by simp) (AllReadyH.cons (o := _) (by rw [List.getElem?_toArray]; rfl) (fun K hK => ?_) AllReadyH.nil)
            go_simp
            go_at_call 19
            refine (copy_any _ [⟨TI, TF, TC, TS, tb⟩] _ htx (by simp)).mono ?_
            rintro e wc2 ⟨tvc, vsc, rfl, hinv, hBc⟩
            have hco := hinv.txs
            clear hinv
            try replace so1 := so1.below hBc
            try replace so2 := so2.below hBc
            try replace so3 := so3.below hBc
            try replace h8 := (hBc.block _ (by have := h8s; omega)).trans h8
            try replace h8s := Nat.le_trans h8s hBc.size
            refine hK.out _ _ (⟨hHeld.1.trans (hBc.mono (by have := hHeld.2.1; omega)), Nat.le_trans hHeld.2.1 hBc.size, hHeld.2.2.keep hBc⟩) (fun hHeld2 => ?_)
            replace hHeld := hHeld2
            clear hK K hHeld2
            try simp only [Act.put, List.setIfInBounds_toArray, List.set_cons_zero, List.set_cons_succ]
            have hz := hHeld.2.1
            refine wpAnyH_ready (rs := [6]) (by kernel_rfl) (by simp) (AllReadyH.cons (o := _) (by rw [List.getElem?_toArray]; rfl) (fun K hK => ?_) AllReadyH.nil)
            go_simp
            go_at_call 26
            refine (CH.out lvo jvo svo tvc _ so1.1 so2.1 so3.1 hco).mono ?_
            rintro e w4 ⟨va, rfl, hva, hB4⟩
            obtain ⟨xa, xc, rfl⟩ := hva.1.1.val
            have hnl := hva.1.nil_or
            have hvo := hva.2
            have hvb := hva.1
            clear hva
            try have hlow := h8s
            try replace h8 := (hB4.block _ (by have := h8s; omega)).trans h8
            try replace h8s := Nat.le_trans h8s hB4.size
            refine hK.out _ _ (⟨hHeld.1.trans (hB4.mono (by have := hHeld.2.1; omega)), Nat.le_trans hHeld.2.1 hB4.size, hHeld.2.2.keep hB4⟩) (fun hHeld2 => ?_)
            replace hHeld := hHeld2
            clear hK K hHeld2
            try simp only [Act.put, List.setIfInBounds_toArray, List.set_cons_zero, List.set_cons_succ]
            have hz := hHeld.2.1
            try have f0 := cell_of_row _ _ 0 _ _ _ h8
            try have f1 := cell_of_row _ _ 1 _ _ _ h8
            try have f2 := cell_of_row _ _ 2 _ _ _ h8
            try have f3 := cell_of_row _ _ 3 _ _ _ h8
            try have f4 := cell_of_row _ _ 4 _ _ _ h8
            try have f5 := cell_of_row _ _ 5 _ _ _ h8
            try have z0 := frozen_of_row _ _ 0 _ _ h8
            try have z1 := frozen_of_row _ _ 1 _ _ h8
            try have z2 := frozen_of_row _ _ 2 _ _ h8
            try have z3 := frozen_of_row _ _ 3 _ _ h8
            try have z4 := frozen_of_row _ _ 4 _ _ h8
            try have z5 := frozen_of_row _ _ 5 _ _ h8
            try simp at f0 f1 f2 f3 f4 f5
            refine wpAnyH_take (i := 7) (oi := _) (v := ?_) (by rw [List.getElem?_toArray]; rfl) (by kernel_rfl) (by kernel_rfl) (by kernel_rfl) (by exact fun _ _ _ h => h) (Or.inl ⟨by rfl, ?_⟩) (by assumption) ?_
            rotate_left
            · intro w hSw
              try simp only [Cells, blk, List.cons_append, List.nil_append, and_true, Nat.reduceAdd, Nat.add_zero, Nat.zero_add] at hSw
              go_simp
              try with_reducible rfl
            simp only [Act.put, List.setIfInBounds_toArray, List.set_cons_zero, List.set_cons_succ]
            refine wpAnyH_take (i := 8) (oi := _) (v := ?_) (by rw [List.getElem?_toArray]; rfl) (by kernel_rfl) (by kernel_rfl) (by kernel_rfl) (by exact fun _ _ _ h => h) (Or.inl ⟨by rfl, ?_⟩) (by assumption) ?_
            rotate_left
            · intro w hSw
              try simp only [Cells, blk, List.cons_append, List.nil_append, and_true, Nat.reduceAdd, Nat.add_zero, Nat.zero_add] at hSw
              go_simp
              try with_reducible rfl
            simp only [Act.put, List.setIfInBounds_toArray, List.set_cons_zero, List.set_cons_succ]
            refine wpAnyH_take (i := 9) (oi := _) (v := ?_) (by rw [List.getElem?_toArray]; rfl) (by kernel_rfl) (by kernel_rfl) (by kernel_rfl) (by exact fun _ _ _ h => h) (Or.inl ⟨by rfl, ?_⟩) (by assumption) ?_
            rotate_left
            · intro w hSw
              try simp only [Cells, blk, List.cons_append, List.nil_append, and_true, Nat.reduceAdd, Nat.add_zero, Nat.zero_add] at hSw
              go_simp
              try with_reducible rfl
            simp only [Act.put, List.setIfInBounds_toArray, List.set_cons_zero, List.set_cons_succ]
            refine wpAnyH_ready (rs := [11]) (by kernel_rfl) (by simp) (AllReadyH.cons (o := _) (by rw [List.getElem?_toArray]; rfl) (fun K hK => ?_) AllReadyH.nil)
            go_simp
            generalize hX : World.setCell _ _ _ = w9
            obtain ⟨h9, hg9⟩ := set6 h8 hX
            clear hX
            have hva9 := set6_bytes hg9 hvb (by
              rcases hnl with e | ⟨b, e1, e2⟩
              · exact .inl e
              · refine .inr ⟨b, e1, ?_⟩
                have := hvo b e1
                omega)
            refine hK.out _ _ (⟨hHeld.1.grown hg9 (by have := hHeld.2.1; omega) (fun q hq => by have := hi8; simp at hq; omega), Nat.le_trans hHeld.2.1 hg9.size, hHeld.2.2.grown hg9 (fun x hx => by have := hi8; simp [blk] at hx; rcases hx with rfl | rfl | rfl | rfl | rfl | rfl | rfl | rfl | rfl | rfl | rfl | rfl | rfl <;> (simp; omega))⟩) (fun hHeld2 => ?_)
            replace hHeld := hHeld2
            clear hK K hHeld2
            try simp only [Act.put, List.setIfInBounds_toArray, List.set_cons_zero, List.set_cons_succ]
            have hz := hHeld.2.1
            refine wpAnyH_take (i := 12) (oi := _) (v := ?_) (by rw [List.getElem?_toArray]; rfl) (by kernel_rfl) (by kernel_rfl) (by kernel_rfl) (by exact fun _ _ _ h => h) (Or.inl ⟨by rfl, ?_⟩) (by assumption) ?_
            rotate_left
            · intro w hSw
              try simp only [Cells, blk, List.cons_append, List.nil_append, and_true, Nat.reduceAdd, Nat.add_zero, Nat.zero_add] at hSw
              go_simp
              try with_reducible rfl
            simp only [Act.put, List.setIfInBounds_toArray, List.set_cons_zero, List.set_cons_succ]
            refine wpAnyH_done (by kernel_rfl) ?_ _
            go_wp2_with fail
            go_meet
            exact ⟨_, _, rfl, rfl, h9, hva9, hHeld.1⟩
        · go_simp
          generalize hX : World.alloc _ (.cells _ 24) = w2
          obtain ⟨h2, hB2, h2z⟩ := alloc_named hX
          clear hX h2z
          have htx := txs_one (t := ⟨TI, TF, TC, TS, tb⟩) h2 (HBW.out.below (hCU.trans ((hHeld.1.trans (hB2.mono (by have := hHeld.2.1; omega))).mono hCU.size)))
          try replace so1 := so1.below hB2
          try replace so2 := so2.below hB2
          try replace so3 := so3.below hB2
          try replace h8 := (hB2.block _ (by have := h8s; omega)).trans h8
          try replace h8s := Nat.le_trans h8s hB2.size
          refine hK.out _ _ (⟨hHeld.1.trans (hB2.mono (by have := hHeld.2.1; omega)), Nat.le_trans hHeld.2.1 hB2.size, hHeld.2.2.keep hB2⟩) (fun hHeld2 => ?_)
          replace hHeld := hHeld2
          clear hK K hHeld2
          try simp only [Act.put, List.setIfInBounds_toArray, List.set_cons_zero, List.set_cons_succ]
          have hz := hHeld.2.1
          refine wpAnyH_ready (rs := [1, 10]) (by kernel_rfl) (by simp) (AllReadyH.cons (o := _) (by rw [List.getElem?_toArray]; rfl) (fun K hK => ?_) (AllReadyH.cons (o := _) (by rw [List.getElem?_toArray]; rfl) (fun K hK => ?_) AllReadyH.nil))
          · go_simp
            go_at_call 18
            refine (own_any d (.slice al n1 cl) (.slice none 0 0) (.slice none 0 0) ls [] [] _ (HLW.out.below (hCU.trans (hHeld.1.mono hCU.size))) (sr_nil _ _) (sr_nil _ _) HLB.out (by simp) (by simp)).mono ?_
            rintro e wo ⟨lvo, jvo, svo, rfl, so1, so2, so3, hBo⟩
            try replace htx := htx.below hBo
            try replace hco := hco.below hBo
            try replace h8 := (hBo.block _ (by have := h8s; omega)).trans h8
            try replace h8s := Nat.le_trans h8s hBo.size
            refine hK.out _ _ (⟨hHeld.1.trans (hBo.mono (by have := hHeld.2.1; omega)), Nat.le_trans hHeld.2.1 hBo.size, hHeld.2.2.keep hBo⟩) (fun hHeld2 => ?_)
            replace hHeld := hHeld2
            clear hK K hHeld2
            try simp only [Act.put, List.setIfInBounds_toArray, List.set_cons_zero, List.set_cons_succ]
            have hz := hHeld.2.1
            refine wpAnyH_ready (rs := [4, 10]) (by kernel_rfl) (by simp) (AllReadyH.cons (o := _) (by rw [List.getElem?_toArray]; rfl) (fun K hK => ?_) (AllReadyH.cons (o := _) (by rw [List.getElem?_toArray]; rfl) (fun K hK => ?_) AllReadyH.nil))
            · go_simp
              go_at_call 19
              refine (copy_any _ [⟨TI, TF, TC, TS, tb⟩] _ htx (by simp)).mono ?_
              rintro e wc2 ⟨tvc, vsc, rfl, hinv, hBc⟩
              have hco := hinv.txs
              clear hinv
              try replace so1 := so1.below hBc
              try replace so2 := so2.below hBc
              try replace so3 := so3.below hBc
              try replace h8 := (hBc.block _ (by have := h8s; omega)).trans h8
              try replace h8s := Nat.le_trans h8s hBc.size
              refine hK.out _ _ (⟨hHeld.1.trans (hBc.mono (by have := hHeld.2.1; omega)), Nat.le_trans hHeld.2.1 hBc.size, hHeld.2.2.keep hBc⟩) (fun hHeld2 => ?_)
              replace hHeld := hHeld2
              clear hK K hHeld2
              try simp only [Act.put, List.setIfInBounds_toArray, List.set_cons_zero, List.set_cons_succ]
              have hz := hHeld.2.1
              refine wpAnyH_ready (rs := [6, 10]) (by kernel_rfl) (by simp) (AllReadyH.cons (o := _) (by rw [List.getElem?_toArray]; rfl) (fun K hK => ?_) (AllReadyH.cons (o := _) (by rw [List.getElem?_toArray]; rfl) (fun K hK => ?_) AllReadyH.nil))
              · go_simp
                go_at_call 26
                refine (CH.out lvo jvo svo tvc _ so1.1 so2.1 so3.1 hco).mono ?_
                rintro e w4 ⟨va, rfl, hva, hB4⟩
                obtain ⟨xa, xc, rfl⟩ := hva.1.1.val
                have hnl := hva.1.nil_or
                have hvo := hva.2
                have hvb := hva.1
                clear hva
                try have hlow := h8s
                try replace h8 := (hB4.block _ (by have := h8s; omega)).trans h8
                try replace h8s := Nat.le_trans h8s hB4.size
                refine hK.out _ _ (⟨hHeld.1.trans (hB4.mono (by have := hHeld.2.1; omega)), Nat.le_trans hHeld.2.1 hB4.size, hHeld.2.2.keep hB4⟩) (fun hHeld2 => ?_)
                replace hHeld := hHeld2
                clear hK K hHeld2
                try simp only [Act.put, List.setIfInBounds_toArray, List.set_cons_zero, List.set_cons_succ]
                have hz := hHeld.2.1
                try have f0 := cell_of_row _ _ 0 _ _ _ h8
                try have f1 := cell_of_row _ _ 1 _ _ _ h8
                try have f2 := cell_of_row _ _ 2 _ _ _ h8
                try have f3 := cell_of_row _ _ 3 _ _ _ h8
                try have f4 := cell_of_row _ _ 4 _ _ _ h8
                try have f5 := cell_of_row _ _ 5 _ _ _ h8
                try have z0 := frozen_of_row _ _ 0 _ _ h8
                try have z1 := frozen_of_row _ _ 1 _ _ h8
                try have z2 := frozen_of_row _ _ 2 _ _ h8
                try have z3 := frozen_of_row _ _ 3 _ _ h8
                try have z4 := frozen_of_row _ _ 4 _ _ h8
                try have z5 := frozen_of_row _ _ 5 _ _ h8
                try simp at f0 f1 f2 f3 f4 f5
                refine wpAnyH_take (i := 7) (oi := _) (v := ?_) (by rw [List.getElem?_toArray]; rfl) (by kernel_rfl) (by kernel_rfl) (by kernel_rfl) (by exact fun _ _ _ h => h) (Or.inl ⟨by rfl, ?_⟩) (by assumption) ?_
                rotate_left
                · intro w hSw
                  try simp only [Cells, blk, List.cons_append, List.nil_append, and_true, Nat.reduceAdd, Nat.add_zero, Nat.zero_add] at hSw
                  go_simp
                  try with_reducible rfl
                simp only [Act.put, List.setIfInBounds_toArray, List.set_cons_zero, List.set_cons_succ]
                refine wpAnyH_take (i := 8) (oi := _) (v := ?_) (by rw [List.getElem?_toArray]; rfl) (by kernel_rfl) (by kernel_rfl) (by kernel_rfl) (by exact fun _ _ _ h => h) (Or.inl ⟨by rfl, ?_⟩) (by assumption) ?_
                rotate_left
                · intro w hSw
                  try simp only [Cells, blk, List.cons_append, List.nil_append, and_true, Nat.reduceAdd, Nat.add_zero, Nat.zero_add] at hSw
                  go_simp
                  try with_reducible rfl
                simp only [Act.put, List.setIfInBounds_toArray, List.set_cons_zero, List.set_cons_succ]
                refine wpAnyH_take (i := 9) (oi := _) (v := ?_) (by rw [List.getElem?_toArray]; rfl) (by kernel_rfl) (by kernel_rfl) (by kernel_rfl) (by exact fun _ _ _ h => h) (Or.inl ⟨by rfl, ?_⟩) (by assumption) ?_
                rotate_left
                · intro w hSw
                  try simp only [Cells, blk, List.cons_append, List.nil_append, and_true, Nat.reduceAdd, Nat.add_zero, Nat.zero_add] at hSw
                  go_simp
                  try with_reducible rfl
                simp only [Act.put, List.setIfInBounds_toArray, List.set_cons_zero, List.set_cons_succ]
                refine wpAnyH_ready (rs := [10]) (by kernel_rfl) (by simp) (AllReadyH.cons (o := _) (by rw [List.getElem?_toArray]; rfl) (fun K hK => ?_) AllReadyH.nil)
                go_simp
                generalize hX : World.alloc _ (.cells _ 47) = w8
                obtain ⟨h8, hB8, h8z⟩ := alloc_named hX
                clear hX
                refine hK.out _ _ (⟨hHeld.1.trans (hB8.mono (by have := hHeld.2.1; omega)), Nat.le_trans hHeld.2.1 hB8.size, hHeld.2.2.keep hB8⟩) (fun hHeld2 => ?_)
                replace hHeld := hHeld2
                clear hK K hHeld2
                try simp only [Act.put, List.setIfInBounds_toArray, List.set_cons_zero, List.set_cons_succ]
                have h8s := Nat.le_of_eq h8z.symm
                clear h8z
                have hi8 := hz
                have hz := hHeld.2.1
                try replace htx := htx.below hB8
                try replace hco := hco.below hB8
                try replace so1 := so1.below hB8
                try replace so2 := so2.below hB8
                try replace so3 := so3.below hB8
                try replace hvb := hvb.below hB8
                try have f0 := cell_of_row _ _ 0 _ _ _ h8
                try have f1 := cell_of_row _ _ 1 _ _ _ h8
                try have f2 := cell_of_row _ _ 2 _ _ _ h8
                try have f3 := cell_of_row _ _ 3 _ _ _ h8
                try have f4 := cell_of_row _ _ 4 _ _ _ h8
                try have f5 := cell_of_row _ _ 5 _ _ _ h8
                try have z0 := frozen_of_row _ _ 0 _ _ h8
                try have z1 := frozen_of_row _ _ 1 _ _ h8
                try have z2 := frozen_of_row _ _ 2 _ _ h8
                try have z3 := frozen_of_row _ _ 3 _ _ h8
                try have z4 := frozen_of_row _ _ 4 _ _ h8
                try have z5 := frozen_of_row _ _ 5 _ _ h8
                try simp at f0 f1 f2 f3 f4 f5
                refine wpAnyH_ready (rs := [11]) (by kernel_rfl) (by simp) (AllReadyH.cons (o := _) (by rw [List.getElem?_toArray]; rfl) (fun K hK => ?_) AllReadyH.nil)
                go_simp
                generalize hX : World.setCell _ _ _ = w9
                obtain ⟨h9, hg9⟩ := set6 h8 hX
                clear hX
                have hva9 := set6_bytes hg9 hvb (by
                  rcases hnl with e | ⟨b, e1, e2⟩
                  · exact .inl e
                  · refine .inr ⟨b, e1, ?_⟩
                    have := hvo b e1
                    omega)
                refine hK.out _ _ (⟨hHeld.1.grown hg9 (by have := hHeld.2.1; omega) (fun q hq => by have := hi8; simp at hq; omega), Nat.le_trans hHeld.2.1 hg9.size, hHeld.2.2.grown hg9 (fun x hx => by have := hi8; simp [blk] at hx; rcases hx with rfl | rfl | rfl | rfl | rfl | rfl | rfl | rfl | rfl | rfl | rfl | rfl | rfl <;> (simp; omega))⟩) (fun hHeld2 => ?_)
                replace hHeld := hHeld2
                clear hK K hHeld2
                try simp only [Act.put, List.setIfInBounds_toArray, List.set_cons_zero, List.set_cons_succ]
                have hz := hHeld.2.1
                refine wpAnyH_take (i := 12) (oi := _) (v := ?_) (by rw [List.getElem?_toArray]; rfl) (by kernel_rfl) (by kernel_rfl) (by kernel_rfl) (by exact fun _ _ _ h => h) (Or.inl ⟨by rfl, ?_⟩) (by assumption) ?_
                rotate_left
                · intro w hSw
                  try simp only [Cells, blk, List.cons_append, List.nil_append, and_true, Nat.reduceAdd, Nat.add_zero, Nat.zero_add] at hSw
                  go_simp
                  try with_reducible rfl
                simp only [Act.put, List.setIfInBounds_toArray, List.set_cons_zero, List.set_cons_succ]
                refine wpAnyH_done (by kernel_rfl) ?_ _
                go_wp2_with fail
                go_meet
                exact ⟨_, _, rfl, rfl, h9, hva9, hHeld.1⟩
              · go_simp
                generalize hX : World.alloc _ (.cells _ 47) = w8
                obtain ⟨h8, hB8, h8z⟩ := alloc_named hX
                clear hX
                refine hK.out _ _ (⟨hHeld.1.trans (hB8.mono (by have := hHeld.2.1; omega)), Nat.le_trans hHeld.2.1 hB8.size, hHeld.2.2.keep hB8⟩) (fun hHeld2 => ?_)
                replace hHeld := hHeld2
                clear hK K hHeld2
                try simp only [Act.put, List.setIfInBounds_toArray, List.set_cons_zero, List.set_cons_succ]
                have h8s := Nat.le_of_eq h8z.symm
                clear h8z
                have hi8 := hz
                have hz := hHeld.2.1
                try replace htx := htx.below hB8
                try replace hco := hco.below hB8
                try replace so1 := so1.below hB8
                try replace so2 := so2.below hB8
                try replace so3 := so3.below hB8
                try replace hvb := hvb.below hB8
                try have f0 := cell_of_row _ _ 0 _ _ _ h8
                try have f1 := cell_of_row _ _ 1 _ _ _ h8
                try have f2 := cell_of_row _ _ 2 _ _ _ h8
                try have f3 := cell_of_row _ _ 3 _ _ _ h8
                try have f4 := cell_of_row _ _ 4 _ _ _ h8
                try have f5 := cell_of_row _ _ 5 _ _ _ h8
                try have z0 := frozen_of_row _ _ 0 _ _ h8
                try have z1 := frozen_of_row _ _ 1 _ _ h8
                try have z2 := frozen_of_row _ _ 2 _ _ h8
                try have z3 := frozen_of_row _ _ 3 _ _ h8
                try have z4 := frozen_of_row _ _ 4 _ _ h8
                try have z5 := frozen_of_row _ _ 5 _ _ h8
                try simp at f0 f1 f2 f3 f4 f5
                refine wpAnyH_ready (rs := [6]) (by kernel_rfl) (by simp) (AllReadyH.cons (o := _) (by rw [List.getElem?_toArray]; rfl) (fun K hK => ?_) AllReadyH.nil)
                go_simp
                go_at_call 26
                refine (CH.out lvo jvo svo tvc _ so1.1 so2.1 so3.1 hco).mono ?_
                rintro e w4 ⟨va, rfl, hva, hB4⟩
                obtain ⟨xa, xc, rfl⟩ := hva.1.1.val
                have hnl := hva.1.nil_or
                have hvo := hva.2
                have hvb := hva.1
                clear hva
                try have hlow := h8s
                try replace h8 := (hB4.block _ (by have := h8s; omega)).trans h8
                try replace h8s := Nat.le_trans h8s hB4.size
                refine hK.out _ _ (⟨hHeld.1.trans (hB4.mono (by have := hHeld.2.1; omega)), Nat.le_trans hHeld.2.1 hB4.size, hHeld.2.2.keep hB4⟩) (fun hHeld2 => ?_)
                replace hHeld := hHeld2
                clear hK K hHeld2
                try simp only [Act.put, List.setIfInBounds_toArray, List.set_cons_zero, List.set_cons_succ]
                have hz := hHeld.2.1
                try have f0 := cell_of_row _ _ 0 _ _ _ h8
                try have f1 := cell_of_row _ _ 1 _ _ _ h8
                try have f2 := cell_of_row _ _ 2 _ _ _ h8
                try have f3 := cell_of_row _ _ 3 _ _ _ h8
                try have f4 := cell_of_row _ _ 4 _ _ _ h8
                try have f5 := cell_of_row _ _ 5 _ _ _ h8
                try have z0 := frozen_of_row _ _ 0 _ _ h8
                try have z1 := frozen_of_row _ _ 1 _ _ h8
                try have z2 := frozen_of_row _ _ 2 _ _ h8
                try have z3 := frozen_of_row _ _ 3 _ _ h8
                try have z4 := frozen_of_row _ _ 4 _ _ h8
                try have z5 := frozen_of_row _ _ 5 _ _ h8
                try simp at f0 f1 f2 f3 f4 f5
                refine wpAnyH_take (i := 7) (oi := _) (v := ?_) (by rw [List.getElem?_toArray]; rfl) (by kernel_rfl) (by kernel_rfl) (by kernel_rfl) (by exact fun _ _ _ h => h) (Or.inl ⟨by rfl, ?_⟩) (by assumption) ?_
                rotate_left
                · intro w hSw
                  try simp only [Cells, blk, List.cons_append, List.nil_append, and_true, Nat.reduceAdd, Nat.add_zero, Nat.zero_add] at hSw
                  go_simp
                  try with_reducible rfl
                simp only [Act.put, List.setIfInBounds_toArray, List.set_cons_zero, List.set_cons_succ]
                refine wpAnyH_take (i := 8) (oi := _) (v := ?_) (by rw [List.getElem?_toArray]; rfl) (by kernel_rfl) (by kernel_rfl) (by kernel_rfl) (by exact fun _ _ _ h => h) (Or.inl ⟨by rfl, ?_⟩) (by assumption) ?_
                rotate_left
                · intro w hSw
                  try simp only [Cells, blk, List.cons_append, List.nil_append, and_true, Nat.reduceAdd, Nat.add_zero, Nat.zero_add] at hSw
                  go_simp
                  try with_reducible rfl
                simp only [Act.put, List.setIfInBounds_toArray, List.set_cons_zero, List.set_cons_succ]
                refine wpAnyH_take (i := 9) (oi := _) (v := ?_) (by rw [List.getElem?_toArray]; rfl) (by kernel_rfl) (by kernel_rfl) (by kernel_rfl) (by exact fun _ _ _ h => h) (Or.inl ⟨by rfl, ?_⟩) (by assumption) ?_
                rotate_left
                · intro w hSw
                  try simp only [Cells, blk, List.cons_append, List.nil_append, and_true, Nat.reduceAdd, Nat.add_zero, Nat.zero_add] at hSw
                  go_simp
                  try with_reducible rfl
                simp only [Act.put, List.setIfInBounds_toArray, List.set_cons_zero, List.set_cons_succ]
                refine wpAnyH_ready (rs := [11]) (by kernel_rfl) (by simp) (AllReadyH.cons (o := _) (by rw [List.getElem?_toArray]; rfl) (fun K hK => ?_) AllReadyH.nil)
                go_simp
                generalize hX : World.setCell _ _ _ = w9
                obtain ⟨h9, hg9⟩ := set6 h8 hX
                clear hX
                have hva9 := set6_bytes hg9 hvb (by
                  rcases hnl with e | ⟨b, e1, e2⟩
                  · exact .inl e
                  · refine .inr ⟨b, e1, ?_⟩
                    have := hvo b e1
                    omega)
                refine hK.out _ _ (⟨hHeld.1.grown hg9 (by have := hHeld.2.1; omega) (fun q hq => by have := hi8; simp at hq; omega), Nat.le_trans hHeld.2.1 hg9.size, hHeld.2.2.grown hg9 (fun x hx => by have := hi8; simp [blk] at hx; rcases hx with rfl | rfl | rfl | rfl | rfl | rfl | rfl | rfl | rfl | rfl | rfl | rfl | rfl <;> (simp; omega))⟩) (fun hHeld2 => ?_)
                replace hHeld := hHeld2
                clear hK K hHeld2
                try simp only [Act.put, List.setIfInBounds_toArray, List.set_cons_zero, List.set_cons_succ]
                have hz := hHeld.2.1
                refine wpAnyH_take (i := 12) (oi := _) (v := ?_) (by rw [List.getElem?_toArray]; rfl) (by kernel_rfl) (by kernel_rfl) (by kernel_rfl) (by exact fun _ _ _ h => h) (Or.inl ⟨by rfl, ?_⟩) (by assumption) ?_
                rotate_left
                · intro w hSw
                  try simp only [Cells, blk, List.cons_append, List.nil_append, and_true, Nat.reduceAdd, Nat.add_zero, Nat.zero_add] at hSw
                  go_simp
                  try with_reducible rfl
                simp only [Act.put, List.setIfInBounds_toArray, List.set_cons_zero, List.set_cons_succ]
                refine wpAnyH_done (by kernel_rfl) ?_ _
                go_wp2_with fail
                go_meet
                exact ⟨_, _, rfl, rfl, h9, hva9, hHeld.1⟩
            · go_simp
              generalize hX : World.alloc _ (.cells _ 47) = w8
              obtain ⟨h8, hB8, h8z⟩ := alloc_named hX
              clear hX
              refine hK.out _ _ (⟨hHeld.1.trans (hB8.mono (by have := hHeld.2.1; omega)), Nat.le_trans hHeld.2.1 hB8.size, hHeld.2.2.keep hB8⟩) (fun hHeld2 => ?_)
              replace hHeld := hHeld2
              clear hK K hHeld2
              try simp only [Act.put, List.setIfInBounds_toArray, List.set_cons_zero, List.set_cons_succ]
              have h8s := Nat.le_of_eq h8z.symm
              clear h8z
              have hi8 := hz
              have hz := hHeld.2.1
              try replace htx := htx.below hB8
              try replace hco := hco.below hB8
              try replace so1 := so1.below hB8
              try replace so2 := so2.below hB8
              try replace so3 := so3.below hB8
              try replace hvb := hvb.below hB8
              try have f0 := cell_of_row _ _ 0 _ _ _ h8
              try have f1 := cell_of_row _ _ 1 _ _ _ h8
              try have f2 := cell_of_row _ _ 2 _ _ _ h8
              try have f3 := cell_of_row _ _ 3 _ _ _ h8
              try have f4 := cell_of_row _ _ 4 _ _ _ h8
              try have f5 := cell_of_row _ _ 5 _ _ _ h8
              try have z0 := frozen_of_row _ _ 0 _ _ h8
              try have z1 := frozen_of_row _ _ 1 _ _ h8
              try have z2 := frozen_of_row _ _ 2 _ _ h8
              try have z3 := frozen_of_row _ _ 3 _ _ h8
              try have z4 := frozen_of_row _ _ 4 _ _ h8
              try have z5 := frozen_of_row _ _ 5 _ _ h8
              try simp at f0 f1 f2 f3 f4 f5
              refine wpAnyH_ready (rs := [4]) (by kernel_rfl) (by simp) (AllReadyH.cons (o := _) (by rw [List.getElem?_toArray]; rfl) (fun K hK => ?_) AllReadyH.nil)
              go_simp
              go_at_call 19
              refine (copy_any _ [⟨TI, TF, TC, TS, tb⟩] _ htx (by simp)).mono ?_
              rintro e wc2 ⟨tvc, vsc, rfl, hinv, hBc⟩
              have hco := hinv.txs
              clear hinv
              try replace so1 := so1.below hBc
              try replace so2 := so2.below hBc
              try replace so3 := so3.below hBc
              try replace h8 := (hBc.block _ (by have := h8s; omega)).trans h8
              try replace h8s := Nat.le_trans h8s hBc.size
              refine hK.out _ _ (⟨hHeld.1.trans (hBc.mono (by have := hHeld.2.1; omega)), Nat.le_trans hHeld.2.1 hBc.size, hHeld.2.2.keep hBc⟩) (fun hHeld2 => ?_)
              replace hHeld := hHeld2
              clear hK K hHeld2
              try simp only [Act.put, List.setIfInBounds_toArray, List.set_cons_zero, List.set_cons_succ]
              have hz := hHeld.2.1
              refine wpAnyH_ready (rs := [6]) (by kernel_rfl) (by simp) (AllReadyH.cons (o := _) (by rw [List.getElem?_toArray]; rfl) (fun K hK => ?_) AllReadyH.nil)
              go_simp
              go_at_call 26
              refine (CH.out lvo jvo svo tvc _ so1.1 so2.1 so3.1 hco).mono ?_
              rintro e w4 ⟨va, rfl, hva, hB4⟩
              obtain ⟨xa, xc, rfl⟩ := hva.1.1.val
              have hnl := hva.1.nil_or
              have hvo := hva.2
              have hvb := hva.1
              clear hva
              try have hlow := h8s
              try replace h8 := (hB4.block _ (by have := h8s; omega)).trans h8
              try replace h8s := Nat.le_trans h8s hB4.size
              refine hK.out _ _ (⟨hHeld.1.trans (hB4.mono (by have := hHeld.2.1; omega)), Nat.le_trans hHeld.2.1 hB4.size, hHeld.2.2.keep hB4⟩) (fun hHeld2 => ?_)
              replace hHeld := hHeld2
              clear hK K hHeld2
              try simp only [Act.put, List.setIfInBounds_toArray, List.set_cons_zero, List.set_cons_succ]
              have hz := hHeld.2.1
              try have f0 := cell_of_row _ _ 0 _ _ _ h8
              try have f1 := cell_of_row _ _ 1 _ _ _ h8
              try have f2 := cell_of_row _ _ 2 _ _ _ h8
              try have f3 := cell_of_row _ _ 3 _ _ _ h8
              try have f4 := cell_of_row _ _ 4 _ _ _ h8
              try have f5 := cell_of_row _ _ 5 _ _ _ h8
              try have z0 := frozen_of_row _ _ 0 _ _ h8
              try have z1 := frozen_of_row _ _ 1 _ _ h8
              try have z2 := frozen_of_row _ _ 2 _ _ h8
              try have z3 := frozen_of_row _ _ 3 _ _ h8
              try have z4 := frozen_of_row _ _ 4 _ _ h8
              try have z5 := frozen_of_row _ _ 5 _ _ h8
              try simp at f0 f1 f2 f3 f4 f5
              refine wpAnyH_take (i := 7) (oi := _) (v := ?_) (by rw [List.getElem?_toArray]; rfl) (by kernel_rfl) (by kernel_rfl) (by kernel_rfl) (by exact fun _ _ _ h => h) (Or.inl ⟨by rfl, ?_⟩) (by assumption) ?_
              rotate_left
              · intro w hSw
                try simp only [Cells, blk, List.cons_append, List.nil_append, and_true, Nat.reduceAdd, Nat.add_zero, Nat.zero_add] at hSw
                go_simp
                try with_reducible rfl
              simp only [Act.put, List.setIfInBounds_toArray, List.set_cons_zero, List.set_cons_succ]
              refine wpAnyH_take (i := 8) (oi := _) (v := ?_) (by rw [List.getElem?_toArray]; rfl) (by kernel_rfl) (by kernel_rfl) (by kernel_rfl) (by exact fun _ _ _ h => h) (Or.inl ⟨by rfl, ?_⟩) (by assumption) ?_
              rotate_left
              · intro w hSw
                try simp only [Cells, blk, List.cons_append, List.nil_append, and_true, Nat.reduceAdd, Nat.add_zero, Nat.zero_add] at hSw
                go_simp
                try with_reducible rfl
              simp only [Act.put, List.setIfInBounds_toArray, List.set_cons_zero, List.set_cons_succ]
              refine wpAnyH_take (i := 9) (oi := _) (v := ?_) (by rw [List.getElem?_toArray]; rfl) (by kernel_rfl) (by kernel_rfl) (by kernel_rfl) (by exact fun _ _ _ h => h) (Or.inl ⟨by rfl, ?_⟩) (by assumption) ?_
              rotate_left
              · intro w hSw
                try simp only [Cells, blk, List.cons_append, List.nil_append, and_true, Nat.reduceAdd, Nat.add_zero, Nat.zero_add] at hSw
                go_simp
                try with_reducible rfl
              simp only [Act.put, List.setIfInBounds_toArray, List.set_cons_zero, List.set_cons_succ]
              refine wpAnyH_ready (rs := [11]) (by kernel_rfl) (by simp) (AllReadyH.cons (o := _) (by rw [List.getElem?_toArray]; rfl) (fun K hK => ?_) AllReadyH.nil)
              go_simp
              generalize hX : World.setCell _ _ _ = w9
              obtain ⟨h9, hg9⟩ := set6 h8 hX
              clear hX
              have hva9 := set6_bytes hg9 hvb (by
                rcases hnl with e | ⟨b, e1, e2⟩
                · exact .inl e
                · refine .inr ⟨b, e1, ?_⟩
                  have := hvo b e1
                  omega)
              refine hK.out _ _ (⟨hHeld.1.grown hg9 (by have := hHeld.2.1; omega) (fun q hq => by have := hi8; simp at hq; omega), Nat.le_trans hHeld.2.1 hg9.size, hHeld.2.2.grown hg9 (fun x hx => by have := hi8; simp [blk] at hx; rcases hx with rfl | rfl | rfl | rfl | rfl | rfl | rfl | rfl | rfl | rfl | rfl | rfl | rfl <;> (simp; omega))⟩) (fun hHeld2 => ?_)
              replace hHeld := hHeld2
              clear hK K hHeld2
              try simp only [Act.put, List.setIfInBounds_toArray, List.set_cons_zero, List.set_cons_succ]
              have hz := hHeld.2.1
              refine wpAnyH_take (i := 12) (oi := _) (v := ?_) (by rw [List.getElem?_toArray]; rfl) (by kernel_rfl) (by kernel_rfl) (by kernel_rfl) (by exact fun _ _ _ h => h) (Or.inl ⟨by rfl, ?_⟩) (by assumption) ?_
              rotate_left
              · intro w hSw
                try simp only [Cells, blk, List.cons_append, List.nil_append, and_true, Nat.reduceAdd, Nat.add_zero, Nat.zero_add] at hSw
                go_simp
                try with_reducible rfl
              simp only [Act.put, List.setIfInBounds_toArray, List.set_cons_zero, List.set_cons_succ]
              refine wpAnyH_done (by kernel_rfl) ?_ _
              go_wp2_with fail
              go_meet
              exact ⟨_, _, rfl, rfl, h9, hva9, hHeld.1⟩
          · go_simp
            generalize hX : World.alloc _ (.cells _ 47) = w8
            obtain ⟨h8, hB8, h8z⟩ := alloc_named hX
            clear hX
            refine hK.out _ _ (⟨hHeld.1.trans (hB8.mono (by have := hHeld.2.1; omega)), Nat.le_trans hHeld.2.1 hB8.size, hHeld.2.2.keep hB8⟩) (fun hHeld2 => ?_)
            replace hHeld := hHeld2
            clear hK K hHeld2
            try simp only [Act.put, List.setIfInBounds_toArray, List.set_cons_zero, List.set_cons_succ]
            have h8s := Nat.le_of_eq h8z.symm
            clear h8z
            have hi8 := hz
            have hz := hHeld.2.1
            try replace htx := htx.below hB8
            try replace hco := hco.below hB8
            try replace so1 := so1.below hB8
            try replace so2 := so2.below hB8
            try replace so3 := so3.below hB8
            try replace hvb := hvb.below hB8
            try have f0 := cell_of_row _ _ 0 _ _ _ h8
            try have f1 := cell_of_row _ _ 1 _ _ _ h8
            try have f2 := cell_of_row _ _ 2 _ _ _ h8
            try have f3 := cell_of_row _ _ 3 _ _ _ h8
            try have f4 := cell_of_row _ _ 4 _ _ _ h8
            try have f5 := cell_of_row _ _ 5 _ _ _ h8
            try have z0 := frozen_of_row _ _ 0 _ _ h8
            try have z1 := frozen_of_row _ _ 1 _ _ h8
            try have z2 := frozen_of_row _ _ 2 _ _ h8
            try have z3 := frozen_of_row _ _ 3 _ _ h8
            try have z4 := frozen_of_row _ _ 4 _ _ h8
            try have z5 := frozen_of_row _ _ 5 _ _ h8
            try simp at f0 f1 f2 f3 f4 f5
            refine wpAnyH_ready (rs := [1]) (by kernel_rfl) (by simp) (AllReadyH.cons (o := _) (by rw [List.getElem?_toArray]; rfl) (fun K hK => ?_) AllReadyH.nil)
            go_simp
            go_at_call 18
            refine (own_any d (.slice al n1 cl) (.slice none 0 0) (.slice none 0 0) ls [] [] _ (HLW.out.below (hCU.trans (hHeld.1.mono hCU.size))) (sr_nil _ _) (sr_nil _ _) HLB.out (by simp) (by simp)).mono ?_
            rintro e wo ⟨lvo, jvo, svo, rfl, so1, so2, so3, hBo⟩
            try replace htx := htx.below hBo
            try replace hco := hco.below hBo
            try replace h8 := (hBo.block _ (by have := h8s; omega)).trans h8
            try replace h8s := Nat.le_trans h8s hBo.size
            refine hK.out _ _ (⟨hHeld.1.trans (hBo.mono (by have := hHeld.2.1; omega)), Nat.le_trans hHeld.2.1 hBo.size, hHeld.2.2.keep hBo⟩) (fun hHeld2 => ?_)
            replace hHeld := hHeld2
            clear hK K hHeld2
            try simp only [Act.put, List.setIfInBounds_toArray, List.set_cons_zero, List.set_cons_succ]
            have hz := hHeld.2.1
            refine wpAnyH_ready (rs := [4]) (by kernel_rfl) (by simp) (AllReadyH.cons (o := _) (by rw [List.getElem?_toArray]; rfl) (fun K hK => ?_) AllReadyH.nil)
            go_simp
            go_at_call 19
            refine (copy_any _ [⟨TI, TF, TC, TS, tb⟩] _ htx (by simp)).mono ?_
            rintro e wc2 ⟨tvc, vsc, rfl, hinv, hBc⟩
            have hco := hinv.txs
            clear hinv
            try replace so1 := so1.below hBc
            try replace so2 := so2.below hBc
            try replace so3 := so3.below hBc
            try replace h8 := (hBc.block _ (by have := h8s; omega)).trans h8
            try replace h8s := Nat.le_trans h8s hBc.size
            refine hK.out _ _ (⟨hHeld.1.trans (hBc.mono (by have := hHeld.2.1; omega)), Nat.le_trans hHeld.2.1 hBc.size, hHeld.2.2.keep hBc⟩) (fun hHeld2 => ?_)
            replace hHeld := hHeld2
            clear hK K hHeld2
            try simp only [Act.put, List.setIfInBounds_toArray, List.set_cons_zero, List.set_cons_succ]
            have hz := hHeld.2.1
            refine wpAnyH_ready (rs := [6]) (by kernel_rfl) (by simp) (AllReadyH.cons (o := _) (by rw [List.getElem?_toArray]; rfl) (fun K hK => ?_) AllReadyH.nil)
            go_simp
            go_at_call 26
            refine (CH.out lvo jvo svo tvc _ so1.1 so2.1 so3.1 hco).mono ?_
            rintro e w4 ⟨va, rfl, hva, hB4⟩
            obtain ⟨xa, xc, rfl⟩ := hva.1.1.val
            have hnl := hva.1.nil_or
            have hvo := hva.2
            have hvb := hva.1
            clear hva
            try have hlow := h8s
            try replace h8 := (hB4.block _ (by have := h8s; omega)).trans h8
            try replace h8s := Nat.le_trans h8s hB4.size
            refine hK.out _ _ (⟨hHeld.1.trans (hB4.mono (by have := hHeld.2.1; omega)), Nat.le_trans hHeld.2.1 hB4.size, hHeld.2.2.keep hB4⟩) (fun hHeld2 => ?_)
            replace hHeld := hHeld2
            clear hK K hHeld2
            try simp only [Act.put, List.setIfInBounds_toArray, List.set_cons_zero, List.set_cons_succ]
            have hz := hHeld.2.1
            try have f0 := cell_of_row _ _ 0 _ _ _ h8
            try have f1 := cell_of_row _ _ 1 _ _ _ h8
            try have f2 := cell_of_row _ _ 2 _ _ _ h8
            try have f3 := cell_of_row _ _ 3 _ _ _ h8
            try have f4 := cell_of_row _ _ 4 _ _ _ h8
            try have f5 := cell_of_row _ _ 5 _ _ _ h8
            try have z0 := frozen_of_row _ _ 0 _ _ h8
            try have z1 := frozen_of_row _ _ 1 _ _ h8
            try have z2 := frozen_of_row _ _ 2 _ _ h8
            try have z3 := frozen_of_row _ _ 3 _ _ h8
            try have z4 := frozen_of_row _ _ 4 _ _ h8
            try have z5 := frozen_of_row _ _ 5 _ _ h8
            try simp at f0 f1 f2 f3 f4 f5
            refine wpAnyH_take (i := 7) (oi := _) (v := ?_) (by rw [List.getElem?_toArray]; rfl) (by kernel_rfl) (by kernel_rfl) (by kernel_rfl) (by exact fun _ _ _ h => h) (Or.inl ⟨by rfl, ?_⟩) (by assumption) ?_
            rotate_left
            · intro w hSw
              try simp only [Cells, blk, List.cons_append, List.nil_append, and_true, Nat.reduceAdd, Nat.add_zero, Nat.zero_add] at hSw
              go_simp
              try with_reducible rfl
            simp only [Act.put, List.setIfInBounds_toArray, List.set_cons_zero, List.set_cons_succ]
            refine wpAnyH_take (i := 8) (oi := _) (v := ?_) (by rw [List.getElem?_toArray]; rfl) (by kernel_rfl) (by kernel_rfl) (by kernel_rfl) (by exact fun _ _ _ h => h) (Or.inl ⟨by rfl, ?_⟩) (by assumption) ?_
            rotate_left
            · intro w hSw
              try simp only [Cells, blk, List.cons_append, List.nil_append, and_true, Nat.reduceAdd, Nat.add_zero, Nat.zero_add] at hSw
              go_simp
              try with_reducible rfl
            simp only [Act.put, List.setIfInBounds_toArray, List.set_cons_zero, List.set_cons_succ]
            refine wpAnyH_take (i := 9) (oi := _) (v := ?_) (by rw [List.getElem?_toArray]; rfl) (by kernel_rfl) (by kernel_rfl) (by kernel_rfl) (by exact fun _ _ _ h => h) (Or.inl ⟨by rfl, ?_⟩) (by assumption) ?_
            rotate_left
            · intro w hSw
              try simp only [Cells, blk, List.cons_append, List.nil_append, and_true, Nat.reduceAdd, Nat.add_zero, Nat.zero_add] at hSw
              go_simp
              try with_reducible rfl
            simp only [Act.put, List.setIfInBounds_toArray, List.set_cons_zero, List.set_cons_succ]
            refine wpAnyH_ready (rs := [11]) (by kernel_rfl) (by simp) (AllReadyH.cons (o := _) (by rw [List.getElem?_toArray]; rfl) (fun K hK => ?_) AllReadyH.nil)
            go_simp
            generalize hX : World.setCell _ _ _ = w9
            obtain ⟨h9, hg9⟩ := set6 h8 hX
            clear hX
            have hva9 := set6_bytes hg9 hvb (by
              rcases hnl with e | ⟨b, e1, e2⟩
              · exact .inl e
              · refine .inr ⟨b, e1, ?_⟩
                have := hvo b e1
                omega)
            refine hK.out _ _ (⟨hHeld.1.grown hg9 (by have := hHeld.2.1; omega) (fun q hq => by have := hi8; simp at hq; omega), Nat.le_trans hHeld.2.1 hg9.size, hHeld.2.2.grown hg9 (fun x hx => by have := hi8; simp [blk] at hx; rcases hx with rfl | rfl | rfl | rfl | rfl | rfl | rfl | rfl | rfl | rfl | rfl | rfl | rfl <;> (simp; omega))⟩) (fun hHeld2 => ?_)
            replace hHeld := hHeld2
            clear hK K hHeld2
            try simp only [Act.put, List.setIfInBounds_toArray, List.set_cons_zero, List.set_cons_succ]
            have hz := hHeld.2.1
            refine wpAnyH_take (i := 12) (oi := _) (v := ?_) (by rw [List.getElem?_toArray]; rfl) (by kernel_rfl) (by kernel_rfl) (by kernel_rfl) (by exact fun _ _ _ h => h) (Or.inl ⟨by rfl, ?_⟩) (by assumption) ?_
            rotate_left
            · intro w hSw
              try simp only [Cells, blk, List.cons_append, List.nil_append, and_true, Nat.reduceAdd, Nat.add_zero, Nat.zero_add] at hSw
              go_simp
              try with_reducible rfl
            simp only [Act.put, List.setIfInBounds_toArray, List.set_cons_zero, List.set_cons_succ]
            refine wpAnyH_done (by kernel_rfl) ?_ _
            go_wp2_with fail
            go_meet
            exact ⟨_, _, rfl, rfl, h9, hva9, hHeld.1⟩
        · go_simp
          generalize hX : World.alloc _ (.cells _ 47) = w8
          obtain ⟨h8, hB8, h8z⟩ := alloc_named hX
          clear hX
          refine hK.out _ _ (⟨hHeld.1.trans (hB8.mono (by have := hHeld.2.1; omega)), Nat.le_trans hHeld.2.1 hB8.size, hHeld.2.2.keep hB8⟩) (fun hHeld2 => ?_)
          replace hHeld := hHeld2
          clear hK K hHeld2
          try simp only [Act.put, List.setIfInBounds_toArray, List.set_cons_zero, List.set_cons_succ]
          have h8s := Nat.le_of_eq h8z.symm
          clear h8z
          have hi8 := hz
          have hz := hHeld.2.1
          try replace htx := htx.below hB8
          try replace hco := hco.below hB8
          try replace so1 := so1.below hB8
          try replace so2 := so2.below hB8
          try replace so3 := so3.below hB8
          try replace hvb := hvb.below hB8
          try have f0 := cell_of_row _ _ 0 _ _ _ h8
          try have f1 := cell_of_row _ _ 1 _ _ _ h8
          try have f2 := cell_of_row _ _ 2 _ _ _ h8
          try have f3 := cell_of_row _ _ 3 _ _ _ h8
          try have f4 := cell_of_row _ _ 4 _ _ _ h8
          try have f5 := cell_of_row _ _ 5 _ _ _ h8
          try have z0 := frozen_of_row _ _ 0 _ _ h8
          try have z1 := frozen_of_row _ _ 1 _ _ h8
          try have z2 := frozen_of_row _ _ 2 _ _ h8
          try have z3 := frozen_of_row _ _ 3 _ _ h8
          try have z4 := frozen_of_row _ _ 4 _ _ h8
          try have z5 := frozen_of_row _ _ 5 _ _ h8
          try simp at f0 f1 f2 f3 f4 f5
          refine wpAnyH_ready (rs := [1, 3]) (by kernel_rfl) (by simp) (AllReadyH.cons (o := _) (by rw [List.getElem?_toArray]; rfl) (fun K hK => ?_) (AllReadyH.cons (o := _) (by rw [List.getElem?_toArray]; rfl) (fun K hK => ?_) AllReadyH.nil))
          · go_simp
            go_at_call 18
            refine (own_any d (.slice al n1 cl) (.slice none 0 0) (.slice none 0 0) ls [] [] _ (HLW.out.below (hCU.trans (hHeld.1.mono hCU.size))) (sr_nil _ _) (sr_nil _ _) HLB.out (by simp) (by simp)).mono ?_
            rintro e wo ⟨lvo, jvo, svo, rfl, so1, so2, so3, hBo⟩
            try replace htx := htx.below hBo
            try replace hco := hco.below hBo
            try replace h8 := (hBo.block _ (by have := h8s; omega)).trans h8
            try replace h8s := Nat.le_trans h8s hBo.size
            refine hK.out _ _ (⟨hHeld.1.trans (hBo.mono (by have := hHeld.2.1; omega)), Nat.le_trans hHeld.2.1 hBo.size, hHeld.2.2.keep hBo⟩) (fun hHeld2 => ?_)
            replace hHeld := hHeld2
            clear hK K hHeld2
            try simp only [Act.put, List.setIfInBounds_toArray, List.set_cons_zero, List.set_cons_succ]
            have hz := hHeld.2.1
            refine wpAnyH_ready (rs := [3]) (by kernel_rfl) (by simp) (AllReadyH.cons (o := _) (by rw [List.getElem?_toArray]; rfl) (fun K hK => ?_) AllReadyH.nil)
            go_simp
            generalize hX : World.alloc _ (.cells _ 24) = w2
            obtain ⟨h2, hB2, h2z⟩ := alloc_named hX
            clear hX h2z
            have htx := txs_one (t := ⟨TI, TF, TC, TS, tb⟩) h2 (HBW.out.below (hCU.trans ((hHeld.1.trans (hB2.mono (by have := hHeld.2.1; omega))).mono hCU.size)))
            try replace so1 := so1.below hB2
            try replace so2 := so2.below hB2
            try replace so3 := so3.below hB2
            try replace h8 := (hB2.block _ (by have := h8s; omega)).trans h8
            try replace h8s := Nat.le_trans h8s hB2.size
            refine hK.out _ _ (⟨hHeld.1.trans (hB2.mono (by have := hHeld.2.1; omega)), Nat.le_trans hHeld.2.1 hB2.size, hHeld.2.2.keep hB2⟩) (fun hHeld2 => ?_)
            replace hHeld := hHeld2
            clear hK K hHeld2
            try simp only [Act.put, List.setIfInBounds_toArray, List.set_cons_zero, List.set_cons_succ]
            have hz := hHeld.2.1
            refine wpAnyH_ready (rs := [4]) (by kernel_rfl) (by simp) (AllReadyH.cons (o := _) (by rw [List.getElem?_toArray]; rfl) (fun K hK => ?_) AllReadyH.nil)
            go_simp
            go_at_call 19
            refine (copy_any _ [⟨TI, TF, TC, TS, tb⟩] _ htx (by simp)).mono ?_
            rintro e wc2 ⟨tvc, vsc, rfl, hinv, hBc⟩
            have hco := hinv.txs
            clear hinv
            try replace so1 := so1.below hBc
            try replace so2 := so2.below hBc
            try replace so3 := so3.below hBc
            try replace h8 := (hBc.block _ (by have := h8s; omega)).trans h8
            try replace h8s := Nat.le_trans h8s hBc.size
            refine hK.out _ _ (⟨hHeld.1.trans (hBc.mono (by have := hHeld.2.1; omega)), Nat.le_trans hHeld.2.1 hBc.size, hHeld.2.2.keep hBc⟩) (fun hHeld2 => ?_)
            replace hHeld := hHeld2
            clear hK K hHeld2
            try simp only [Act.put, List.setIfInBounds_toArray, List.set_cons_zero, List.set_cons_succ]
            have hz := hHeld.2.1
            refine wpAnyH_ready (rs := [6]) (by kernel_rfl) (by simp) (AllReadyH.cons (o := _) (by rw [List.getElem?_toArray]; rfl) (fun K hK => ?_) AllReadyH.nil)
            go_simp
            go_at_call 26
            refine (CH.out lvo jvo svo tvc _ so1.1 so2.1 so3.1 hco).mono ?_
            rintro e w4 ⟨va, rfl, hva, hB4⟩
            obtain ⟨xa, xc, rfl⟩ := hva.1.1.val
            have hnl := hva.1.nil_or
            have hvo := hva.2
            have hvb := hva.1
            clear hva
            try have hlow := h8s
            try replace h8 := (hB4.block _ (by have := h8s; omega)).trans h8
            try replace h8s := Nat.le_trans h8s hB4.size
            refine hK.out _ _ (⟨hHeld.1.trans (hB4.mono (by have := hHeld.2.1; omega)), Nat.le_trans hHeld.2.1 hB4.size, hHeld.2.2.keep hB4⟩) (fun hHeld2 => ?_)
            replace hHeld := hHeld2
            clear hK K hHeld2
            try simp only [Act.put, List.setIfInBounds_toArray, List.set_cons_zero, List.set_cons_succ]
            have hz := hHeld.2.1
            try have f0 := cell_of_row _ _ 0 _ _ _ h8
            try have f1 := cell_of_row _ _ 1 _ _ _ h8
            try have f2 := cell_of_row _ _ 2 _ _ _ h8
            try have f3 := cell_of_row _ _ 3 _ _ _ h8
            try have f4 := cell_of_row _ _ 4 _ _ _ h8
            try have f5 := cell_of_row _ _ 5 _ _ _ h8
            try have z0 := frozen_of_row _ _ 0 _ _ h8
            try have z1 := frozen_of_row _ _ 1 _ _ h8
            try have z2 := frozen_of_row _ _ 2 _ _ h8
            try have z3 := frozen_of_row _ _ 3 _ _ h8
            try have z4 := frozen_of_row _ _ 4 _ _ h8
            try have z5 := frozen_of_row _ _ 5 _ _ h8
            try simp at f0 f1 f2 f3 f4 f5
            refine wpAnyH_take (i := 7) (oi := _) (v := ?_) (by rw [List.getElem?_toArray]; rfl) (by kernel_rfl) (by kernel_rfl) (by kernel_rfl) (by exact fun _ _ _ h => h) (Or.inl ⟨by rfl, ?_⟩) (by assumption) ?_
            rotate_left
            · intro w hSw
              try simp only [Cells, blk, List.cons_append, List.nil_append, and_true, Nat.reduceAdd, Nat.add_zero, Nat.zero_add] at hSw
              go_simp
              try with_reducible rfl
            simp only [Act.put, List.setIfInBounds_toArray, List.set_cons_zero, List.set_cons_succ]
            refine wpAnyH_take (i := 8) (oi := _) (v := ?_) (by rw [List.getElem?_toArray]; rfl) (by kernel_rfl) (by kernel_rfl) (by kernel_rfl) (by exact fun _ _ _ h => h) (Or.inl ⟨by rfl, ?_⟩) (by assumption) ?_
            rotate_left
            · intro w hSw
              try simp only [Cells, blk, List.cons_append, List.nil_append, and_true, Nat.reduceAdd, Nat.add_zero, Nat.zero_add] at hSw
              go_simp
              try with_reducible rfl
            simp only [Act.put, List.setIfInBounds_toArray, List.set_cons_zero, List.set_cons_succ]
            refine wpAnyH_take (i := 9) (oi := _) (v := ?_) (by rw [List.getElem?_toArray]; rfl) (by kernel_rfl) (by kernel_rfl) (by kernel_rfl) (by exact fun _ _ _ h => h) (Or.inl ⟨by rfl, ?_⟩) (by assumption) ?_
            rotate_left
            · intro w hSw
              try simp only [Cells, blk, List.cons_append, List.nil_append, and_true, Nat.reduceAdd, Nat.add_zero, Nat.zero_add] at hSw
              go_simp
              try with_reducible rfl
            simp only [Act.put, List.setIfInBounds_toArray, List.set_cons_zero, List.set_cons_succ]
            refine wpAnyH_ready (rs := [11]) (by kernel_rfl) (by simp) (AllReadyH.cons (o := _) (by rw [List.getElem?_toArray]; rfl) (fun K hK => ?_) AllReadyH.nil)
            go_simp
            generalize hX : World.setCell _ _ _ = w9
            obtain ⟨h9, hg9⟩ := set6 h8 hX
            clear hX
            have hva9 := set6_bytes hg9 hvb (by
              rcases hnl with e | ⟨b, e1, e2⟩
              · exact .inl e
              · refine .inr ⟨b, e1, ?_⟩
                have := hvo b e1
                omega)
            refine hK.out _ _ (⟨hHeld.1.grown hg9 (by have := hHeld.2.1; omega) (fun q hq => by have := hi8; simp at hq; omega), Nat.le_trans hHeld.2.1 hg9.size, hHeld.2.2.grown hg9 (fun x hx => by have := hi8; simp [blk] at hx; rcases hx with rfl | rfl | rfl | rfl | rfl | rfl | rfl | rfl | rfl | rfl | rfl | rfl | rfl <;> (simp; omega))⟩) (fun hHeld2 => ?_)
            replace hHeld := hHeld2
            clear hK K hHeld2
            try simp only [Act.put, List.setIfInBounds_toArray, List.set_cons_zero, List.set_cons_succ]
            have hz := hHeld.2.1
            refine wpAnyH_take (i := 12) (oi := _) (v := ?_) (by rw [List.getElem?_toArray]; rfl) (by kernel_rfl) (by kernel_rfl) (by kernel_rfl) (by exact fun _ _ _ h => h) (Or.inl ⟨by rfl, ?_⟩) (by assumption) ?_
            rotate_left
            · intro w hSw
              try simp only [Cells, blk, List.cons_append, List.nil_append, and_true, Nat.reduceAdd, Nat.add_zero, Nat.zero_add] at hSw
              go_simp
              try with_reducible rfl
            simp only [Act.put, List.setIfInBounds_toArray, List.set_cons_zero, List.set_cons_succ]
            refine wpAnyH_done (by kernel_rfl) ?_ _
            go_wp2_with fail
            go_meet
            exact ⟨_, _, rfl, rfl, h9, hva9, hHeld.1⟩
          · go_simp
            generalize hX : World.alloc _ (.cells _ 24) = w2
            obtain ⟨h2, hB2, h2z⟩ := alloc_named hX
            clear hX h2z
            have htx := txs_one (t := ⟨TI, TF, TC, TS, tb⟩) h2 (HBW.out.below (hCU.trans ((hHeld.1.trans (hB2.mono (by have := hHeld.2.1; omega))).mono hCU.size)))
            try replace so1 := so1.below hB2
            try replace so2 := so2.below hB2
            try replace so3 := so3.below hB2
            try replace h8 := (hB2.block _ (by have := h8s; omega)).trans h8
            try replace h8s := Nat.le_trans h8s hB2.size
            refine hK.out _ _ (⟨hHeld.1.trans (hB2.mono (by have := hHeld.2.1; omega)), Nat.le_trans hHeld.2.1 hB2.size, hHeld.2.2.keep hB2⟩) (fun hHeld2 => ?_)
            replace hHeld := hHeld2
            clear hK K hHeld2
            try simp only [Act.put, List.setIfInBounds_toArray, List.set_cons_zero, List.set_cons_succ]
            have hz := hHeld.2.1
            refine wpAnyH_ready (rs := [1]) (by kernel_rfl) (by simp) (AllReadyH.cons (o := _) (by rw [List.getElem?_toArray]; rfl) (fun K hK => ?_) AllReadyH.nil)
            go_simp
            go_at_call 18
            refine (own_any d (.slice al n1 cl) (.slice none 0 0) (.slice none 0 0) ls [] [] _ (HLW.out.below (hCU.trans (hHeld.1.mono hCU.size))) (sr_nil _ _) (sr_nil _ _) HLB.out (by simp) (by simp)).mono ?_
            rintro e wo ⟨lvo, jvo, svo, rfl, so1, so2, so3, hBo⟩
            try replace htx := htx.below hBo
            try replace hco := hco.below hBo
            try replace h8 := (hBo.block _ (by have := h8s; omega)).trans h8
            try replace h8s := Nat.le_trans h8s hBo.size
            refine hK.out _ _ (⟨hHeld.1.trans (hBo.mono (by have := hHeld.2.1; omega)), Nat.le_trans hHeld.2.1 hBo.size, hHeld.2.2.keep hBo⟩) (fun hHeld2 => ?_)
            replace hHeld := hHeld2
            clear hK K hHeld2
            try simp only [Act.put, List.setIfInBounds_toArray, List.set_cons_zero, List.set_cons_succ]
            have hz := hHeld.2.1
            refine wpAnyH_ready (rs := [4]) (by kernel_rfl) (by simp) (AllReadyH.cons (o := _) (by rw [List.getElem?_toArray]; rfl) (fun K hK => ?_) AllReadyH.nil)
            go_simp
            go_at_call 19
            refine (copy_any _ [⟨TI, TF, TC, TS, tb⟩] _ htx (by simp)).mono ?_
            rintro e wc2 ⟨tvc, vsc, rfl, hinv, hBc⟩
            have hco := hinv.txs
            clear hinv
            try replace so1 := so1.below hBc
            try replace so2 := so2.below hBc
            try replace so3 := so3.below hBc
            try replace h8 := (hBc.block _ (by have := h8s; omega)).trans h8
            try replace h8s := Nat.le_trans h8s hBc.size
            refine hK.out _ _ (⟨hHeld.1.trans (hBc.mono (by have := hHeld.2.1; omega)), Nat.le_trans hHeld.2.1 hBc.size, hHeld.2.2.keep hBc⟩) (fun hHeld2 => ?_)
            replace hHeld := hHeld2
            clear hK K hHeld2
            try simp only [Act.put, List.setIfInBounds_toArray, List.set_cons_zero, List.set_cons_succ]
            have hz := hHeld.2.1
            refine wpAnyH_ready (rs := [6]) (by kernel_rfl) (by simp) (AllReadyH.cons (o := _) (by rw [List.getElem?_toArray]; rfl) (fun K hK => ?_) AllReadyH.nil)
            go_simp
            go_at_call 26
            refine (CH.out lvo jvo svo tvc _ so1.1 so2.1 so3.1 hco).mono ?_
            rintro e w4 ⟨va, rfl, hva, hB4⟩
            obtain ⟨xa, xc, rfl⟩ := hva.1.1.val
            have hnl := hva.1.nil_or
            have hvo := hva.2
            have hvb := hva.1
            clear hva
            try have hlow := h8s
            try replace h8 := (hB4.block _ (by have := h8s; omega)).trans h8
            try replace h8s := Nat.le_trans h8s hB4.size
            refine hK.out _ _ (⟨hHeld.1.trans (hB4.mono (by have := hHeld.2.1; omega)), Nat.le_trans hHeld.2.1 hB4.size, hHeld.2.2.keep hB4⟩) (fun hHeld2 => ?_)
            replace hHeld := hHeld2
            clear hK K hHeld2
            try simp only [Act.put, List.setIfInBounds_toArray, List.set_cons_zero, List.set_cons_succ]
            have hz := hHeld.2.1
            try have f0 := cell_of_row _ _ 0 _ _ _ h8
            try have f1 := cell_of_row _ _ 1 _ _ _ h8
            try have f2 := cell_of_row _ _ 2 _ _ _ h8
            try have f3 := cell_of_row _ _ 3 _ _ _ h8
            try have f4 := cell_of_row _ _ 4 _ _ _ h8
            try have f5 := cell_of_row _ _ 5 _ _ _ h8
            try have z0 := frozen_of_row _ _ 0 _ _ h8
            try have z1 := frozen_of_row _ _ 1 _ _ h8
            try have z2 := frozen_of_row _ _ 2 _ _ h8
            try have z3 := frozen_of_row _ _ 3 _ _ h8
            try have z4 := frozen_of_row _ _ 4 _ _ h8
            try have z5 := frozen_of_row _ _ 5 _ _ h8
            try simp at f0 f1 f2 f3 f4 f5
            refine wpAnyH_take (i := 7) (oi := _) (v := ?_) (by rw [List.getElem?_toArray]; rfl) (by kernel_rfl) (by kernel_rfl) (by kernel_rfl) (by exact fun _ _ _ h => h) (Or.inl ⟨by rfl, ?_⟩) (by assumption) ?_
            rotate_left
            · intro w hSw
              try simp only [Cells, blk, List.cons_append, List.nil_append, and_true, Nat.reduceAdd, Nat.add_zero, Nat.zero_add] at hSw
              go_simp
              try with_reducible rfl
            simp only [Act.put, List.setIfInBounds_toArray, List.set_cons_zero, List.set_cons_succ]
            refine wpAnyH_take (i := 8) (oi := _) (v := ?_) (by rw [List.getElem?_toArray]; rfl) (by kernel_rfl) (by kernel_rfl) (by kernel_rfl) (by exact fun _ _ _ h => h) (Or.inl ⟨by rfl, ?_⟩) (by assumption) ?_
            rotate_left
            · intro w hSw
              try simp only [Cells, blk, List.cons_append, List.nil_append, and_true, Nat.reduceAdd, Nat.add_zero, Nat.zero_add] at hSw
              go_simp
              try with_reducible rfl
            simp only [Act.put, List.setIfInBounds_toArray, List.set_cons_zero, List.set_cons_succ]
            refine wpAnyH_take (i := 9) (oi := _) (v := ?_) (by rw [List.getElem?_toArray]; rfl) (by kernel_rfl) (by kernel_rfl) (by kernel_rfl) (by exact fun _ _ _ h => h) (Or.inl ⟨by rfl, ?_⟩) (by assumption) ?_
            rotate_left
            · intro w hSw
              try simp only [Cells, blk, List.cons_append, List.nil_append, and_true, Nat.reduceAdd, Nat.add_zero, Nat.zero_add] at hSw
              go_simp
              try with_reducible rfl
            simp only [Act.put, List.setIfInBounds_toArray, List.set_cons_zero, List.set_cons_succ]
            refine wpAnyH_ready (rs := [11]) (by kernel_rfl) (by simp) (AllReadyH.cons (o := _) (by rw [List.getElem?_toArray]; rfl) (fun K hK => ?_) AllReadyH.nil)
            go_simp
            generalize hX : World.setCell _ _ _ = w9
            obtain ⟨h9, hg9⟩ := set6 h8 hX
            clear hX
            have hva9 := set6_bytes hg9 hvb (by
              rcases hnl with e | ⟨b, e1, e2⟩
              · exact .inl e
              · refine .inr ⟨b, e1, ?_⟩
                have := hvo b e1
                omega)
            refine hK.out _ _ (⟨hHeld.1.grown hg9 (by have := hHeld.2.1; omega) (fun q hq => by have := hi8; simp at hq; omega), Nat.le_trans hHeld.2.1 hg9.size, hHeld.2.2.grown hg9 (fun x hx => by have := hi8; simp [blk] at hx; rcases hx with rfl | rfl | rfl | rfl | rfl | rfl | rfl | rfl | rfl | rfl | rfl | rfl | rfl <;> (simp; omega))⟩) (fun hHeld2 => ?_)
            replace hHeld := hHeld2
            clear hK K hHeld2
            try simp only [Act.put, List.setIfInBounds_toArray, List.set_cons_zero, List.set_cons_succ]
            have hz := hHeld.2.1
            refine wpAnyH_take (i := 12) (oi := _) (v := ?_) (by rw [List.getElem?_toArray]; rfl) (by kernel_rfl) (by kernel_rfl) (by kernel_rfl) (by exact fun _ _ _ h => h) (Or.inl ⟨by rfl, ?_⟩) (by assumption) ?_
            rotate_left
            · intro w hSw
              try simp only [Cells, blk, List.cons_append, List.nil_append, and_true, Nat.reduceAdd, Nat.add_zero, Nat.zero_add] at hSw
              go_simp
              try with_reducible rfl
            simp only [Act.put, List.setIfInBounds_toArray, List.set_cons_zero, List.set_cons_succ]
            refine wpAnyH_done (by kernel_rfl) ?_ _
            go_wp2_with fail
            go_meet
            exact ⟨_, _, rfl, rfl, h9, hva9, hHeld.1⟩
      case rest =>
      obtain ⟨i, va, rfl, rfl, hi, hva, hBY⟩ := hcut
      rename World => Y
      have TY := TU.keep hBY
      have hCY := hCU.trans (hBY.mono hCU.size)
      have hiY : i < Y.heap.size := (Array.getElem?_eq_some_iff.1 hi).1
      go_wp2_with fail
      go_upto_region 7 with fail
      go_cut [65] (fun c wx => c = .bool false ∧ Below Y.heap.size Y wx)
      case first =>
        have hokp := HOKP.out
        cases r
        · have hk : okv = false := by rw [hokp]; simp
          subst hk
          clear hokp HRC1 HRC2
          go_wp2_with fail
          refine wp_region_held_drew (S := (fun W' : World => Cells W' (blk w.heap.size 0 0 [.int .i64 d, .slice al n1 cl, .slice none 0 0, .slice none 0 0] ++ (blk (w.heap.size + 1) 0 0 [.int .i64 TI, .int .i64 TF, .int .i64 TC, .int .i64 TS, .slice ta tb.length tc] ++ blk (w.heap.size + 1 + 1) 0 0 [.int .i64 dev, .int .i64 LC, .int .i64 LS, .int .i64 LE])))) (by kernel_rfl) (TY.drew) (fun hHeld => ?_)
          refine wpAnyH_take (i := 0) (oi := _) (v := ?_) (by rw [List.getElem?_toArray]; rfl) (by kernel_rfl) (by kernel_rfl) (by kernel_rfl) (by exact fun _ _ _ h => h) (Or.inl ⟨by rfl, ?_⟩) (by assumption) ?_
          rotate_left
          · intro w hSw
            try simp only [Cells, blk, List.cons_append, List.nil_append, and_true, Nat.reduceAdd, Nat.add_zero, Nat.zero_add] at hSw
            go_simp
            try with_reducible rfl
          simp only [Act.put, List.setIfInBounds_toArray, List.set_cons_zero, List.set_cons_succ]
          refine wpAnyH_take (i := 1) (oi := _) (v := ?_) (by rw [List.getElem?_toArray]; rfl) (by kernel_rfl) (by kernel_rfl) (by kernel_rfl) (by exact fun _ _ _ h => h) (Or.inl ⟨by rfl, ?_⟩) (by assumption) ?_
          rotate_left
          · intro w hSw
            try simp only [Cells, blk, List.cons_append, List.nil_append, and_true, Nat.reduceAdd, Nat.add_zero, Nat.zero_add] at hSw
            go_simp
            try with_reducible rfl
          simp only [Act.put, List.setIfInBounds_toArray, List.set_cons_zero, List.set_cons_succ]
          refine wpAnyH_take (i := 3) (oi := _) (v := ?_) (by rw [List.getElem?_toArray]; rfl) (by kernel_rfl) (by kernel_rfl) (by kernel_rfl) (by exact fun _ _ _ h => h) (Or.inl ⟨by rfl, ?_⟩) (by assumption) ?_
          rotate_left
          · intro w hSw
            try simp only [Cells, blk, List.cons_append, List.nil_append, and_true, Nat.reduceAdd, Nat.add_zero, Nat.zero_add] at hSw
            go_simp
            try with_reducible rfl
          simp only [Act.put, List.setIfInBounds_toArray, List.set_cons_zero, List.set_cons_succ]
          refine wpAnyH_take (i := 4) (oi := _) (v := ?_) (by rw [List.getElem?_toArray]; rfl) (by kernel_rfl) (by kernel_rfl) (by kernel_rfl) (by exact fun _ _ _ h => h) (Or.inl ⟨by rfl, ?_⟩) (by assumption) ?_
          rotate_left
          · intro w hSw
            try simp only [Cells, blk, List.cons_append, List.nil_append, and_true, Nat.reduceAdd, Nat.add_zero, Nat.zero_add] at hSw
            go_simp
            try with_reducible rfl
          simp only [Act.put, List.setIfInBounds_toArray, List.set_cons_zero, List.set_cons_succ]
          refine wpAnyH_take (i := 5) (oi := _) (v := ?_) (by rw [List.getElem?_toArray]; rfl) (by kernel_rfl) (by kernel_rfl) (by kernel_rfl) (by exact fun _ _ _ h => h) (Or.inl ⟨by rfl, ?_⟩) (by assumption) ?_
          rotate_left
          · intro w hSw
            try simp only [Cells, blk, List.cons_append, List.nil_append, and_true, Nat.reduceAdd, Nat.add_zero, Nat.zero_add] at hSw
            go_simp
            try with_reducible rfl
          simp only [Act.put, List.setIfInBounds_toArray, List.set_cons_zero, List.set_cons_succ]
          refine wpAnyH_take (i := 6) (oi := _) (v := ?_) (by rw [List.getElem?_toArray]; rfl) (by kernel_rfl) (by kernel_rfl) (by kernel_rfl) (by exact fun _ _ _ h => h) (Or.inl ⟨by rfl, ?_⟩) (by assumption) ?_
          rotate_left
          · intro w hSw
            try simp only [Cells, blk, List.cons_append, List.nil_append, and_true, Nat.reduceAdd, Nat.add_zero, Nat.zero_add] at hSw
            go_simp
            try with_reducible rfl
          simp only [Act.put, List.setIfInBounds_toArray, List.set_cons_zero, List.set_cons_succ]
          refine wpAnyH_ready (rs := [2]) (by kernel_rfl) (by simp) (AllReadyH.cons (o := _) (by rw [List.getElem?_toArray]; rfl) (fun K hK => ?_) AllReadyH.nil)
          go_simp
          go_at_call 18
          refine (own_any d (.slice al n1 cl) (.slice none 0 0) (.slice none 0 0) ls [] [] _ (HLW.out.below hCY.drew) (sr_nil _ _) (sr_nil _ _) HLB.out (by simp) (by simp)).mono ?_
          rintro e wo ⟨lvo, jvo, svo, rfl, so1, _, _, hBo⟩
          have T5 := Cells.keep (TY.drew) hBo
          have hD5 := (Below.refl Y.heap.size Y).drew.trans hBo
          clear hHeld
          refine hK.out _ _ (T5) (fun hHeld => ?_)
          clear hK K
          try simp only [Act.put, List.setIfInBounds_toArray, List.set_cons_zero, List.set_cons_succ]
          refine wpAnyH_ready (rs := [7]) (by kernel_rfl) (by simp) (AllReadyH.cons (o := _) (by rw [List.getElem?_toArray]; rfl) (fun K hK => ?_) AllReadyH.nil)
          go_simp
          have cr := range_any d lvo jvo svo ls TF dev wo so1.1
          rw [HR.out] at cr
          go_at_call 21
          refine cr.mono ?_
          rintro e w6 ⟨rfl, hB6⟩
          have T6 := T5.keep hB6
          have hD6 := hD5.trans (hB6.mono hD5.size)
          clear hHeld
          refine hK.out _ _ (T6) (fun hHeld => ?_)
          clear hK K
          try simp only [Act.put, List.setIfInBounds_toArray, List.set_cons_zero, List.set_cons_succ]
          refine wpAnyH_take (i := 8) (oi := _) (v := ?_) (by rw [List.getElem?_toArray]; rfl) (by kernel_rfl) (by kernel_rfl) (by kernel_rfl) (by exact fun _ _ _ h => h) (Or.inl ⟨by rfl, ?_⟩) (by assumption) ?_
          rotate_left
          · intro w hSw
            try simp only [Cells, blk, List.cons_append, List.nil_append, and_true, Nat.reduceAdd, Nat.add_zero, Nat.zero_add] at hSw
            go_simp
            try with_reducible rfl
          simp only [Act.put, List.setIfInBounds_toArray, List.set_cons_zero, List.set_cons_succ]
          refine wpAnyH_take (i := 9) (oi := _) (v := undef) (by rw [List.getElem?_toArray]; rfl) (by kernel_rfl) (by kernel_rfl) (by kernel_rfl) (by exact fun _ _ _ h => h) (Or.inr ⟨by rfl, rfl⟩) (by assumption) ?_
          simp only [Act.put, List.setIfInBounds_toArray, List.set_cons_zero, List.set_cons_succ]
          refine wpAnyH_take (i := 10) (oi := _) (v := undef) (by rw [List.getElem?_toArray]; rfl) (by kernel_rfl) (by kernel_rfl) (by kernel_rfl) (by exact fun _ _ _ h => h) (Or.inr ⟨by rfl, rfl⟩) (by assumption) ?_
          simp only [Act.put, List.setIfInBounds_toArray, List.set_cons_zero, List.set_cons_succ]
          refine wpAnyH_take (i := 11) (oi := _) (v := undef) (by rw [List.getElem?_toArray]; rfl) (by kernel_rfl) (by kernel_rfl) (by kernel_rfl) (by exact fun _ _ _ h => h) (Or.inr ⟨by rfl, rfl⟩) (by assumption) ?_
          simp only [Act.put, List.setIfInBounds_toArray, List.set_cons_zero, List.set_cons_succ]
          refine wpAnyH_take (i := 12) (oi := _) (v := undef) (by rw [List.getElem?_toArray]; rfl) (by kernel_rfl) (by kernel_rfl) (by kernel_rfl) (by exact fun _ _ _ h => h) (Or.inr ⟨by rfl, rfl⟩) (by assumption) ?_
          simp only [Act.put, List.setIfInBounds_toArray, List.set_cons_zero, List.set_cons_succ]
          refine wpAnyH_take (i := 13) (oi := _) (v := undef) (by rw [List.getElem?_toArray]; rfl) (by kernel_rfl) (by kernel_rfl) (by kernel_rfl) (by exact fun _ _ _ h => h) (Or.inr ⟨by rfl, rfl⟩) (by assumption) ?_
          simp only [Act.put, List.setIfInBounds_toArray, List.set_cons_zero, List.set_cons_succ]
          refine wpAnyH_take (i := 14) (oi := _) (v := ?_) (by rw [List.getElem?_toArray]; rfl) (by kernel_rfl) (by kernel_rfl) (by kernel_rfl) (by exact fun _ _ _ h => h) (Or.inl ⟨by rfl, ?_⟩) (by assumption) ?_
          rotate_left
          · intro w hSw
            try simp only [Cells, blk, List.cons_append, List.nil_append, and_true, Nat.reduceAdd, Nat.add_zero, Nat.zero_add] at hSw
            go_simp
            try with_reducible rfl
          simp only [Act.put, List.setIfInBounds_toArray, List.set_cons_zero, List.set_cons_succ]
          refine wpAnyH_take (i := 15) (oi := _) (v := ?_) (by rw [List.getElem?_toArray]; rfl) (by kernel_rfl) (by kernel_rfl) (by kernel_rfl) (by exact fun _ _ _ h => h) (Or.inl ⟨by rfl, ?_⟩) (by assumption) ?_
          rotate_left
          · intro w hSw
            try simp only [Cells, blk, List.cons_append, List.nil_append, and_true, Nat.reduceAdd, Nat.add_zero, Nat.zero_add] at hSw
            go_simp
            try with_reducible rfl
          simp only [Act.put, List.setIfInBounds_toArray, List.set_cons_zero, List.set_cons_succ]
          refine wpAnyH_take (i := 16) (oi := _) (v := undef) (by rw [List.getElem?_toArray]; rfl) (by kernel_rfl) (by kernel_rfl) (by kernel_rfl) (by exact fun _ _ _ h => h) (Or.inr ⟨by rfl, rfl⟩) (by assumption) ?_
          simp only [Act.put, List.setIfInBounds_toArray, List.set_cons_zero, List.set_cons_succ]
          refine wpAnyH_take (i := 17) (oi := _) (v := undef) (by rw [List.getElem?_toArray]; rfl) (by kernel_rfl) (by kernel_rfl) (by kernel_rfl) (by exact fun _ _ _ h => h) (Or.inr ⟨by rfl, rfl⟩) (by assumption) ?_
          simp only [Act.put, List.setIfInBounds_toArray, List.set_cons_zero, List.set_cons_succ]
          refine wpAnyH_take (i := 18) (oi := _) (v := undef) (by rw [List.getElem?_toArray]; rfl) (by kernel_rfl) (by kernel_rfl) (by kernel_rfl) (by exact fun _ _ _ h => h) (Or.inr ⟨by rfl, rfl⟩) (by assumption) ?_
          simp only [Act.put, List.setIfInBounds_toArray, List.set_cons_zero, List.set_cons_succ]
          refine wpAnyH_take (i := 19) (oi := _) (v := undef) (by rw [List.getElem?_toArray]; rfl) (by kernel_rfl) (by kernel_rfl) (by kernel_rfl) (by exact fun _ _ _ h => h) (Or.inr ⟨by rfl, rfl⟩) (by assumption) ?_
          simp only [Act.put, List.setIfInBounds_toArray, List.set_cons_zero, List.set_cons_succ]
          refine wpAnyH_take (i := 20) (oi := _) (v := undef) (by rw [List.getElem?_toArray]; rfl) (by kernel_rfl) (by kernel_rfl) (by kernel_rfl) (by exact fun _ _ _ h => h) (Or.inr ⟨by rfl, rfl⟩) (by assumption) ?_
          simp only [Act.put, List.setIfInBounds_toArray, List.set_cons_zero, List.set_cons_succ]
          refine wpAnyH_take (i := 21) (oi := _) (v := ?_) (by rw [List.getElem?_toArray]; rfl) (by kernel_rfl) (by kernel_rfl) (by kernel_rfl) (by exact fun _ _ _ h => h) (Or.inl ⟨by rfl, ?_⟩) (by assumption) ?_
          rotate_left
          · intro w hSw
            try simp only [Cells, blk, List.cons_append, List.nil_append, and_true, Nat.reduceAdd, Nat.add_zero, Nat.zero_add] at hSw
            go_simp
            try with_reducible rfl
          simp only [Act.put, List.setIfInBounds_toArray, List.set_cons_zero, List.set_cons_succ]
          refine wpAnyH_take (i := 22) (oi := _) (v := ?_) (by rw [List.getElem?_toArray]; rfl) (by kernel_rfl) (by kernel_rfl) (by kernel_rfl) (by exact fun _ _ _ h => h) (Or.inl ⟨by rfl, ?_⟩) (by assumption) ?_
          rotate_left
          · intro w hSw
            try simp only [Cells, blk, List.cons_append, List.nil_append, and_true, Nat.reduceAdd, Nat.add_zero, Nat.zero_add] at hSw
            go_simp
            try with_reducible rfl
          simp only [Act.put, List.setIfInBounds_toArray, List.set_cons_zero, List.set_cons_succ]
          refine wpAnyH_take (i := 23) (oi := _) (v := undef) (by rw [List.getElem?_toArray]; rfl) (by kernel_rfl) (by kernel_rfl) (by kernel_rfl) (by exact fun _ _ _ h => h) (Or.inr ⟨by rfl, rfl⟩) (by assumption) ?_
          simp only [Act.put, List.setIfInBounds_toArray, List.set_cons_zero, List.set_cons_succ]
          refine wpAnyH_take (i := 24) (oi := _) (v := undef) (by rw [List.getElem?_toArray]; rfl) (by kernel_rfl) (by kernel_rfl) (by kernel_rfl) (by exact fun _ _ _ h => h) (Or.inr ⟨by rfl, rfl⟩) (by assumption) ?_
          simp only [Act.put, List.setIfInBounds_toArray, List.set_cons_zero, List.set_cons_succ]
          refine wpAnyH_take (i := 25) (oi := _) (v := undef) (by rw [List.getElem?_toArray]; rfl) (by kernel_rfl) (by kernel_rfl) (by kernel_rfl) (by exact fun _ _ _ h => h) (Or.inr ⟨by rfl, rfl⟩) (by assumption) ?_
          simp only [Act.put, List.setIfInBounds_toArray, List.set_cons_zero, List.set_cons_succ]
          refine wpAnyH_take (i := 26) (oi := _) (v := undef) (by rw [List.getElem?_toArray]; rfl) (by kernel_rfl) (by kernel_rfl) (by kernel_rfl) (by exact fun _ _ _ h => h) (Or.inr ⟨by rfl, rfl⟩) (by assumption) ?_
          simp only [Act.put, List.setIfInBounds_toArray, List.set_cons_zero, List.set_cons_succ]
          refine wpAnyH_take (i := 27) (oi := _) (v := undef) (by rw [List.getElem?_toArray]; rfl) (by kernel_rfl) (by kernel_rfl) (by kernel_rfl) (by exact fun _ _ _ h => h) (Or.inr ⟨by rfl, rfl⟩) (by assumption) ?_
          simp only [Act.put, List.setIfInBounds_toArray, List.set_cons_zero, List.set_cons_succ]
          refine wpAnyH_take (i := 28) (oi := _) (v := ?_) (by rw [List.getElem?_toArray]; rfl) (by kernel_rfl) (by kernel_rfl) (by kernel_rfl) (by exact fun _ _ _ h => h) (Or.inl ⟨by rfl, ?_⟩) (by assumption) ?_
          rotate_left
          · intro w hSw
            try simp only [Cells, blk, List.cons_append, List.nil_append, and_true, Nat.reduceAdd, Nat.add_zero, Nat.zero_add] at hSw
            go_simp
            try with_reducible rfl
          simp only [Act.put, List.setIfInBounds_toArray, List.set_cons_zero, List.set_cons_succ]
          refine wpAnyH_take (i := 29) (oi := _) (v := ?_) (by rw [List.getElem?_toArray]; rfl) (by kernel_rfl) (by kernel_rfl) (by kernel_rfl) (by exact fun _ _ _ h => h) (Or.inl ⟨by rfl, ?_⟩) (by assumption) ?_
          rotate_left
          · intro w hSw
            try simp only [Cells, blk, List.cons_append, List.nil_append, and_true, Nat.reduceAdd, Nat.add_zero, Nat.zero_add] at hSw
            go_simp
            try with_reducible rfl
          simp only [Act.put, List.setIfInBounds_toArray, List.set_cons_zero, List.set_cons_succ]
          refine wpAnyH_done (by kernel_rfl) ?_ _
          go_wp2_with fail
          go_meet
          exact ⟨rfl, hD6⟩
        · by_cases q1 : TC = LC
          · have g1 : (TC == LC) = true := by simpa using q1
            by_cases q2 : LS ≤ TS
            · have g2 : decide (LS ≤ TS) = true := by simpa using q2
              by_cases q3 : TS < LE
              · have g3 : decide (TS < LE) = true := by simpa using q3
                have hk : okv = true := by rw [hokp]; simp [q1, q2, q3]
                subst hk
                clear hokp HRC1 HRC2 q1 q2 q3
                go_wp2_with fail
                refine wp_region_held_drew (S := (fun W' : World => Cells W' (blk w.heap.size 0 0 [.int .i64 d, .slice al n1 cl, .slice none 0 0, .slice none 0 0] ++ (blk (w.heap.size + 1) 0 0 [.int .i64 TI, .int .i64 TF, .int .i64 TC, .int .i64 TS, .slice ta tb.length tc] ++ blk (w.heap.size + 1 + 1) 0 0 [.int .i64 dev, .int .i64 LC, .int .i64 LS, .int .i64 LE])))) (by kernel_rfl) (TY.drew) (fun hHeld => ?_)
                refine wpAnyH_take (i := 0) (oi := _) (v := ?_) (by rw [List.getElem?_toArray]; rfl) (by kernel_rfl) (by kernel_rfl) (by kernel_rfl) (by exact fun _ _ _ h => h) (Or.inl ⟨by rfl, ?_⟩) (by assumption) ?_
                rotate_left
                · intro w hSw
                  try simp only [Cells, blk, List.cons_append, List.nil_append, and_true, Nat.reduceAdd, Nat.add_zero, Nat.zero_add] at hSw
                  go_simp
                  try with_reducible rfl
                simp only [Act.put, List.setIfInBounds_toArray, List.set_cons_zero, List.set_cons_succ]
                refine wpAnyH_take (i := 1) (oi := _) (v := ?_) (by rw [List.getElem?_toArray]; rfl) (by kernel_rfl) (by kernel_rfl) (by kernel_rfl) (by exact fun _ _ _ h => h) (Or.inl ⟨by rfl, ?_⟩) (by assumption) ?_
                rotate_left
                · intro w hSw
                  try simp only [Cells, blk, List.cons_append, List.nil_append, and_true, Nat.reduceAdd, Nat.add_zero, Nat.zero_add] at hSw
                  go_simp
                  try with_reducible rfl
                simp only [Act.put, List.setIfInBounds_toArray, List.set_cons_zero, List.set_cons_succ]
                refine wpAnyH_take (i := 3) (oi := _) (v := ?_) (by rw [List.getElem?_toArray]; rfl) (by kernel_rfl) (by kernel_rfl) (by kernel_rfl) (by exact fun _ _ _ h => h) (Or.inl ⟨by rfl, ?_⟩) (by assumption) ?_
                rotate_left
                · intro w hSw
                  try simp only [Cells, blk, List.cons_append, List.nil_append, and_true, Nat.reduceAdd, Nat.add_zero, Nat.zero_add] at hSw
                  go_simp
                  try with_reducible rfl
                simp only [Act.put, List.setIfInBounds_toArray, List.set_cons_zero, List.set_cons_succ]
                refine wpAnyH_take (i := 4) (oi := _) (v := ?_) (by rw [List.getElem?_toArray]; rfl) (by kernel_rfl) (by kernel_rfl) (by kernel_rfl) (by exact fun _ _ _ h => h) (Or.inl ⟨by rfl, ?_⟩) (by assumption) ?_
                rotate_left
                · intro w hSw
                  try simp only [Cells, blk, List.cons_append, List.nil_append, and_true, Nat.reduceAdd, Nat.add_zero, Nat.zero_add] at hSw
                  go_simp
                  try with_reducible rfl
                simp only [Act.put, List.setIfInBounds_toArray, List.set_cons_zero, List.set_cons_succ]
                refine wpAnyH_take (i := 5) (oi := _) (v := ?_) (by rw [List.getElem?_toArray]; rfl) (by kernel_rfl) (by kernel_rfl) (by kernel_rfl) (by exact fun _ _ _ h => h) (Or.inl ⟨by rfl, ?_⟩) (by assumption) ?_
                rotate_left
                · intro w hSw
                  try simp only [Cells, blk, List.cons_append, List.nil_append, and_true, Nat.reduceAdd, Nat.add_zero, Nat.zero_add] at hSw
                  go_simp
                  try with_reducible rfl
                simp only [Act.put, List.setIfInBounds_toArray, List.set_cons_zero, List.set_cons_succ]
                refine wpAnyH_take (i := 6) (oi := _) (v := ?_) (by rw [List.getElem?_toArray]; rfl) (by kernel_rfl) (by kernel_rfl) (by kernel_rfl) (by exact fun _ _ _ h => h) (Or.inl ⟨by rfl, ?_⟩) (by assumption) ?_
                rotate_left
                · intro w hSw
                  try simp only [Cells, blk, List.cons_append, List.nil_append, and_true, Nat.reduceAdd, Nat.add_zero, Nat.zero_add] at hSw
                  go_simp
                  try with_reducible rfl
                simp only [Act.put, List.setIfInBounds_toArray, List.set_cons_zero, List.set_cons_succ]
                refine wpAnyH_ready (rs := [2]) (by kernel_rfl) (by simp) (AllReadyH.cons (o := _) (by rw [List.getElem?_toArray]; rfl) (fun K hK => ?_) AllReadyH.nil)
                go_simp
                go_at_call 18
                refine (own_any d (.slice al n1 cl) (.slice none 0 0) (.slice none 0 0) ls [] [] _ (HLW.out.below hCY.drew) (sr_nil _ _) (sr_nil _ _) HLB.out (by simp) (by simp)).mono ?_
                rintro e wo ⟨lvo, jvo, svo, rfl, so1, _, _, hBo⟩
                have T5 := Cells.keep (TY.drew) hBo
                have hD5 := (Below.refl Y.heap.size Y).drew.trans hBo
                clear hHeld
                refine hK.out _ _ (T5) (fun hHeld => ?_)
                clear hK K
                try simp only [Act.put, List.setIfInBounds_toArray, List.set_cons_zero, List.set_cons_succ]
                refine wpAnyH_ready (rs := [7]) (by kernel_rfl) (by simp) (AllReadyH.cons (o := _) (by rw [List.getElem?_toArray]; rfl) (fun K hK => ?_) AllReadyH.nil)
                go_simp
                have cr := range_any d lvo jvo svo ls TF dev wo so1.1
                rw [HR.out] at cr
                go_at_call 21
                refine cr.mono ?_
                rintro e w6 ⟨rfl, hB6⟩
                have T6 := T5.keep hB6
                have hD6 := hD5.trans (hB6.mono hD5.size)
                clear hHeld
                refine hK.out _ _ (T6) (fun hHeld => ?_)
                clear hK K
                try simp only [Act.put, List.setIfInBounds_toArray, List.set_cons_zero, List.set_cons_succ]
                refine wpAnyH_take (i := 8) (oi := _) (v := ?_) (by rw [List.getElem?_toArray]; rfl) (by kernel_rfl) (by kernel_rfl) (by kernel_rfl) (by exact fun _ _ _ h => h) (Or.inl ⟨by rfl, ?_⟩) (by assumption) ?_
                rotate_left
                · intro w hSw
                  try simp only [Cells, blk, List.cons_append, List.nil_append, and_true, Nat.reduceAdd, Nat.add_zero, Nat.zero_add] at hSw
                  go_simp
                  try with_reducible rfl
                simp only [Act.put, List.setIfInBounds_toArray, List.set_cons_zero, List.set_cons_succ]
                refine wpAnyH_take (i := 9) (oi := _) (v := ?_) (by rw [List.getElem?_toArray]; rfl) (by kernel_rfl) (by kernel_rfl) (by kernel_rfl) (by exact fun _ _ _ h => h) (Or.inl ⟨by rfl, ?_⟩) (by assumption) ?_
                rotate_left
                · intro w hSw
                  try simp only [Cells, blk, List.cons_append, List.nil_append, and_true, Nat.reduceAdd, Nat.add_zero, Nat.zero_add] at hSw
                  go_simp
                  try with_reducible rfl
                simp only [Act.put, List.setIfInBounds_toArray, List.set_cons_zero, List.set_cons_succ]
                refine wpAnyH_take (i := 10) (oi := _) (v := ?_) (by rw [List.getElem?_toArray]; rfl) (by kernel_rfl) (by kernel_rfl) (by kernel_rfl) (by exact fun _ _ _ h => h) (Or.inl ⟨by rfl, ?_⟩) (by assumption) ?_
                rotate_left
                · intro w hSw
                  try simp only [Cells, blk, List.cons_append, List.nil_append, and_true, Nat.reduceAdd, Nat.add_zero, Nat.zero_add] at hSw
                  go_simp
                  try with_reducible rfl
                simp only [Act.put, List.setIfInBounds_toArray, List.set_cons_zero, List.set_cons_succ]
                refine wpAnyH_take (i := 11) (oi := _) (v := ?_) (by rw [List.getElem?_toArray]; rfl) (by kernel_rfl) (by kernel_rfl) (by kernel_rfl) (by exact fun _ _ _ h => h) (Or.inl ⟨by rfl, ?_⟩) (by assumption) ?_
                rotate_left
                · intro w hSw
                  try simp only [Cells, blk, List.cons_append, List.nil_append, and_true, Nat.reduceAdd, Nat.add_zero, Nat.zero_add] at hSw
                  go_simp
                  try with_reducible rfl
                simp only [Act.put, List.setIfInBounds_toArray, List.set_cons_zero, List.set_cons_succ]
                refine wpAnyH_take (i := 12) (oi := _) (v := ?_) (by rw [List.getElem?_toArray]; rfl) (by kernel_rfl) (by kernel_rfl) (by kernel_rfl) (by exact fun _ _ _ h => h) (Or.inl ⟨by rfl, ?_⟩) (by assumption) ?_
                rotate_left
                · intro w hSw
                  try simp only [Cells, blk, List.cons_append, List.nil_append, and_true, Nat.reduceAdd, Nat.add_zero, Nat.zero_add] at hSw
                  go_simp
                  try with_reducible rfl
                simp only [Act.put, List.setIfInBounds_toArray, List.set_cons_zero, List.set_cons_succ]
                refine wpAnyH_take (i := 13) (oi := _) (v := ?_) (by rw [List.getElem?_toArray]; rfl) (by kernel_rfl) (by kernel_rfl) (by kernel_rfl) (by exact fun _ _ _ h => h) (Or.inl ⟨by rfl, ?_⟩) (by assumption) ?_
                rotate_left
                · intro w hSw
                  try simp only [Cells, blk, List.cons_append, List.nil_append, and_true, Nat.reduceAdd, Nat.add_zero, Nat.zero_add] at hSw
                  go_simp
                  try with_reducible rfl
                simp only [Act.put, List.setIfInBounds_toArray, List.set_cons_zero, List.set_cons_succ]
                refine wpAnyH_take (i := 14) (oi := _) (v := ?_) (by rw [List.getElem?_toArray]; rfl) (by kernel_rfl) (by kernel_rfl) (by kernel_rfl) (by exact fun _ _ _ h => h) (Or.inl ⟨by rfl, ?_⟩) (by assumption) ?_
                rotate_left
                · intro w hSw
                  try simp only [Cells, blk, List.cons_append, List.nil_append, and_true, Nat.reduceAdd, Nat.add_zero, Nat.zero_add] at hSw
                  go_simp
                  try with_reducible rfl
                simp only [Act.put, List.setIfInBounds_toArray, List.set_cons_zero, List.set_cons_succ]
                refine wpAnyH_take (i := 15) (oi := _) (v := ?_) (by rw [List.getElem?_toArray]; rfl) (by kernel_rfl) (by kernel_rfl) (by kernel_rfl) (by exact fun _ _ _ h => h) (Or.inl ⟨by rfl, ?_⟩) (by assumption) ?_
                rotate_left
                · intro w hSw
                  try simp only [Cells, blk, List.cons_append, List.nil_append, and_true, Nat.reduceAdd, Nat.add_zero, Nat.zero_add] at hSw
                  go_simp
                  try with_reducible rfl
                simp only [Act.put, List.setIfInBounds_toArray, List.set_cons_zero, List.set_cons_succ]
                refine wpAnyH_take (i := 16) (oi := _) (v := ?_) (by rw [List.getElem?_toArray]; rfl) (by kernel_rfl) (by kernel_rfl) (by kernel_rfl) (by exact fun _ _ _ h => h) (Or.inl ⟨by rfl, ?_⟩) (by assumption) ?_
                rotate_left
                · intro w hSw
                  try simp only [Cells, blk, List.cons_append, List.nil_append, and_true, Nat.reduceAdd, Nat.add_zero, Nat.zero_add] at hSw
                  go_simp
                  try with_reducible rfl
                simp only [Act.put, List.setIfInBounds_toArray, List.set_cons_zero, List.set_cons_succ]
                refine wpAnyH_take (i := 17) (oi := _) (v := ?_) (by rw [List.getElem?_toArray]; rfl) (by kernel_rfl) (by kernel_rfl) (by kernel_rfl) (by exact fun _ _ _ h => h) (Or.inl ⟨by rfl, ?_⟩) (by assumption) ?_
                rotate_left
                · intro w hSw
                  try simp only [Cells, blk, List.cons_append, List.nil_append, and_true, Nat.reduceAdd, Nat.add_zero, Nat.zero_add] at hSw
                  go_simp
                  try with_reducible rfl
                simp only [Act.put, List.setIfInBounds_toArray, List.set_cons_zero, List.set_cons_succ]
                refine wpAnyH_take (i := 18) (oi := _) (v := ?_) (by rw [List.getElem?_toArray]; rfl) (by kernel_rfl) (by kernel_rfl) (by kernel_rfl) (by exact fun _ _ _ h => h) (Or.inl ⟨by rfl, ?_⟩) (by assumption) ?_
                rotate_left
                · intro w hSw
                  try simp only [Cells, blk, List.cons_append, List.nil_append, and_true, Nat.reduceAdd, Nat.add_zero, Nat.zero_add] at hSw
                  go_simp
                  try with_reducible rfl
                simp only [Act.put, List.setIfInBounds_toArray, List.set_cons_zero, List.set_cons_succ]
                refine wpAnyH_take (i := 19) (oi := _) (v := ?_) (by rw [List.getElem?_toArray]; rfl) (by kernel_rfl) (by kernel_rfl) (by kernel_rfl) (by exact fun _ _ _ h => h) (Or.inl ⟨by rfl, ?_⟩) (by assumption) ?_
                rotate_left
                · intro w hSw
                  try simp only [Cells, blk, List.cons_append, List.nil_append, and_true, Nat.reduceAdd, Nat.add_zero, Nat.zero_add] at hSw
                  go_simp
                  try with_reducible rfl
                simp only [Act.put, List.setIfInBounds_toArray, List.set_cons_zero, List.set_cons_succ]
                refine wpAnyH_take (i := 20) (oi := _) (v := ?_) (by rw [List.getElem?_toArray]; rfl) (by kernel_rfl) (by kernel_rfl) (by kernel_rfl) (by exact fun _ _ _ h => h) (Or.inl ⟨by rfl, ?_⟩) (by assumption) ?_
                rotate_left
                · intro w hSw
                  try simp only [Cells, blk, List.cons_append, List.nil_append, and_true, Nat.reduceAdd, Nat.add_zero, Nat.zero_add] at hSw
                  go_simp
                  try with_reducible rfl
                simp only [Act.put, List.setIfInBounds_toArray, List.set_cons_zero, List.set_cons_succ]
                refine wpAnyH_take (i := 21) (oi := _) (v := ?_) (by rw [List.getElem?_toArray]; rfl) (by kernel_rfl) (by kernel_rfl) (by kernel_rfl) (by exact fun _ _ _ h => h) (Or.inl ⟨by rfl, ?_⟩) (by assumption) ?_
                rotate_left
                · intro w hSw
                  try simp only [Cells, blk, List.cons_append, List.nil_append, and_true, Nat.reduceAdd, Nat.add_zero, Nat.zero_add] at hSw
                  go_simp
                  try with_reducible rfl
                simp only [Act.put, List.setIfInBounds_toArray, List.set_cons_zero, List.set_cons_succ]
                refine wpAnyH_take (i := 22) (oi := _) (v := ?_) (by rw [List.getElem?_toArray]; rfl) (by kernel_rfl) (by kernel_rfl) (by kernel_rfl) (by exact fun _ _ _ h => h) (Or.inl ⟨by rfl, ?_⟩) (by assumption) ?_
                rotate_left
                · intro w hSw
                  try simp only [Cells, blk, List.cons_append, List.nil_append, and_true, Nat.reduceAdd, Nat.add_zero, Nat.zero_add] at hSw
                  go_simp
                  try with_reducible rfl
                simp only [Act.put, List.setIfInBounds_toArray, List.set_cons_zero, List.set_cons_succ]
                refine wpAnyH_take (i := 23) (oi := _) (v := ?_) (by rw [List.getElem?_toArray]; rfl) (by kernel_rfl) (by kernel_rfl) (by kernel_rfl) (by exact fun _ _ _ h => h) (Or.inl ⟨by rfl, ?_⟩) (by assumption) ?_
                rotate_left
                · intro w hSw
                  try simp only [Cells, blk, List.cons_append, List.nil_append, and_true, Nat.reduceAdd, Nat.add_zero, Nat.zero_add] at hSw
                  go_simp
                  try with_reducible rfl
                simp only [Act.put, List.setIfInBounds_toArray, List.set_cons_zero, List.set_cons_succ]
                refine wpAnyH_take (i := 24) (oi := _) (v := ?_) (by rw [List.getElem?_toArray]; rfl) (by kernel_rfl) (by kernel_rfl) (by kernel_rfl) (by exact fun _ _ _ h => h) (Or.inl ⟨by rfl, ?_⟩) (by assumption) ?_
                rotate_left
                · intro w hSw
                  try simp only [Cells, blk, List.cons_append, List.nil_append, and_true, Nat.reduceAdd, Nat.add_zero, Nat.zero_add] at hSw
                  go_simp
                  try with_reducible rfl
                simp only [Act.put, List.setIfInBounds_toArray, List.set_cons_zero, List.set_cons_succ]
                refine wpAnyH_take (i := 25) (oi := _) (v := ?_) (by rw [List.getElem?_toArray]; rfl) (by kernel_rfl) (by kernel_rfl) (by kernel_rfl) (by exact fun _ _ _ h => h) (Or.inl ⟨by rfl, ?_⟩) (by assumption) ?_
                rotate_left
                · intro w hSw
                  try simp only [Cells, blk, List.cons_append, List.nil_append, and_true, Nat.reduceAdd, Nat.add_zero, Nat.zero_add] at hSw
                  go_simp
                  try with_reducible rfl
                simp only [Act.put, List.setIfInBounds_toArray, List.set_cons_zero, List.set_cons_succ]
                refine wpAnyH_take (i := 26) (oi := _) (v := ?_) (by rw [List.getElem?_toArray]; rfl) (by kernel_rfl) (by kernel_rfl) (by kernel_rfl) (by exact fun _ _ _ h => h) (Or.inl ⟨by rfl, ?_⟩) (by assumption) ?_
                rotate_left
                · intro w hSw
                  try simp only [Cells, blk, List.cons_append, List.nil_append, and_true, Nat.reduceAdd, Nat.add_zero, Nat.zero_add] at hSw
                  go_simp
                  try with_reducible rfl
                simp only [Act.put, List.setIfInBounds_toArray, List.set_cons_zero, List.set_cons_succ]
                refine wpAnyH_take (i := 27) (oi := _) (v := ?_) (by rw [List.getElem?_toArray]; rfl) (by kernel_rfl) (by kernel_rfl) (by kernel_rfl) (by exact fun _ _ _ h => h) (Or.inl ⟨by rfl, ?_⟩) (by assumption) ?_
                rotate_left
                · intro w hSw
                  try simp only [Cells, blk, List.cons_append, List.nil_append, and_true, Nat.reduceAdd, Nat.add_zero, Nat.zero_add] at hSw
                  go_simp
                  try with_reducible rfl
                simp only [Act.put, List.setIfInBounds_toArray, List.set_cons_zero, List.set_cons_succ]
                refine wpAnyH_take (i := 28) (oi := _) (v := ?_) (by rw [List.getElem?_toArray]; rfl) (by kernel_rfl) (by kernel_rfl) (by kernel_rfl) (by exact fun _ _ _ h => h) (Or.inl ⟨by rfl, ?_⟩) (by assumption) ?_
                rotate_left
                · intro w hSw
                  try simp only [Cells, blk, List.cons_append, List.nil_append, and_true, Nat.reduceAdd, Nat.add_zero, Nat.zero_add] at hSw
                  go_simp
                  try with_reducible rfl
                simp only [Act.put, List.setIfInBounds_toArray, List.set_cons_zero, List.set_cons_succ]
                refine wpAnyH_take (i := 29) (oi := _) (v := ?_) (by rw [List.getElem?_toArray]; rfl) (by kernel_rfl) (by kernel_rfl) (by kernel_rfl) (by exact fun _ _ _ h => h) (Or.inl ⟨by rfl, ?_⟩) (by assumption) ?_
                rotate_left
                · intro w hSw
                  try simp only [Cells, blk, List.cons_append, List.nil_append, and_true, Nat.reduceAdd, Nat.add_zero, Nat.zero_add] at hSw
                  go_simp
                  try with_reducible rfl
                simp only [Act.put, List.setIfInBounds_toArray, List.set_cons_zero, List.set_cons_succ]
                refine wpAnyH_done (by kernel_rfl) ?_ _
                go_wp2_with fail
                go_meet
                exact ⟨rfl, hD6⟩
              · have g3 : decide (TS < LE) = false := by simpa using q3
                have hk : okv = false := by rw [hokp]; simp [q3]
                subst hk
                clear hokp HRC1 HRC2 q1 q2 q3
                go_wp2_with fail
                refine wp_region_held_drew (S := (fun W' : World => Cells W' (blk w.heap.size 0 0 [.int .i64 d, .slice al n1 cl, .slice none 0 0, .slice none 0 0] ++ (blk (w.heap.size + 1) 0 0 [.int .i64 TI, .int .i64 TF, .int .i64 TC, .int .i64 TS, .slice ta tb.length tc] ++ blk (w.heap.size + 1 + 1) 0 0 [.int .i64 dev, .int .i64 LC, .int .i64 LS, .int .i64 LE])))) (by kernel_rfl) (TY.drew) (fun hHeld => ?_)
                refine wpAnyH_take (i := 0) (oi := _) (v := ?_) (by rw [List.getElem?_toArray]; rfl) (by kernel_rfl) (by kernel_rfl) (by kernel_rfl) (by exact fun _ _ _ h => h) (Or.inl ⟨by rfl, ?_⟩) (by assumption) ?_
                rotate_left
                · intro w hSw
                  try simp only [Cells, blk, List.cons_append, List.nil_append, and_true, Nat.reduceAdd, Nat.add_zero, Nat.zero_add] at hSw
                  go_simp
                  try with_reducible rfl
                simp only [Act.put, List.setIfInBounds_toArray, List.set_cons_zero, List.set_cons_succ]
                refine wpAnyH_take (i := 1) (oi := _) (v := ?_) (by rw [List.getElem?_toArray]; rfl) (by kernel_rfl) (by kernel_rfl) (by kernel_rfl) (by exact fun _ _ _ h => h) (Or.inl ⟨by rfl, ?_⟩) (by assumption) ?_
                rotate_left
                · intro w hSw
                  try simp only [Cells, blk, List.cons_append, List.nil_append, and_true, Nat.reduceAdd, Nat.add_zero, Nat.zero_add] at hSw
                  go_simp
                  try with_reducible rfl
                simp only [Act.put, List.setIfInBounds_toArray, List.set_cons_zero, List.set_cons_succ]
                refine wpAnyH_take (i := 3) (oi := _) (v := ?_) (by rw [List.getElem?_toArray]; rfl) (by kernel_rfl) (by kernel_rfl) (by kernel_rfl) (by exact fun _ _ _ h => h) (Or.inl ⟨by rfl, ?_⟩) (by assumption) ?_
                rotate_left
                · intro w hSw
                  try simp only [Cells, blk, List.cons_append, List.nil_append, and_true, Nat.reduceAdd, Nat.add_zero, Nat.zero_add] at hSw
                  go_simp
                  try with_reducible rfl
                simp only [Act.put, List.setIfInBounds_toArray, List.set_cons_zero, List.set_cons_succ]
                refine wpAnyH_take (i := 4) (oi := _) (v := ?_) (by rw [List.getElem?_toArray]; rfl) (by kernel_rfl) (by kernel_rfl) (by kernel_rfl) (by exact fun _ _ _ h => h) (Or.inl ⟨by rfl, ?_⟩) (by assumption) ?_
                rotate_left
                · intro w hSw
                  try simp only [Cells, blk, List.cons_append, List.nil_append, and_true, Nat.reduceAdd, Nat.add_zero, Nat.zero_add] at hSw
                  go_simp
                  try with_reducible rfl
                simp only [Act.put, List.setIfInBounds_toArray, List.set_cons_zero, List.set_cons_succ]
                refine wpAnyH_take (i := 5) (oi := _) (v := ?_) (by rw [List.getElem?_toArray]; rfl) (by kernel_rfl) (by kernel_rfl) (by kernel_rfl) (by exact fun _ _ _ h => h) (Or.inl ⟨by rfl, ?_⟩) (by assumption) ?_
                rotate_left
                · intro w hSw
                  try simp only [Cells, blk, List.cons_append, List.nil_append, and_true, Nat.reduceAdd, Nat.add_zero, Nat.zero_add] at hSw
                  go_simp
                  try with_reducible rfl
                simp only [Act.put, List.setIfInBounds_toArray, List.set_cons_zero, List.set_cons_succ]
                refine wpAnyH_take (i := 6) (oi := _) (v := ?_) (by rw [List.getElem?_toArray]; rfl) (by kernel_rfl) (by kernel_rfl) (by kernel_rfl) (by exact fun _ _ _ h => h) (Or.inl ⟨by rfl, ?_⟩) (by assumption) ?_
                rotate_left
                · intro w hSw
                  try simp only [Cells, blk, List.cons_append, List.nil_append, and_true, Nat.reduceAdd, Nat.add_zero, Nat.zero_add] at hSw
                  go_simp
                  try with_reducible rfl
                simp only [Act.put, List.setIfInBounds_toArray, List.set_cons_zero, List.set_cons_succ]
                refine wpAnyH_ready (rs := [2]) (by kernel_rfl) (by simp) (AllReadyH.cons (o := _) (by rw [List.getElem?_toArray]; rfl) (fun K hK => ?_) AllReadyH.nil)
                go_simp
                go_at_call 18
                refine (own_any d (.slice al n1 cl) (.slice none 0 0) (.slice none 0 0) ls [] [] _ (HLW.out.below hCY.drew) (sr_nil _ _) (sr_nil _ _) HLB.out (by simp) (by simp)).mono ?_
                rintro e wo ⟨lvo, jvo, svo, rfl, so1, _, _, hBo⟩
                have T5 := Cells.keep (TY.drew) hBo
                have hD5 := (Below.refl Y.heap.size Y).drew.trans hBo
                clear hHeld
                refine hK.out _ _ (T5) (fun hHeld => ?_)
                clear hK K
                try simp only [Act.put, List.setIfInBounds_toArray, List.set_cons_zero, List.set_cons_succ]
                refine wpAnyH_ready (rs := [7]) (by kernel_rfl) (by simp) (AllReadyH.cons (o := _) (by rw [List.getElem?_toArray]; rfl) (fun K hK => ?_) AllReadyH.nil)
                go_simp
                have cr := range_any d lvo jvo svo ls TF dev wo so1.1
                rw [HR.out] at cr
                go_at_call 21
                refine cr.mono ?_
                rintro e w6 ⟨rfl, hB6⟩
                have T6 := T5.keep hB6
                have hD6 := hD5.trans (hB6.mono hD5.size)
                clear hHeld
                refine hK.out _ _ (T6) (fun hHeld => ?_)
                clear hK K
                try simp only [Act.put, List.setIfInBounds_toArray, List.set_cons_zero, List.set_cons_succ]
                refine wpAnyH_take (i := 8) (oi := _) (v := ?_) (by rw [List.getElem?_toArray]; rfl) (by kernel_rfl) (by kernel_rfl) (by kernel_rfl) (by exact fun _ _ _ h => h) (Or.inl ⟨by rfl, ?_⟩) (by assumption) ?_
                rotate_left
                · intro w hSw
                  try simp only [Cells, blk, List.cons_append, List.nil_append, and_true, Nat.reduceAdd, Nat.add_zero, Nat.zero_add] at hSw
                  go_simp
                  try with_reducible rfl
                simp only [Act.put, List.setIfInBounds_toArray, List.set_cons_zero, List.set_cons_succ]
                refine wpAnyH_take (i := 9) (oi := _) (v := ?_) (by rw [List.getElem?_toArray]; rfl) (by kernel_rfl) (by kernel_rfl) (by kernel_rfl) (by exact fun _ _ _ h => h) (Or.inl ⟨by rfl, ?_⟩) (by assumption) ?_
                rotate_left
                · intro w hSw
                  try simp only [Cells, blk, List.cons_append, List.nil_append, and_true, Nat.reduceAdd, Nat.add_zero, Nat.zero_add] at hSw
                  go_simp
                  try with_reducible rfl
                simp only [Act.put, List.setIfInBounds_toArray, List.set_cons_zero, List.set_cons_succ]
                refine wpAnyH_take (i := 10) (oi := _) (v := ?_) (by rw [List.getElem?_toArray]; rfl) (by kernel_rfl) (by kernel_rfl) (by kernel_rfl) (by exact fun _ _ _ h => h) (Or.inl ⟨by rfl, ?_⟩) (by assumption) ?_
                rotate_left
                · intro w hSw
                  try simp only [Cells, blk, List.cons_append, List.nil_append, and_true, Nat.reduceAdd, Nat.add_zero, Nat.zero_add] at hSw
                  go_simp
                  try with_reducible rfl
                simp only [Act.put, List.setIfInBounds_toArray, List.set_cons_zero, List.set_cons_succ]
                refine wpAnyH_take (i := 11) (oi := _) (v := ?_) (by rw [List.getElem?_toArray]; rfl) (by kernel_rfl) (by kernel_rfl) (by kernel_rfl) (by exact fun _ _ _ h => h) (Or.inl ⟨by rfl, ?_⟩) (by assumption) ?_
                rotate_left
                · intro w hSw
                  try simp only [Cells, blk, List.cons_append, List.nil_append, and_true, Nat.reduceAdd, Nat.add_zero, Nat.zero_add] at hSw
                  go_simp
                  try with_reducible rfl
                simp only [Act.put, List.setIfInBounds_toArray, List.set_cons_zero, List.set_cons_succ]
                refine wpAnyH_take (i := 12) (oi := _) (v := ?_) (by rw [List.getElem?_toArray]; rfl) (by kernel_rfl) (by kernel_rfl) (by kernel_rfl) (by exact fun _ _ _ h => h) (Or.inl ⟨by rfl, ?_⟩) (by assumption) ?_
                rotate_left
                · intro w hSw
                  try simp only [Cells, blk, List.cons_append, List.nil_append, and_true, Nat.reduceAdd, Nat.add_zero, Nat.zero_add] at hSw
                  go_simp
                  try with_reducible rfl
                simp only [Act.put, List.setIfInBounds_toArray, List.set_cons_zero, List.set_cons_succ]
                refine wpAnyH_take (i := 13) (oi := _) (v := ?_) (by rw [List.getElem?_toArray]; rfl) (by kernel_rfl) (by kernel_rfl) (by kernel_rfl) (by exact fun _ _ _ h => h) (Or.inl ⟨by rfl, ?_⟩) (by assumption) ?_
                rotate_left
                · intro w hSw
                  try simp only [Cells, blk, List.cons_append, List.nil_append, and_true, Nat.reduceAdd, Nat.add_zero, Nat.zero_add] at hSw
                  go_simp
                  try with_reducible rfl
                simp only [Act.put, List.setIfInBounds_toArray, List.set_cons_zero, List.set_cons_succ]
                refine wpAnyH_take (i := 14) (oi := _) (v := ?_) (by rw [List.getElem?_toArray]; rfl) (by kernel_rfl) (by kernel_rfl) (by kernel_rfl) (by exact fun _ _ _ h => h) (Or.inl ⟨by rfl, ?_⟩) (by assumption) ?_
                rotate_left
                · intro w hSw
                  try simp only [Cells, blk, List.cons_append, List.nil_append, and_true, Nat.reduceAdd, Nat.add_zero, Nat.zero_add] at hSw
                  go_simp
                  try with_reducible rfl
                simp only [Act.put, List.setIfInBounds_toArray, List.set_cons_zero, List.set_cons_succ]
                refine wpAnyH_take (i := 15) (oi := _) (v := ?_) (by rw [List.getElem?_toArray]; rfl) (by kernel_rfl) (by kernel_rfl) (by kernel_rfl) (by exact fun _ _ _ h => h) (Or.inl ⟨by rfl, ?_⟩) (by assumption) ?_
                rotate_left
                · intro w hSw
                  try simp only [Cells, blk, List.cons_append, List.nil_append, and_true, Nat.reduceAdd, Nat.add_zero, Nat.zero_add] at hSw
                  go_simp
                  try with_reducible rfl
                simp only [Act.put, List.setIfInBounds_toArray, List.set_cons_zero, List.set_cons_succ]
                refine wpAnyH_take (i := 16) (oi := _) (v := ?_) (by rw [List.getElem?_toArray]; rfl) (by kernel_rfl) (by kernel_rfl) (by kernel_rfl) (by exact fun _ _ _ h => h) (Or.inl ⟨by rfl, ?_⟩) (by assumption) ?_
                rotate_left
                · intro w hSw
                  try simp only [Cells, blk, List.cons_append, List.nil_append, and_true, Nat.reduceAdd, Nat.add_zero, Nat.zero_add] at hSw
                  go_simp
                  try with_reducible rfl
                simp only [Act.put, List.setIfInBounds_toArray, List.set_cons_zero, List.set_cons_succ]
                refine wpAnyH_take (i := 17) (oi := _) (v := ?_) (by rw [List.getElem?_toArray]; rfl) (by kernel_rfl) (by kernel_rfl) (by kernel_rfl) (by exact fun _ _ _ h => h) (Or.inl ⟨by rfl, ?_⟩) (by assumption) ?_
                rotate_left
                · intro w hSw
                  try simp only [Cells, blk, List.cons_append, List.nil_append, and_true, Nat.reduceAdd, Nat.add_zero, Nat.zero_add] at hSw
                  go_simp
                  try with_reducible rfl
                simp only [Act.put, List.setIfInBounds_toArray, List.set_cons_zero, List.set_cons_succ]
                refine wpAnyH_take (i := 18) (oi := _) (v := ?_) (by rw [List.getElem?_toArray]; rfl) (by kernel_rfl) (by kernel_rfl) (by kernel_rfl) (by exact fun _ _ _ h => h) (Or.inl ⟨by rfl, ?_⟩) (by assumption) ?_
                rotate_left
                · intro w hSw
                  try simp only [Cells, blk, List.cons_append, List.nil_append, and_true, Nat.reduceAdd, Nat.add_zero, Nat.zero_add] at hSw
                  go_simp
                  try with_reducible rfl
                simp only [Act.put, List.setIfInBounds_toArray, List.set_cons_zero, List.set_cons_succ]
                refine wpAnyH_take (i := 19) (oi := _) (v := ?_) (by rw [List.getElem?_toArray]; rfl) (by kernel_rfl) (by kernel_rfl) (by kernel_rfl) (by exact fun _ _ _ h => h) (Or.inl ⟨by rfl, ?_⟩) (by assumption) ?_
                rotate_left
                · intro w hSw
                  try simp only [Cells, blk, List.cons_append, List.nil_append, and_true, Nat.reduceAdd, Nat.add_zero, Nat.zero_add] at hSw
                  go_simp
                  try with_reducible rfl
                simp only [Act.put, List.setIfInBounds_toArray, List.set_cons_zero, List.set_cons_succ]
                refine wpAnyH_take (i := 20) (oi := _) (v := ?_) (by rw [List.getElem?_toArray]; rfl) (by kernel_rfl) (by kernel_rfl) (by kernel_rfl) (by exact fun _ _ _ h => h) (Or.inl ⟨by rfl, ?_⟩) (by assumption) ?_
                rotate_left
                · intro w hSw
                  try simp only [Cells, blk, List.cons_append, List.nil_append, and_true, Nat.reduceAdd, Nat.add_zero, Nat.zero_add] at hSw
                  go_simp
                  try with_reducible rfl
                simp only [Act.put, List.setIfInBounds_toArray, List.set_cons_zero, List.set_cons_succ]
                refine wpAnyH_take (i := 21) (oi := _) (v := ?_) (by rw [List.getElem?_toArray]; rfl) (by kernel_rfl) (by kernel_rfl) (by kernel_rfl) (by exact fun _ _ _ h => h) (Or.inl ⟨by rfl, ?_⟩) (by assumption) ?_
                rotate_left
                · intro w hSw
                  try simp only [Cells, blk, List.cons_append, List.nil_append, and_true, Nat.reduceAdd, Nat.add_zero, Nat.zero_add] at hSw
                  go_simp
                  try with_reducible rfl
                simp only [Act.put, List.setIfInBounds_toArray, List.set_cons_zero, List.set_cons_succ]
                refine wpAnyH_take (i := 22) (oi := _) (v := ?_) (by rw [List.getElem?_toArray]; rfl) (by kernel_rfl) (by kernel_rfl) (by kernel_rfl) (by exact fun _ _ _ h => h) (Or.inl ⟨by rfl, ?_⟩) (by assumption) ?_
                rotate_left
                · intro w hSw
                  try simp only [Cells, blk, List.cons_append, List.nil_append, and_true, Nat.reduceAdd, Nat.add_zero, Nat.zero_add] at hSw
                  go_simp
                  try with_reducible rfl
                simp only [Act.put, List.setIfInBounds_toArray, List.set_cons_zero, List.set_cons_succ]
                refine wpAnyH_take (i := 23) (oi := _) (v := ?_) (by rw [List.getElem?_toArray]; rfl) (by kernel_rfl) (by kernel_rfl) (by kernel_rfl) (by exact fun _ _ _ h => h) (Or.inl ⟨by rfl, ?_⟩) (by assumption) ?_
                rotate_left
                · intro w hSw
                  try simp only [Cells, blk, List.cons_append, List.nil_append, and_true, Nat.reduceAdd, Nat.add_zero, Nat.zero_add] at hSw
                  go_simp
                  try with_reducible rfl
                simp only [Act.put, List.setIfInBounds_toArray, List.set_cons_zero, List.set_cons_succ]
                refine wpAnyH_take (i := 24) (oi := _) (v := ?_) (by rw [List.getElem?_toArray]; rfl) (by kernel_rfl) (by kernel_rfl) (by kernel_rfl) (by exact fun _ _ _ h => h) (Or.inl ⟨by rfl, ?_⟩) (by assumption) ?_
                rotate_left
                · intro w hSw
                  try simp only [Cells, blk, List.cons_append, List.nil_append, and_true, Nat.reduceAdd, Nat.add_zero, Nat.zero_add] at hSw
                  go_simp
                  try with_reducible rfl
                simp only [Act.put, List.setIfInBounds_toArray, List.set_cons_zero, List.set_cons_succ]
                refine wpAnyH_take (i := 25) (oi := _) (v := ?_) (by rw [List.getElem?_toArray]; rfl) (by kernel_rfl) (by kernel_rfl) (by kernel_rfl) (by exact fun _ _ _ h => h) (Or.inl ⟨by rfl, ?_⟩) (by assumption) ?_
                rotate_left
                · intro w hSw
                  try simp only [Cells, blk, List.cons_append, List.nil_append, and_true, Nat.reduceAdd, Nat.add_zero, Nat.zero_add] at hSw
                  go_simp
                  try with_reducible rfl
                simp only [Act.put, List.setIfInBounds_toArray, List.set_cons_zero, List.set_cons_succ]
                refine wpAnyH_take (i := 26) (oi := _) (v := ?_) (by rw [List.getElem?_toArray]; rfl) (by kernel_rfl) (by kernel_rfl) (by kernel_rfl) (by exact fun _ _ _ h => h) (Or.inl ⟨by rfl, ?_⟩) (by assumption) ?_
                rotate_left
                · intro w hSw
                  try simp only [Cells, blk, List.cons_append, List.nil_append, and_true, Nat.reduceAdd, Nat.add_zero, Nat.zero_add] at hSw
                  go_simp
                  try with_reducible rfl
                simp only [Act.put, List.setIfInBounds_toArray, List.set_cons_zero, List.set_cons_succ]
                refine wpAnyH_take (i := 27) (oi := _) (v := ?_) (by rw [List.getElem?_toArray]; rfl) (by kernel_rfl) (by kernel_rfl) (by kernel_rfl) (by exact fun _ _ _ h => h) (Or.inl ⟨by rfl, ?_⟩) (by assumption) ?_
                rotate_left
                · intro w hSw
                  try simp only [Cells, blk, List.cons_append, List.nil_append, and_true, Nat.reduceAdd, Nat.add_zero, Nat.zero_add] at hSw
                  go_simp
                  try with_reducible rfl
                simp only [Act.put, List.setIfInBounds_toArray, List.set_cons_zero, List.set_cons_succ]
                refine wpAnyH_take (i := 28) (oi := _) (v := ?_) (by rw [List.getElem?_toArray]; rfl) (by kernel_rfl) (by kernel_rfl) (by kernel_rfl) (by exact fun _ _ _ h => h) (Or.inl ⟨by rfl, ?_⟩) (by assumption) ?_
                rotate_left
                · intro w hSw
                  try simp only [Cells, blk, List.cons_append, List.nil_append, and_true, Nat.reduceAdd, Nat.add_zero, Nat.zero_add] at hSw
                  go_simp
                  try with_reducible rfl
                simp only [Act.put, List.setIfInBounds_toArray, List.set_cons_zero, List.set_cons_succ]
                refine wpAnyH_take (i := 29) (oi := _) (v := ?_) (by rw [List.getElem?_toArray]; rfl) (by kernel_rfl) (by kernel_rfl) (by kernel_rfl) (by exact fun _ _ _ h => h) (Or.inl ⟨by rfl, ?_⟩) (by assumption) ?_
                rotate_left
                · intro w hSw
                  try simp only [Cells, blk, List.cons_append, List.nil_append, and_true, Nat.reduceAdd, Nat.add_zero, Nat.zero_add] at hSw
                  go_simp
                  try with_reducible rfl
                simp only [Act.put, List.setIfInBounds_toArray, List.set_cons_zero, List.set_cons_succ]
                refine wpAnyH_done (by kernel_rfl) ?_ _
                go_wp2_with fail
                go_meet
                exact ⟨rfl, hD6⟩
            · have g2 : decide (LS ≤ TS) = false := by simpa using q2
              have hk : okv = false := by rw [hokp]; simp [q2]
              subst hk
              clear hokp HRC1 HRC2 q1 q2
              go_wp2_with fail
              refine wp_region_held_drew (S := (fun W' : World => Cells W' (blk w.heap.size 0 0 [.int .i64 d, .slice al n1 cl, .slice none 0 0, .slice none 0 0] ++ (blk (w.heap.size + 1) 0 0 [.int .i64 TI, .int .i64 TF, .int .i64 TC, .int .i64 TS, .slice ta tb.length tc] ++ blk (w.heap.size + 1 + 1) 0 0 [.int .i64 dev, .int .i64 LC, .int .i64 LS, .int .i64 LE])))) (by kernel_rfl) (TY.drew) (fun hHeld => ?_)
              refine wpAnyH_take (i := 0) (oi := _) (v := ?_) (by rw [List.getElem?_toArray]; rfl) (by kernel_rfl) (by kernel_rfl) (by kernel_rfl) (by exact fun _ _ _ h => h) (Or.inl ⟨by rfl, ?_⟩) (by assumption) ?_
              rotate_left
              · intro w hSw
                try simp only [Cells, blk, List.cons_append, List.nil_append, and_true, Nat.reduceAdd, Nat.add_zero, Nat.zero_add] at hSw
                go_simp
                try with_reducible rfl
              simp only [Act.put, List.setIfInBounds_toArray, List.set_cons_zero, List.set_cons_succ]
              refine wpAnyH_take (i := 1) (oi := _) (v := ?_) (by rw [List.getElem?_toArray]; rfl) (by kernel_rfl) (by kernel_rfl) (by kernel_rfl) (by exact fun _ _ _ h => h) (Or.inl ⟨by rfl, ?_⟩) (by assumption) ?_
              rotate_left
              · intro w hSw
                try simp only [Cells, blk, List.cons_append, List.nil_append, and_true, Nat.reduceAdd, Nat.add_zero, Nat.zero_add] at hSw
                go_simp
                try with_reducible rfl
              simp only [Act.put, List.setIfInBounds_toArray, List.set_cons_zero, List.set_cons_succ]
              refine wpAnyH_take (i := 3) (oi := _) (v := ?_) (by rw [List.getElem?_toArray]; rfl) (by kernel_rfl) (by kernel_rfl) (by kernel_rfl) (by exact fun _ _ _ h => h) (Or.inl ⟨by rfl, ?_⟩) (by assumption) ?_
              rotate_left
              · intro w hSw
                try simp only [Cells, blk, List.cons_append, List.nil_append, and_true, Nat.reduceAdd, Nat.add_zero, Nat.zero_add] at hSw
                go_simp
                try with_reducible rfl
              simp only [Act.put, List.setIfInBounds_toArray, List.set_cons_zero, List.set_cons_succ]
              refine wpAnyH_take (i := 4) (oi := _) (v := ?_) (by rw [List.getElem?_toArray]; rfl) (by kernel_rfl) (by kernel_rfl) (by kernel_rfl) (by exact fun _ _ _ h => h) (Or.inl ⟨by rfl, ?_⟩) (by assumption) ?_
              rotate_left
              · intro w hSw
                try simp only [Cells, blk, List.cons_append, List.nil_append, and_true, Nat.reduceAdd, Nat.add_zero, Nat.zero_add] at hSw
                go_simp
                try with_reducible rfl
              simp only [Act.put, List.setIfInBounds_toArray, List.set_cons_zero, List.set_cons_succ]
              refine wpAnyH_take (i := 5) (oi := _) (v := ?_) (by rw [List.getElem?_toArray]; rfl) (by kernel_rfl) (by kernel_rfl) (by kernel_rfl) (by exact fun _ _ _ h => h) (Or.inl ⟨by rfl, ?_⟩) (by assumption) ?_
              rotate_left
              · intro w hSw
                try simp only [Cells, blk, List.cons_append, List.nil_append, and_true, Nat.reduceAdd, Nat.add_zero, Nat.zero_add] at hSw
                go_simp
                try with_reducible rfl
              simp only [Act.put, List.setIfInBounds_toArray, List.set_cons_zero, List.set_cons_succ]
              refine wpAnyH_take (i := 6) (oi := _) (v := ?_) (by rw [List.getElem?_toArray]; rfl) (by kernel_rfl) (by kernel_rfl) (by kernel_rfl) (by exact fun _ _ _ h => h) (Or.inl ⟨by rfl, ?_⟩) (by assumption) ?_
              rotate_left
              · intro w hSw
                try simp only [Cells, blk, List.cons_append, List.nil_append, and_true, Nat.reduceAdd, Nat.add_zero, Nat.zero_add] at hSw
                go_simp
                try with_reducible rfl
              simp only [Act.put, List.setIfInBounds_toArray, List.set_cons_zero, List.set_cons_succ]
              refine wpAnyH_ready (rs := [2]) (by kernel_rfl) (by simp) (AllReadyH.cons (o := _) (by rw [List.getElem?_toArray]; rfl) (fun K hK => ?_) AllReadyH.nil)
              go_simp
              go_at_call 18
              refine (own_any d (.slice al n1 cl) (.slice none 0 0) (.slice none 0 0) ls [] [] _ (HLW.out.below hCY.drew) (sr_nil _ _) (sr_nil _ _) HLB.out (by simp) (by simp)).mono ?_
              rintro e wo ⟨lvo, jvo, svo, rfl, so1, _, _, hBo⟩
              have T5 := Cells.keep (TY.drew) hBo
              have hD5 := (Below.refl Y.heap.size Y).drew.trans hBo
              clear hHeld
              refine hK.out _ _ (T5) (fun hHeld => ?_)
              clear hK K
              try simp only [Act.put, List.setIfInBounds_toArray, List.set_cons_zero, List.set_cons_succ]
              refine wpAnyH_ready (rs := [7]) (by kernel_rfl) (by simp) (AllReadyH.cons (o := _) (by rw [List.getElem?_toArray]; rfl) (fun K hK => ?_) AllReadyH.nil)
              go_simp
              have cr := range_any d lvo jvo svo ls TF dev wo so1.1
              rw [HR.out] at cr
              go_at_call 21
              refine cr.mono ?_
              rintro e w6 ⟨rfl, hB6⟩
              have T6 := T5.keep hB6
              have hD6 := hD5.trans (hB6.mono hD5.size)
              clear hHeld
              refine hK.out _ _ (T6) (fun hHeld => ?_)
              clear hK K
              try simp only [Act.put, List.setIfInBounds_toArray, List.set_cons_zero, List.set_cons_succ]
              refine wpAnyH_take (i := 8) (oi := _) (v := ?_) (by rw [List.getElem?_toArray]; rfl) (by kernel_rfl) (by kernel_rfl) (by kernel_rfl) (by exact fun _ _ _ h => h) (Or.inl ⟨by rfl, ?_⟩) (by assumption) ?_
              rotate_left
              · intro w hSw
                try simp only [Cells, blk, List.cons_append, List.nil_append, and_true, Nat.reduceAdd, Nat.add_zero, Nat.zero_add] at hSw
                go_simp
                try with_reducible rfl
              simp only [Act.put, List.setIfInBounds_toArray, List.set_cons_zero, List.set_cons_succ]
              refine wpAnyH_take (i := 9) (oi := _) (v := ?_) (by rw [List.getElem?_toArray]; rfl) (by kernel_rfl) (by kernel_rfl) (by kernel_rfl) (by exact fun _ _ _ h => h) (Or.inl ⟨by rfl, ?_⟩) (by assumption) ?_
              rotate_left
              · intro w hSw
                try simp only [Cells, blk, List.cons_append, List.nil_append, and_true, Nat.reduceAdd, Nat.add_zero, Nat.zero_add] at hSw
                go_simp
                try with_reducible rfl
              simp only [Act.put, List.setIfInBounds_toArray, List.set_cons_zero, List.set_cons_succ]
              refine wpAnyH_take (i := 10) (oi := _) (v := ?_) (by rw [List.getElem?_toArray]; rfl) (by kernel_rfl) (by kernel_rfl) (by kernel_rfl) (by exact fun _ _ _ h => h) (Or.inl ⟨by rfl, ?_⟩) (by assumption) ?_
              rotate_left
              · intro w hSw
                try simp only [Cells, blk, List.cons_append, List.nil_append, and_true, Nat.reduceAdd, Nat.add_zero, Nat.zero_add] at hSw
                go_simp
                try with_reducible rfl
              simp only [Act.put, List.setIfInBounds_toArray, List.set_cons_zero, List.set_cons_succ]
              refine wpAnyH_take (i := 11) (oi := _) (v := ?_) (by rw [List.getElem?_toArray]; rfl) (by kernel_rfl) (by kernel_rfl) (by kernel_rfl) (by exact fun _ _ _ h => h) (Or.inl ⟨by rfl, ?_⟩) (by assumption) ?_
              rotate_left
              · intro w hSw
                try simp only [Cells, blk, List.cons_append, List.nil_append, and_true, Nat.reduceAdd, Nat.add_zero, Nat.zero_add] at hSw
                go_simp
                try with_reducible rfl
              simp only [Act.put, List.setIfInBounds_toArray, List.set_cons_zero, List.set_cons_succ]
              refine wpAnyH_take (i := 12) (oi := _) (v := ?_) (by rw [List.getElem?_toArray]; rfl) (by kernel_rfl) (by kernel_rfl) (by kernel_rfl) (by exact fun _ _ _ h => h) (Or.inl ⟨by rfl, ?_⟩) (by assumption) ?_
              rotate_left
              · intro w hSw
                try simp only [Cells, blk, List.cons_append, List.nil_append, and_true, Nat.reduceAdd, Nat.add_zero, Nat.zero_add] at hSw
                go_simp
                try with_reducible rfl
              simp only [Act.put, List.setIfInBounds_toArray, List.set_cons_zero, List.set_cons_succ]
              refine wpAnyH_take (i := 13) (oi := _) (v := ?_) (by rw [List.getElem?_toArray]; rfl) (by kernel_rfl) (by kernel_rfl) (by kernel_rfl) (by exact fun _ _ _ h => h) (Or.inl ⟨by rfl, ?_⟩) (by assumption) ?_
              rotate_left
              · intro w hSw
                try simp only [Cells, blk, List.cons_append, List.nil_append, and_true, Nat.reduceAdd, Nat.add_zero, Nat.zero_add] at hSw
                go_simp
                try with_reducible rfl
              simp only [Act.put, List.setIfInBounds_toArray, List.set_cons_zero, List.set_cons_succ]
              refine wpAnyH_take (i := 14) (oi := _) (v := ?_) (by rw [List.getElem?_toArray]; rfl) (by kernel_rfl) (by kernel_rfl) (by kernel_rfl) (by exact fun _ _ _ h => h) (Or.inl ⟨by rfl, ?_⟩) (by assumption) ?_
              rotate_left
              · intro w hSw
                try simp only [Cells, blk, List.cons_append, List.nil_append, and_true, Nat.reduceAdd, Nat.add_zero, Nat.zero_add] at hSw
                go_simp
                try with_reducible rfl
              simp only [Act.put, List.setIfInBounds_toArray, List.set_cons_zero, List.set_cons_succ]
              refine wpAnyH_take (i := 15) (oi := _) (v := ?_) (by rw [List.getElem?_toArray]; rfl) (by kernel_rfl) (by kernel_rfl) (by kernel_rfl) (by exact fun _ _ _ h => h) (Or.inl ⟨by rfl, ?_⟩) (by assumption) ?_
              rotate_left
              · intro w hSw
                try simp only [Cells, blk, List.cons_append, List.nil_append, and_true, Nat.reduceAdd, Nat.add_zero, Nat.zero_add] at hSw
                go_simp
                try with_reducible rfl
              simp only [Act.put, List.setIfInBounds_toArray, List.set_cons_zero, List.set_cons_succ]
              refine wpAnyH_take (i := 16) (oi := _) (v := ?_) (by rw [List.getElem?_toArray]; rfl) (by kernel_rfl) (by kernel_rfl) (by kernel_rfl) (by exact fun _ _ _ h => h) (Or.inl ⟨by rfl, ?_⟩) (by assumption) ?_
              rotate_left
              · intro w hSw
                try simp only [Cells, blk, List.cons_append, List.nil_append, and_true, Nat.reduceAdd, Nat.add_zero, Nat.zero_add] at hSw
                go_simp
                try with_reducible rfl
              simp only [Act.put, List.setIfInBounds_toArray, List.set_cons_zero, List.set_cons_succ]
              refine wpAnyH_take (i := 17) (oi := _) (v := ?_) (by rw [List.getElem?_toArray]; rfl) (by kernel_rfl) (by kernel_rfl) (by kernel_rfl) (by exact fun _ _ _ h => h) (Or.inl ⟨by rfl, ?_⟩) (by assumption) ?_
              rotate_left
              · intro w hSw
                try simp only [Cells, blk, List.cons_append, List.nil_append, and_true, Nat.reduceAdd, Nat.add_zero, Nat.zero_add] at hSw
                go_simp
                try with_reducible rfl
              simp only [Act.put, List.setIfInBounds_toArray, List.set_cons_zero, List.set_cons_succ]
              refine wpAnyH_take (i := 18) (oi := _) (v := ?_) (by rw [List.getElem?_toArray]; rfl) (by kernel_rfl) (by kernel_rfl) (by kernel_rfl) (by exact fun _ _ _ h => h) (Or.inl ⟨by rfl, ?_⟩) (by assumption) ?_
              rotate_left
              · intro w hSw
                try simp only [Cells, blk, List.cons_append, List.nil_append, and_true, Nat.reduceAdd, Nat.add_zero, Nat.zero_add] at hSw
                go_simp
                try with_reducible rfl
              simp only [Act.put, List.setIfInBounds_toArray, List.set_cons_zero, List.set_cons_succ]
              refine wpAnyH_take (i := 19) (oi := _) (v := ?_) (by rw [List.getElem?_toArray]; rfl) (by kernel_rfl) (by kernel_rfl) (by kernel_rfl) (by exact fun _ _ _ h => h) (Or.inl ⟨by rfl, ?_⟩) (by assumption) ?_
              rotate_left
              · intro w hSw
                try simp only [Cells, blk, List.cons_append, List.nil_append, and_true, Nat.reduceAdd, Nat.add_zero, Nat.zero_add] at hSw
                go_simp
                try with_reducible rfl
              simp only [Act.put, List.setIfInBounds_toArray, List.set_cons_zero, List.set_cons_succ]
              refine wpAnyH_take (i := 20) (oi := _) (v := ?_) (by rw [List.getElem?_toArray]; rfl) (by kernel_rfl) (by kernel_rfl) (by kernel_rfl) (by exact fun _ _ _ h => h) (Or.inl ⟨by rfl, ?_⟩) (by assumption) ?_
              rotate_left
              · intro w hSw
                try simp only [Cells, blk, List.cons_append, List.nil_append, and_true, Nat.reduceAdd, Nat.add_zero, Nat.zero_add] at hSw
                go_simp
                try with_reducible rfl
              simp only [Act.put, List.setIfInBounds_toArray, List.set_cons_zero, List.set_cons_succ]
              refine wpAnyH_take (i := 21) (oi := _) (v := ?_) (by rw [List.getElem?_toArray]; rfl) (by kernel_rfl) (by kernel_rfl) (by kernel_rfl) (by exact fun _ _ _ h => h) (Or.inl ⟨by rfl, ?_⟩) (by assumption) ?_
              rotate_left
              · intro w hSw
                try simp only [Cells, blk, List.cons_append, List.nil_append, and_true, Nat.reduceAdd, Nat.add_zero, Nat.zero_add] at hSw
                go_simp
                try with_reducible rfl
              simp only [Act.put, List.setIfInBounds_toArray, List.set_cons_zero, List.set_cons_succ]
              refine wpAnyH_take (i := 22) (oi := _) (v := ?_) (by rw [List.getElem?_toArray]; rfl) (by kernel_rfl) (by kernel_rfl) (by kernel_rfl) (by exact fun _ _ _ h => h) (Or.inl ⟨by rfl, ?_⟩) (by assumption) ?_
              rotate_left
              · intro w hSw
                try simp only [Cells, blk, List.cons_append, List.nil_append, and_true, Nat.reduceAdd, Nat.add_zero, Nat.zero_add] at hSw
                go_simp
                try with_reducible rfl
              simp only [Act.put, List.setIfInBounds_toArray, List.set_cons_zero, List.set_cons_succ]
              refine wpAnyH_take (i := 23) (oi := _) (v := undef) (by rw [List.getElem?_toArray]; rfl) (by kernel_rfl) (by kernel_rfl) (by kernel_rfl) (by exact fun _ _ _ h => h) (Or.inr ⟨by rfl, rfl⟩) (by assumption) ?_
              simp only [Act.put, List.setIfInBounds_toArray, List.set_cons_zero, List.set_cons_succ]
              refine wpAnyH_take (i := 24) (oi := _) (v := undef) (by rw [List.getElem?_toArray]; rfl) (by kernel_rfl) (by kernel_rfl) (by kernel_rfl) (by exact fun _ _ _ h => h) (Or.inr ⟨by rfl, rfl⟩) (by assumption) ?_
              simp only [Act.put, List.setIfInBounds_toArray, List.set_cons_zero, List.set_cons_succ]
              refine wpAnyH_take (i := 25) (oi := _) (v := undef) (by rw [List.getElem?_toArray]; rfl) (by kernel_rfl) (by kernel_rfl) (by kernel_rfl) (by exact fun _ _ _ h => h) (Or.inr ⟨by rfl, rfl⟩) (by assumption) ?_
              simp only [Act.put, List.setIfInBounds_toArray, List.set_cons_zero, List.set_cons_succ]
              refine wpAnyH_take (i := 26) (oi := _) (v := undef) (by rw [List.getElem?_toArray]; rfl) (by kernel_rfl) (by kernel_rfl) (by kernel_rfl) (by exact fun _ _ _ h => h) (Or.inr ⟨by rfl, rfl⟩) (by assumption) ?_
              simp only [Act.put, List.setIfInBounds_toArray, List.set_cons_zero, List.set_cons_succ]
              refine wpAnyH_take (i := 27) (oi := _) (v := undef) (by rw [List.getElem?_toArray]; rfl) (by kernel_rfl) (by kernel_rfl) (by kernel_rfl) (by exact fun _ _ _ h => h) (Or.inr ⟨by rfl, rfl⟩) (by assumption) ?_
              simp only [Act.put, List.setIfInBounds_toArray, List.set_cons_zero, List.set_cons_succ]
              refine wpAnyH_take (i := 28) (oi := _) (v := ?_) (by rw [List.getElem?_toArray]; rfl) (by kernel_rfl) (by kernel_rfl) (by kernel_rfl) (by exact fun _ _ _ h => h) (Or.inl ⟨by rfl, ?_⟩) (by assumption) ?_
              rotate_left
              · intro w hSw
                try simp only [Cells, blk, List.cons_append, List.nil_append, and_true, Nat.reduceAdd, Nat.add_zero, Nat.zero_add] at hSw
                go_simp
                try with_reducible rfl
              simp only [Act.put, List.setIfInBounds_toArray, List.set_cons_zero, List.set_cons_succ]
              refine wpAnyH_take (i := 29) (oi := _) (v := ?_) (by rw [List.getElem?_toArray]; rfl) (by kernel_rfl) (by kernel_rfl) (by kernel_rfl) (by exact fun _ _ _ h => h) (Or.inl ⟨by rfl, ?_⟩) (by assumption) ?_
              rotate_left
              · intro w hSw
                try simp only [Cells, blk, List.cons_append, List.nil_append, and_true, Nat.reduceAdd, Nat.add_zero, Nat.zero_add] at hSw
                go_simp
                try with_reducible rfl
              simp only [Act.put, List.setIfInBounds_toArray, List.set_cons_zero, List.set_cons_succ]
              refine wpAnyH_done (by kernel_rfl) ?_ _
              go_wp2_with fail
              go_meet
              exact ⟨rfl, hD6⟩
          · have g1 : (TC == LC) = false := by simpa using q1
            have hk : okv = false := by rw [hokp]; simp [q1]
            subst hk
            clear hokp HRC1 HRC2 q1
            go_wp2_with fail
            refine wp_region_held_drew (S := (fun W' : World => Cells W' (blk w.heap.size 0 0 [.int .i64 d, .slice al n1 cl, .slice none 0 0, .slice none 0 0] ++ (blk (w.heap.size + 1) 0 0 [.int .i64 TI, .int .i64 TF, .int .i64 TC, .int .i64 TS, .slice ta tb.length tc] ++ blk (w.heap.size + 1 + 1) 0 0 [.int .i64 dev, .int .i64 LC, .int .i64 LS, .int .i64 LE])))) (by kernel_rfl) (TY.drew) (fun hHeld => ?_)
            refine wpAnyH_take (i := 0) (oi := _) (v := ?_) (by rw [List.getElem?_toArray]; rfl) (by kernel_rfl) (by kernel_rfl) (by kernel_rfl) (by exact fun _ _ _ h => h) (Or.inl ⟨by rfl, ?_⟩) (by assumption) ?_
            rotate_left
            · intro w hSw
              try simp only [Cells, blk, List.cons_append, List.nil_append, and_true, Nat.reduceAdd, Nat.add_zero, Nat.zero_add] at hSw
              go_simp
              try with_reducible rfl
            simp only [Act.put, List.setIfInBounds_toArray, List.set_cons_zero, List.set_cons_succ]
            refine wpAnyH_take (i := 1) (oi := _) (v := ?_) (by rw [List.getElem?_toArray]; rfl) (by kernel_rfl) (by kernel_rfl) (by kernel_rfl) (by exact fun _ _ _ h => h) (Or.inl ⟨by rfl, ?_⟩) (by assumption) ?_
            rotate_left
            · intro w hSw
              try simp only [Cells, blk, List.cons_append, List.nil_append, and_true, Nat.reduceAdd, Nat.add_zero, Nat.zero_add] at hSw
              go_simp
              try with_reducible rfl
            simp only [Act.put, List.setIfInBounds_toArray, List.set_cons_zero, List.set_cons_succ]
            refine wpAnyH_take (i := 3) (oi := _) (v := ?_) (by rw [List.getElem?_toArray]; rfl) (by kernel_rfl) (by kernel_rfl) (by kernel_rfl) (by exact fun _ _ _ h => h) (Or.inl ⟨by rfl, ?_⟩) (by assumption) ?_
            rotate_left
            · intro w hSw
              try simp only [Cells, blk, List.cons_append, List.nil_append, and_true, Nat.reduceAdd, Nat.add_zero, Nat.zero_add] at hSw
              go_simp
              try with_reducible rfl
            simp only [Act.put, List.setIfInBounds_toArray, List.set_cons_zero, List.set_cons_succ]
            refine wpAnyH_take (i := 4) (oi := _) (v := ?_) (by rw [List.getElem?_toArray]; rfl) (by kernel_rfl) (by kernel_rfl) (by kernel_rfl) (by exact fun _ _ _ h => h) (Or.inl ⟨by rfl, ?_⟩) (by assumption) ?_
            rotate_left
            · intro w hSw
              try simp only [Cells, blk, List.cons_append, List.nil_append, and_true, Nat.reduceAdd, Nat.add_zero, Nat.zero_add] at hSw
              go_simp
              try with_reducible rfl
            simp only [Act.put, List.setIfInBounds_toArray, List.set_cons_zero, List.set_cons_succ]
            refine wpAnyH_take (i := 5) (oi := _) (v := ?_) (by rw [List.getElem?_toArray]; rfl) (by kernel_rfl) (by kernel_rfl) (by kernel_rfl) (by exact fun _ _ _ h => h) (Or.inl ⟨by rfl, ?_⟩) (by assumption) ?_
            rotate_left
            · intro w hSw
              try simp only [Cells, blk, List.cons_append, List.nil_append, and_true, Nat.reduceAdd, Nat.add_zero, Nat.zero_add] at hSw
              go_simp
              try with_reducible rfl
            simp only [Act.put, List.setIfInBounds_toArray, List.set_cons_zero, List.set_cons_succ]
            refine wpAnyH_take (i := 6) (oi := _) (v := ?_) (by rw [List.getElem?_toArray]; rfl) (by kernel_rfl) (by kernel_rfl) (by kernel_rfl) (by exact fun _ _ _ h => h) (Or.inl ⟨by rfl, ?_⟩) (by assumption) ?_
            rotate_left
            · intro w hSw
              try simp only [Cells, blk, List.cons_append, List.nil_append, and_true, Nat.reduceAdd, Nat.add_zero, Nat.zero_add] at hSw
              go_simp
              try with_reducible rfl
            simp only [Act.put, List.setIfInBounds_toArray, List.set_cons_zero, List.set_cons_succ]
            refine wpAnyH_ready (rs := [2]) (by kernel_rfl) (by simp) (AllReadyH.cons (o := _) (by rw [List.getElem?_toArray]; rfl) (fun K hK => ?_) AllReadyH.nil)
            go_simp
            go_at_call 18
            refine (own_any d (.slice al n1 cl) (.slice none 0 0) (.slice none 0 0) ls [] [] _ (HLW.out.below hCY.drew) (sr_nil _ _) (sr_nil _ _) HLB.out (by simp) (by simp)).mono ?_
            rintro e wo ⟨lvo, jvo, svo, rfl, so1, _, _, hBo⟩
            have T5 := Cells.keep (TY.drew) hBo
            have hD5 := (Below.refl Y.heap.size Y).drew.trans hBo
            clear hHeld
            refine hK.out _ _ (T5) (fun hHeld => ?_)
            clear hK K
            try simp only [Act.put, List.setIfInBounds_toArray, List.set_cons_zero, List.set_cons_succ]
            refine wpAnyH_ready (rs := [7]) (by kernel_rfl) (by simp) (AllReadyH.cons (o := _) (by rw [List.getElem?_toArray]; rfl) (fun K hK => ?_) AllReadyH.nil)
            go_simp
            have cr := range_any d lvo jvo svo ls TF dev wo so1.1
            rw [HR.out] at cr
            go_at_call 21
            refine cr.mono ?_
            rintro e w6 ⟨rfl, hB6⟩
            have T6 := T5.keep hB6
            have hD6 := hD5.trans (hB6.mono hD5.size)
            clear hHeld
            refine hK.out _ _ (T6) (fun hHeld => ?_)
            clear hK K
            try simp only [Act.put, List.setIfInBounds_toArray, List.set_cons_zero, List.set_cons_succ]
            refine wpAnyH_take (i := 8) (oi := _) (v := ?_) (by rw [List.getElem?_toArray]; rfl) (by kernel_rfl) (by kernel_rfl) (by kernel_rfl) (by exact fun _ _ _ h => h) (Or.inl ⟨by rfl, ?_⟩) (by assumption) ?_
            rotate_left
            · intro w hSw
              try simp only [Cells, blk, List.cons_append, List.nil_append, and_true, Nat.reduceAdd, Nat.add_zero, Nat.zero_add] at hSw
              go_simp
              try with_reducible rfl
            simp only [Act.put, List.setIfInBounds_toArray, List.set_cons_zero, List.set_cons_succ]
            refine wpAnyH_take (i := 9) (oi := _) (v := ?_) (by rw [List.getElem?_toArray]; rfl) (by kernel_rfl) (by kernel_rfl) (by kernel_rfl) (by exact fun _ _ _ h => h) (Or.inl ⟨by rfl, ?_⟩) (by assumption) ?_
            rotate_left
            · intro w hSw
              try simp only [Cells, blk, List.cons_append, List.nil_append, and_true, Nat.reduceAdd, Nat.add_zero, Nat.zero_add] at hSw
              go_simp
              try with_reducible rfl
            simp only [Act.put, List.setIfInBounds_toArray, List.set_cons_zero, List.set_cons_succ]
            refine wpAnyH_take (i := 10) (oi := _) (v := ?_) (by rw [List.getElem?_toArray]; rfl) (by kernel_rfl) (by kernel_rfl) (by kernel_rfl) (by exact fun _ _ _ h => h) (Or.inl ⟨by rfl, ?_⟩) (by assumption) ?_
            rotate_left
            · intro w hSw
              try simp only [Cells, blk, List.cons_append, List.nil_append, and_true, Nat.reduceAdd, Nat.add_zero, Nat.zero_add] at hSw
              go_simp
              try with_reducible rfl
            simp only [Act.put, List.setIfInBounds_toArray, List.set_cons_zero, List.set_cons_succ]
            refine wpAnyH_take (i := 11) (oi := _) (v := ?_) (by rw [List.getElem?_toArray]; rfl) (by kernel_rfl) (by kernel_rfl) (by kernel_rfl) (by exact fun _ _ _ h => h) (Or.inl ⟨by rfl, ?_⟩) (by assumption) ?_
            rotate_left
            · intro w hSw
              try simp only [Cells, blk, List.cons_append, List.nil_append, and_true, Nat.reduceAdd, Nat.add_zero, Nat.zero_add] at hSw
              go_simp
              try with_reducible rfl
            simp only [Act.put, List.setIfInBounds_toArray, List.set_cons_zero, List.set_cons_succ]
            refine wpAnyH_take (i := 12) (oi := _) (v := ?_) (by rw [List.getElem?_toArray]; rfl) (by kernel_rfl) (by kernel_rfl) (by kernel_rfl) (by exact fun _ _ _ h => h) (Or.inl ⟨by rfl, ?_⟩) (by assumption) ?_
            rotate_left
            · intro w hSw
              try simp only [Cells, blk, List.cons_append, List.nil_append, and_true, Nat.reduceAdd, Nat.add_zero, Nat.zero_add] at hSw
              go_simp
              try with_reducible rfl
            simp only [Act.put, List.setIfInBounds_toArray, List.set_cons_zero, List.set_cons_succ]
            refine wpAnyH_take (i := 13) (oi := _) (v := ?_) (by rw [List.getElem?_toArray]; rfl) (by kernel_rfl) (by kernel_rfl) (by kernel_rfl) (by exact fun _ _ _ h => h) (Or.inl ⟨by rfl, ?_⟩) (by assumption) ?_
            rotate_left
            · intro w hSw
              try simp only [Cells, blk, List.cons_append, List.nil_append, and_true, Nat.reduceAdd, Nat.add_zero, Nat.zero_add] at hSw
              go_simp
              try with_reducible rfl
            simp only [Act.put, List.setIfInBounds_toArray, List.set_cons_zero, List.set_cons_succ]
            refine wpAnyH_take (i := 14) (oi := _) (v := ?_) (by rw [List.getElem?_toArray]; rfl) (by kernel_rfl) (by kernel_rfl) (by kernel_rfl) (by exact fun _ _ _ h => h) (Or.inl ⟨by rfl, ?_⟩) (by assumption) ?_
            rotate_left
            · intro w hSw
              try simp only [Cells, blk, List.cons_append, List.nil_append, and_true, Nat.reduceAdd, Nat.add_zero, Nat.zero_add] at hSw
              go_simp
              try with_reducible rfl
            simp only [Act.put, List.setIfInBounds_toArray, List.set_cons_zero, List.set_cons_succ]
            refine wpAnyH_take (i := 15) (oi := _) (v := ?_) (by rw [List.getElem?_toArray]; rfl) (by kernel_rfl) (by kernel_rfl) (by kernel_rfl) (by exact fun _ _ _ h => h) (Or.inl ⟨by rfl, ?_⟩) (by assumption) ?_
            rotate_left
            · intro w hSw
              try simp only [Cells, blk, List.cons_append, List.nil_append, and_true, Nat.reduceAdd, Nat.add_zero, Nat.zero_add] at hSw
              go_simp
              try with_reducible rfl
            simp only [Act.put, List.setIfInBounds_toArray, List.set_cons_zero, List.set_cons_succ]
            refine wpAnyH_take (i := 16) (oi := _) (v := undef) (by rw [List.getElem?_toArray]; rfl) (by kernel_rfl) (by kernel_rfl) (by kernel_rfl) (by exact fun _ _ _ h => h) (Or.inr ⟨by rfl, rfl⟩) (by assumption) ?_
            simp only [Act.put, List.setIfInBounds_toArray, List.set_cons_zero, List.set_cons_succ]
            refine wpAnyH_take (i := 17) (oi := _) (v := undef) (by rw [List.getElem?_toArray]; rfl) (by kernel_rfl) (by kernel_rfl) (by kernel_rfl) (by exact fun _ _ _ h => h) (Or.inr ⟨by rfl, rfl⟩) (by assumption) ?_
            simp only [Act.put, List.setIfInBounds_toArray, List.set_cons_zero, List.set_cons_succ]
            refine wpAnyH_take (i := 18) (oi := _) (v := undef) (by rw [List.getElem?_toArray]; rfl) (by kernel_rfl) (by kernel_rfl) (by kernel_rfl) (by exact fun _ _ _ h => h) (Or.inr ⟨by rfl, rfl⟩) (by assumption) ?_
            simp only [Act.put, List.setIfInBounds_toArray, List.set_cons_zero, List.set_cons_succ]
            refine wpAnyH_take (i := 19) (oi := _) (v := undef) (by rw [List.getElem?_toArray]; rfl) (by kernel_rfl) (by kernel_rfl) (by kernel_rfl) (by exact fun _ _ _ h => h) (Or.inr ⟨by rfl, rfl⟩) (by assumption) ?_
            simp only [Act.put, List.setIfInBounds_toArray, List.set_cons_zero, List.set_cons_succ]
            refine wpAnyH_take (i := 20) (oi := _) (v := undef) (by rw [List.getElem?_toArray]; rfl) (by kernel_rfl) (by kernel_rfl) (by kernel_rfl) (by exact fun _ _ _ h => h) (Or.inr ⟨by rfl, rfl⟩) (by assumption) ?_
            simp only [Act.put, List.setIfInBounds_toArray, List.set_cons_zero, List.set_cons_succ]
            refine wpAnyH_take (i := 21) (oi := _) (v := ?_) (by rw [List.getElem?_toArray]; rfl) (by kernel_rfl) (by kernel_rfl) (by kernel_rfl) (by exact fun _ _ _ h => h) (Or.inl ⟨by rfl, ?_⟩) (by assumption) ?_
            rotate_left
            · intro w hSw
              try simp only [Cells, blk, List.cons_append, List.nil_append, and_true, Nat.reduceAdd, Nat.add_zero, Nat.zero_add] at hSw
              go_simp
              try with_reducible rfl
            simp only [Act.put, List.setIfInBounds_toArray, List.set_cons_zero, List.set_cons_succ]
            refine wpAnyH_take (i := 22) (oi := _) (v := ?_) (by rw [List.getElem?_toArray]; rfl) (by kernel_rfl) (by kernel_rfl) (by kernel_rfl) (by exact fun _ _ _ h => h) (Or.inl ⟨by rfl, ?_⟩) (by assumption) ?_
            rotate_left
            · intro w hSw
              try simp only [Cells, blk, List.cons_append, List.nil_append, and_true, Nat.reduceAdd, Nat.add_zero, Nat.zero_add] at hSw
              go_simp
              try with_reducible rfl
            simp only [Act.put, List.setIfInBounds_toArray, List.set_cons_zero, List.set_cons_succ]
            refine wpAnyH_take (i := 23) (oi := _) (v := undef) (by rw [List.getElem?_toArray]; rfl) (by kernel_rfl) (by kernel_rfl) (by kernel_rfl) (by exact fun _ _ _ h => h) (Or.inr ⟨by rfl, rfl⟩) (by assumption) ?_
            simp only [Act.put, List.setIfInBounds_toArray, List.set_cons_zero, List.set_cons_succ]
            refine wpAnyH_take (i := 24) (oi := _) (v := undef) (by rw [List.getElem?_toArray]; rfl) (by kernel_rfl) (by kernel_rfl) (by kernel_rfl) (by exact fun _ _ _ h => h) (Or.inr ⟨by rfl, rfl⟩) (by assumption) ?_
            simp only [Act.put, List.setIfInBounds_toArray, List.set_cons_zero, List.set_cons_succ]
            refine wpAnyH_take (i := 25) (oi := _) (v := undef) (by rw [List.getElem?_toArray]; rfl) (by kernel_rfl) (by kernel_rfl) (by kernel_rfl) (by exact fun _ _ _ h => h) (Or.inr ⟨by rfl, rfl⟩) (by assumption) ?_
            simp only [Act.put, List.setIfInBounds_toArray, List.set_cons_zero, List.set_cons_succ]
            refine wpAnyH_take (i := 26) (oi := _) (v := undef) (by rw [List.getElem?_toArray]; rfl) (by kernel_rfl) (by kernel_rfl) (by kernel_rfl) (by exact fun _ _ _ h => h) (Or.inr ⟨by rfl, rfl⟩) (by assumption) ?_
            simp only [Act.put, List.setIfInBounds_toArray, List.set_cons_zero, List.set_cons_succ]
            refine wpAnyH_take (i := 27) (oi := _) (v := undef) (by rw [List.getElem?_toArray]; rfl) (by kernel_rfl) (by kernel_rfl) (by kernel_rfl) (by exact fun _ _ _ h => h) (Or.inr ⟨by rfl, rfl⟩) (by assumption) ?_
            simp only [Act.put, List.setIfInBounds_toArray, List.set_cons_zero, List.set_cons_succ]
            refine wpAnyH_take (i := 28) (oi := _) (v := ?_) (by rw [List.getElem?_toArray]; rfl) (by kernel_rfl) (by kernel_rfl) (by kernel_rfl) (by exact fun _ _ _ h => h) (Or.inl ⟨by rfl, ?_⟩) (by assumption) ?_
            rotate_left
            · intro w hSw
              try simp only [Cells, blk, List.cons_append, List.nil_append, and_true, Nat.reduceAdd, Nat.add_zero, Nat.zero_add] at hSw
              go_simp
              try with_reducible rfl
            simp only [Act.put, List.setIfInBounds_toArray, List.set_cons_zero, List.set_cons_succ]
            refine wpAnyH_take (i := 29) (oi := _) (v := ?_) (by rw [List.getElem?_toArray]; rfl) (by kernel_rfl) (by kernel_rfl) (by kernel_rfl) (by exact fun _ _ _ h => h) (Or.inl ⟨by rfl, ?_⟩) (by assumption) ?_
            rotate_left
            · intro w hSw
              try simp only [Cells, blk, List.cons_append, List.nil_append, and_true, Nat.reduceAdd, Nat.add_zero, Nat.zero_add] at hSw
              go_simp
              try with_reducible rfl
            simp only [Act.put, List.setIfInBounds_toArray, List.set_cons_zero, List.set_cons_succ]
            refine wpAnyH_done (by kernel_rfl) ?_ _
            go_wp2_with fail
            go_meet
            exact ⟨rfl, hD6⟩
      case rest =>
      obtain ⟨rfl, hBZ⟩ := hcut
      rename World => Z
      have TZ := TY.keep hBZ
      have hCZ := hCY.trans (hBZ.mono hCY.size)
      have hiZ := (hBZ.block i hiY).trans hi
      have hvZ := hva.below hBZ
      have TI6 : Cells Z (blk i 0 0 [.int .i64 r0, .int .i64 r1, .int .i64 r2, .int .i64 r3, .int .i64 r4, va]) := ⟨cell_of_row _ _ 0 _ _ _ hiZ, cell_of_row _ _ 1 _ _ _ hiZ, cell_of_row _ _ 2 _ _ _ hiZ, cell_of_row _ _ 3 _ _ _ hiZ, cell_of_row _ _ 4 _ _ _ hiZ, cell_of_row _ _ 5 _ _ _ hiZ, trivial⟩
      have TT := TI6.app TZ
      cases okv
      · have h := HRC2.out rfl
        simp only [noRc, Rc.mk.injEq] at h
        obtain ⟨rfl, rfl, rfl, rfl, rfl, rfl⟩ := h
        clear HRC1 HRC2 hiZ TI6
        go_wp2_with fail
        refine wp_region_held_drew (S := (fun W' : World => Cells W' (blk i 0 0 [.int .i64 0, .int .i64 0, .int .i64 0, .int .i64 0, .int .i64 0, va] ++ (blk w.heap.size 0 0 [.int .i64 d, .slice al n1 cl, .slice none 0 0, .slice none 0 0] ++ (blk (w.heap.size + 1) 0 0 [.int .i64 TI, .int .i64 TF, .int .i64 TC, .int .i64 TS, .slice ta tb.length tc] ++ blk (w.heap.size + 1 + 1) 0 0 [.int .i64 dev, .int .i64 LC, .int .i64 LS, .int .i64 LE]))))) (by kernel_rfl) (TT.drew) (fun hHeld => ?_)
        refine wpAnyH_take (i := 0) (oi := _) (v := ?_) (by rw [List.getElem?_toArray]; rfl) (by kernel_rfl) (by kernel_rfl) (by kernel_rfl) (by exact fun _ _ _ h => h) (Or.inl ⟨by rfl, ?_⟩) (by assumption) ?_
        rotate_left
        · intro w hSw
          try simp only [Cells, blk, List.cons_append, List.nil_append, and_true, Nat.reduceAdd, Nat.add_zero, Nat.zero_add] at hSw
          go_simp
          try with_reducible rfl
        simp only [Act.put, List.setIfInBounds_toArray, List.set_cons_zero, List.set_cons_succ]
        refine wpAnyH_take (i := 1) (oi := _) (v := ?_) (by rw [List.getElem?_toArray]; rfl) (by kernel_rfl) (by kernel_rfl) (by kernel_rfl) (by exact fun _ _ _ h => h) (Or.inl ⟨by rfl, ?_⟩) (by assumption) ?_
        rotate_left
        · intro w hSw
          try simp only [Cells, blk, List.cons_append, List.nil_append, and_true, Nat.reduceAdd, Nat.add_zero, Nat.zero_add] at hSw
          go_simp
          try with_reducible rfl
        simp only [Act.put, List.setIfInBounds_toArray, List.set_cons_zero, List.set_cons_succ]
        refine wpAnyH_take (i := 2) (oi := _) (v := ?_) (by rw [List.getElem?_toArray]; rfl) (by kernel_rfl) (by kernel_rfl) (by kernel_rfl) (by exact fun _ _ _ h => h) (Or.inl ⟨by rfl, ?_⟩) (by assumption) ?_
        rotate_left
        · intro w hSw
          try simp only [Cells, blk, List.cons_append, List.nil_append, and_true, Nat.reduceAdd, Nat.add_zero, Nat.zero_add] at hSw
          go_simp
          try with_reducible rfl
        simp only [Act.put, List.setIfInBounds_toArray, List.set_cons_zero, List.set_cons_succ]
        refine wpAnyH_take (i := 3) (oi := _) (v := ?_) (by rw [List.getElem?_toArray]; rfl) (by kernel_rfl) (by kernel_rfl) (by kernel_rfl) (by exact fun _ _ _ h => h) (Or.inl ⟨by rfl, ?_⟩) (by assumption) ?_
        rotate_left
        · intro w hSw
          try simp only [Cells, blk, List.cons_append, List.nil_append, and_true, Nat.reduceAdd, Nat.add_zero, Nat.zero_add] at hSw
          go_simp
          try with_reducible rfl
        simp only [Act.put, List.setIfInBounds_toArray, List.set_cons_zero, List.set_cons_succ]
        refine wpAnyH_take (i := 4) (oi := _) (v := ?_) (by rw [List.getElem?_toArray]; rfl) (by kernel_rfl) (by kernel_rfl) (by kernel_rfl) (by exact fun _ _ _ h => h) (Or.inl ⟨by rfl, ?_⟩) (by assumption) ?_
        rotate_left
        · intro w hSw
          try simp only [Cells, blk, List.cons_append, List.nil_append, and_true, Nat.reduceAdd, Nat.add_zero, Nat.zero_add] at hSw
          go_simp
          try with_reducible rfl
        simp only [Act.put, List.setIfInBounds_toArray, List.set_cons_zero, List.set_cons_succ]
        refine wpAnyH_ready (rs := [5]) (by kernel_rfl) (by simp) (AllReadyH.cons (o := _) (by rw [List.getElem?_toArray]; rfl) (fun K hK => ?_) AllReadyH.nil)
        go_simp
        go_at_call 27
        refine (same_any noRc noRc va (.slice none 0 0) _ (hvZ.below (Below.refl _ _).drew) (bytesO_nil 0 _).1).mono ?_
        rintro e w6 ⟨rfl, hB6⟩
        have hsb : sameB noRc noRc = true := rfl
        rw [hsb]
        have T6 := Cells.keep (TT.drew) hB6
        have hC6 := hCZ.drew.trans (hB6.mono hCZ.drew.size)
        clear hHeld
        refine hK.out _ _ (T6) (fun hHeld => ?_)
        clear hK K
        try simp only [Act.put, List.setIfInBounds_toArray, List.set_cons_zero, List.set_cons_succ]
        refine wpAnyH_take (i := 6) (oi := _) (v := ?_) (by rw [List.getElem?_toArray]; rfl) (by kernel_rfl) (by kernel_rfl) (by kernel_rfl) (by exact fun _ _ _ h => h) (Or.inl ⟨by rfl, ?_⟩) (by assumption) ?_
        rotate_left
        · intro w hSw
          try simp only [Cells, blk, List.cons_append, List.nil_append, and_true, Nat.reduceAdd, Nat.add_zero, Nat.zero_add] at hSw
          go_simp
          try with_reducible rfl
        simp only [Act.put, List.setIfInBounds_toArray, List.set_cons_zero, List.set_cons_succ]
        refine wpAnyH_take (i := 7) (oi := _) (v := ?_) (by rw [List.getElem?_toArray]; rfl) (by kernel_rfl) (by kernel_rfl) (by kernel_rfl) (by exact fun _ _ _ h => h) (Or.inl ⟨by rfl, ?_⟩) (by assumption) ?_
        rotate_left
        · intro w hSw
          try simp only [Cells, blk, List.cons_append, List.nil_append, and_true, Nat.reduceAdd, Nat.add_zero, Nat.zero_add] at hSw
          go_simp
          try with_reducible rfl
        simp only [Act.put, List.setIfInBounds_toArray, List.set_cons_zero, List.set_cons_succ]
        refine wpAnyH_take (i := 8) (oi := _) (v := undef) (by rw [List.getElem?_toArray]; rfl) (by kernel_rfl) (by kernel_rfl) (by kernel_rfl) (by exact fun _ _ _ h => h) (Or.inr ⟨by rfl, rfl⟩) (by assumption) ?_
        simp only [Act.put, List.setIfInBounds_toArray, List.set_cons_zero, List.set_cons_succ]
        refine wpAnyH_take (i := 9) (oi := _) (v := undef) (by rw [List.getElem?_toArray]; rfl) (by kernel_rfl) (by kernel_rfl) (by kernel_rfl) (by exact fun _ _ _ h => h) (Or.inr ⟨by rfl, rfl⟩) (by assumption) ?_
        simp only [Act.put, List.setIfInBounds_toArray, List.set_cons_zero, List.set_cons_succ]
        refine wpAnyH_take (i := 10) (oi := _) (v := undef) (by rw [List.getElem?_toArray]; rfl) (by kernel_rfl) (by kernel_rfl) (by kernel_rfl) (by exact fun _ _ _ h => h) (Or.inr ⟨by rfl, rfl⟩) (by assumption) ?_
        simp only [Act.put, List.setIfInBounds_toArray, List.set_cons_zero, List.set_cons_succ]
        refine wpAnyH_take (i := 11) (oi := _) (v := undef) (by rw [List.getElem?_toArray]; rfl) (by kernel_rfl) (by kernel_rfl) (by kernel_rfl) (by exact fun _ _ _ h => h) (Or.inr ⟨by rfl, rfl⟩) (by assumption) ?_
        simp only [Act.put, List.setIfInBounds_toArray, List.set_cons_zero, List.set_cons_succ]
        refine wpAnyH_take (i := 12) (oi := _) (v := undef) (by rw [List.getElem?_toArray]; rfl) (by kernel_rfl) (by kernel_rfl) (by kernel_rfl) (by exact fun _ _ _ h => h) (Or.inr ⟨by rfl, rfl⟩) (by assumption) ?_
        simp only [Act.put, List.setIfInBounds_toArray, List.set_cons_zero, List.set_cons_succ]
        refine wpAnyH_take (i := 13) (oi := _) (v := undef) (by rw [List.getElem?_toArray]; rfl) (by kernel_rfl) (by kernel_rfl) (by kernel_rfl) (by exact fun _ _ _ h => h) (Or.inr ⟨by rfl, rfl⟩) (by assumption) ?_
        simp only [Act.put, List.setIfInBounds_toArray, List.set_cons_zero, List.set_cons_succ]
        refine wpAnyH_take (i := 14) (oi := _) (v := undef) (by rw [List.getElem?_toArray]; rfl) (by kernel_rfl) (by kernel_rfl) (by kernel_rfl) (by exact fun _ _ _ h => h) (Or.inr ⟨by rfl, rfl⟩) (by assumption) ?_
        simp only [Act.put, List.setIfInBounds_toArray, List.set_cons_zero, List.set_cons_succ]
        refine wpAnyH_take (i := 15) (oi := _) (v := undef) (by rw [List.getElem?_toArray]; rfl) (by kernel_rfl) (by kernel_rfl) (by kernel_rfl) (by exact fun _ _ _ h => h) (Or.inr ⟨by rfl, rfl⟩) (by assumption) ?_
        simp only [Act.put, List.setIfInBounds_toArray, List.set_cons_zero, List.set_cons_succ]
        refine wpAnyH_take (i := 16) (oi := _) (v := undef) (by rw [List.getElem?_toArray]; rfl) (by kernel_rfl) (by kernel_rfl) (by kernel_rfl) (by exact fun _ _ _ h => h) (Or.inr ⟨by rfl, rfl⟩) (by assumption) ?_
        simp only [Act.put, List.setIfInBounds_toArray, List.set_cons_zero, List.set_cons_succ]
        refine wpAnyH_take (i := 17) (oi := _) (v := undef) (by rw [List.getElem?_toArray]; rfl) (by kernel_rfl) (by kernel_rfl) (by kernel_rfl) (by exact fun _ _ _ h => h) (Or.inr ⟨by rfl, rfl⟩) (by assumption) ?_
        simp only [Act.put, List.setIfInBounds_toArray, List.set_cons_zero, List.set_cons_succ]
        refine wpAnyH_take (i := 18) (oi := _) (v := undef) (by rw [List.getElem?_toArray]; rfl) (by kernel_rfl) (by kernel_rfl) (by kernel_rfl) (by exact fun _ _ _ h => h) (Or.inr ⟨by rfl, rfl⟩) (by assumption) ?_
        simp only [Act.put, List.setIfInBounds_toArray, List.set_cons_zero, List.set_cons_succ]
        refine wpAnyH_take (i := 19) (oi := _) (v := undef) (by rw [List.getElem?_toArray]; rfl) (by kernel_rfl) (by kernel_rfl) (by kernel_rfl) (by exact fun _ _ _ h => h) (Or.inr ⟨by rfl, rfl⟩) (by assumption) ?_
        simp only [Act.put, List.setIfInBounds_toArray, List.set_cons_zero, List.set_cons_succ]
        refine wpAnyH_take (i := 20) (oi := _) (v := undef) (by rw [List.getElem?_toArray]; rfl) (by kernel_rfl) (by kernel_rfl) (by kernel_rfl) (by exact fun _ _ _ h => h) (Or.inr ⟨by rfl, rfl⟩) (by assumption) ?_
        simp only [Act.put, List.setIfInBounds_toArray, List.set_cons_zero, List.set_cons_succ]
        refine wpAnyH_take (i := 21) (oi := _) (v := undef) (by rw [List.getElem?_toArray]; rfl) (by kernel_rfl) (by kernel_rfl) (by kernel_rfl) (by exact fun _ _ _ h => h) (Or.inr ⟨by rfl, rfl⟩) (by assumption) ?_
        simp only [Act.put, List.setIfInBounds_toArray, List.set_cons_zero, List.set_cons_succ]
        refine wpAnyH_take (i := 22) (oi := _) (v := undef) (by rw [List.getElem?_toArray]; rfl) (by kernel_rfl) (by kernel_rfl) (by kernel_rfl) (by exact fun _ _ _ h => h) (Or.inr ⟨by rfl, rfl⟩) (by assumption) ?_
        simp only [Act.put, List.setIfInBounds_toArray, List.set_cons_zero, List.set_cons_succ]
        refine wpAnyH_take (i := 23) (oi := _) (v := undef) (by rw [List.getElem?_toArray]; rfl) (by kernel_rfl) (by kernel_rfl) (by kernel_rfl) (by exact fun _ _ _ h => h) (Or.inr ⟨by rfl, rfl⟩) (by assumption) ?_
        simp only [Act.put, List.setIfInBounds_toArray, List.set_cons_zero, List.set_cons_succ]
        refine wpAnyH_take (i := 24) (oi := _) (v := undef) (by rw [List.getElem?_toArray]; rfl) (by kernel_rfl) (by kernel_rfl) (by kernel_rfl) (by exact fun _ _ _ h => h) (Or.inr ⟨by rfl, rfl⟩) (by assumption) ?_
        simp only [Act.put, List.setIfInBounds_toArray, List.set_cons_zero, List.set_cons_succ]
        refine wpAnyH_take (i := 25) (oi := _) (v := undef) (by rw [List.getElem?_toArray]; rfl) (by kernel_rfl) (by kernel_rfl) (by kernel_rfl) (by exact fun _ _ _ h => h) (Or.inr ⟨by rfl, rfl⟩) (by assumption) ?_
        simp only [Act.put, List.setIfInBounds_toArray, List.set_cons_zero, List.set_cons_succ]
        refine wpAnyH_take (i := 26) (oi := _) (v := undef) (by rw [List.getElem?_toArray]; rfl) (by kernel_rfl) (by kernel_rfl) (by kernel_rfl) (by exact fun _ _ _ h => h) (Or.inr ⟨by rfl, rfl⟩) (by assumption) ?_
        simp only [Act.put, List.setIfInBounds_toArray, List.set_cons_zero, List.set_cons_succ]
        refine wpAnyH_take (i := 27) (oi := _) (v := undef) (by rw [List.getElem?_toArray]; rfl) (by kernel_rfl) (by kernel_rfl) (by kernel_rfl) (by exact fun _ _ _ h => h) (Or.inr ⟨by rfl, rfl⟩) (by assumption) ?_
        simp only [Act.put, List.setIfInBounds_toArray, List.set_cons_zero, List.set_cons_succ]
        refine wpAnyH_take (i := 28) (oi := _) (v := undef) (by rw [List.getElem?_toArray]; rfl) (by kernel_rfl) (by kernel_rfl) (by kernel_rfl) (by exact fun _ _ _ h => h) (Or.inr ⟨by rfl, rfl⟩) (by assumption) ?_
        simp only [Act.put, List.setIfInBounds_toArray, List.set_cons_zero, List.set_cons_succ]
        refine wpAnyH_take (i := 29) (oi := _) (v := undef) (by rw [List.getElem?_toArray]; rfl) (by kernel_rfl) (by kernel_rfl) (by kernel_rfl) (by exact fun _ _ _ h => h) (Or.inr ⟨by rfl, rfl⟩) (by assumption) ?_
        simp only [Act.put, List.setIfInBounds_toArray, List.set_cons_zero, List.set_cons_succ]
        refine wpAnyH_take (i := 30) (oi := _) (v := undef) (by rw [List.getElem?_toArray]; rfl) (by kernel_rfl) (by kernel_rfl) (by kernel_rfl) (by exact fun _ _ _ h => h) (Or.inr ⟨by rfl, rfl⟩) (by assumption) ?_
        simp only [Act.put, List.setIfInBounds_toArray, List.set_cons_zero, List.set_cons_succ]
        refine wpAnyH_take (i := 31) (oi := _) (v := undef) (by rw [List.getElem?_toArray]; rfl) (by kernel_rfl) (by kernel_rfl) (by kernel_rfl) (by exact fun _ _ _ h => h) (Or.inr ⟨by rfl, rfl⟩) (by assumption) ?_
        simp only [Act.put, List.setIfInBounds_toArray, List.set_cons_zero, List.set_cons_succ]
        refine wpAnyH_take (i := 32) (oi := _) (v := undef) (by rw [List.getElem?_toArray]; rfl) (by kernel_rfl) (by kernel_rfl) (by kernel_rfl) (by exact fun _ _ _ h => h) (Or.inr ⟨by rfl, rfl⟩) (by assumption) ?_
        simp only [Act.put, List.setIfInBounds_toArray, List.set_cons_zero, List.set_cons_succ]
        refine wpAnyH_take (i := 33) (oi := _) (v := undef) (by rw [List.getElem?_toArray]; rfl) (by kernel_rfl) (by kernel_rfl) (by kernel_rfl) (by exact fun _ _ _ h => h) (Or.inr ⟨by rfl, rfl⟩) (by assumption) ?_
        simp only [Act.put, List.setIfInBounds_toArray, List.set_cons_zero, List.set_cons_succ]
        refine wpAnyH_take (i := 34) (oi := _) (v := undef) (by rw [List.getElem?_toArray]; rfl) (by kernel_rfl) (by kernel_rfl) (by kernel_rfl) (by exact fun _ _ _ h => h) (Or.inr ⟨by rfl, rfl⟩) (by assumption) ?_
        simp only [Act.put, List.setIfInBounds_toArray, List.set_cons_zero, List.set_cons_succ]
        refine wpAnyH_take (i := 35) (oi := _) (v := undef) (by rw [List.getElem?_toArray]; rfl) (by kernel_rfl) (by kernel_rfl) (by kernel_rfl) (by exact fun _ _ _ h => h) (Or.inr ⟨by rfl, rfl⟩) (by assumption) ?_
        simp only [Act.put, List.setIfInBounds_toArray, List.set_cons_zero, List.set_cons_succ]
        refine wpAnyH_take (i := 36) (oi := _) (v := undef) (by rw [List.getElem?_toArray]; rfl) (by kernel_rfl) (by kernel_rfl) (by kernel_rfl) (by exact fun _ _ _ h => h) (Or.inr ⟨by rfl, rfl⟩) (by assumption) ?_
        simp only [Act.put, List.setIfInBounds_toArray, List.set_cons_zero, List.set_cons_succ]
        refine wpAnyH_take (i := 37) (oi := _) (v := undef) (by rw [List.getElem?_toArray]; rfl) (by kernel_rfl) (by kernel_rfl) (by kernel_rfl) (by exact fun _ _ _ h => h) (Or.inr ⟨by rfl, rfl⟩) (by assumption) ?_
        simp only [Act.put, List.setIfInBounds_toArray, List.set_cons_zero, List.set_cons_succ]
        refine wpAnyH_take (i := 38) (oi := _) (v := undef) (by rw [List.getElem?_toArray]; rfl) (by kernel_rfl) (by kernel_rfl) (by kernel_rfl) (by exact fun _ _ _ h => h) (Or.inr ⟨by rfl, rfl⟩) (by assumption) ?_
        simp only [Act.put, List.setIfInBounds_toArray, List.set_cons_zero, List.set_cons_succ]
        refine wpAnyH_take (i := 39) (oi := _) (v := undef) (by rw [List.getElem?_toArray]; rfl) (by kernel_rfl) (by kernel_rfl) (by kernel_rfl) (by exact fun _ _ _ h => h) (Or.inr ⟨by rfl, rfl⟩) (by assumption) ?_
        simp only [Act.put, List.setIfInBounds_toArray, List.set_cons_zero, List.set_cons_succ]
        refine wpAnyH_take (i := 40) (oi := _) (v := undef) (by rw [List.getElem?_toArray]; rfl) (by kernel_rfl) (by kernel_rfl) (by kernel_rfl) (by exact fun _ _ _ h => h) (Or.inr ⟨by rfl, rfl⟩) (by assumption) ?_
        simp only [Act.put, List.setIfInBounds_toArray, List.set_cons_zero, List.set_cons_succ]
        refine wpAnyH_take (i := 41) (oi := _) (v := undef) (by rw [List.getElem?_toArray]; rfl) (by kernel_rfl) (by kernel_rfl) (by kernel_rfl) (by exact fun _ _ _ h => h) (Or.inr ⟨by rfl, rfl⟩) (by assumption) ?_
        simp only [Act.put, List.setIfInBounds_toArray, List.set_cons_zero, List.set_cons_succ]
        refine wpAnyH_take (i := 42) (oi := _) (v := undef) (by rw [List.getElem?_toArray]; rfl) (by kernel_rfl) (by kernel_rfl) (by kernel_rfl) (by exact fun _ _ _ h => h) (Or.inr ⟨by rfl, rfl⟩) (by assumption) ?_
        simp only [Act.put, List.setIfInBounds_toArray, List.set_cons_zero, List.set_cons_succ]
        refine wpAnyH_take (i := 43) (oi := _) (v := undef) (by rw [List.getElem?_toArray]; rfl) (by kernel_rfl) (by kernel_rfl) (by kernel_rfl) (by exact fun _ _ _ h => h) (Or.inr ⟨by rfl, rfl⟩) (by assumption) ?_
        simp only [Act.put, List.setIfInBounds_toArray, List.set_cons_zero, List.set_cons_succ]
        refine wpAnyH_take (i := 44) (oi := _) (v := undef) (by rw [List.getElem?_toArray]; rfl) (by kernel_rfl) (by kernel_rfl) (by kernel_rfl) (by exact fun _ _ _ h => h) (Or.inr ⟨by rfl, rfl⟩) (by assumption) ?_
        simp only [Act.put, List.setIfInBounds_toArray, List.set_cons_zero, List.set_cons_succ]
        refine wpAnyH_take (i := 45) (oi := _) (v := undef) (by rw [List.getElem?_toArray]; rfl) (by kernel_rfl) (by kernel_rfl) (by kernel_rfl) (by exact fun _ _ _ h => h) (Or.inr ⟨by rfl, rfl⟩) (by assumption) ?_
        simp only [Act.put, List.setIfInBounds_toArray, List.set_cons_zero, List.set_cons_succ]
        refine wpAnyH_take (i := 46) (oi := _) (v := undef) (by rw [List.getElem?_toArray]; rfl) (by kernel_rfl) (by kernel_rfl) (by kernel_rfl) (by exact fun _ _ _ h => h) (Or.inr ⟨by rfl, rfl⟩) (by assumption) ?_
        simp only [Act.put, List.setIfInBounds_toArray, List.set_cons_zero, List.set_cons_succ]
        refine wpAnyH_take (i := 47) (oi := _) (v := undef) (by rw [List.getElem?_toArray]; rfl) (by kernel_rfl) (by kernel_rfl) (by kernel_rfl) (by exact fun _ _ _ h => h) (Or.inr ⟨by rfl, rfl⟩) (by assumption) ?_
        simp only [Act.put, List.setIfInBounds_toArray, List.set_cons_zero, List.set_cons_succ]
        refine wpAnyH_take (i := 48) (oi := _) (v := undef) (by rw [List.getElem?_toArray]; rfl) (by kernel_rfl) (by kernel_rfl) (by kernel_rfl) (by exact fun _ _ _ h => h) (Or.inr ⟨by rfl, rfl⟩) (by assumption) ?_
        simp only [Act.put, List.setIfInBounds_toArray, List.set_cons_zero, List.set_cons_succ]
        refine wpAnyH_take (i := 49) (oi := _) (v := undef) (by rw [List.getElem?_toArray]; rfl) (by kernel_rfl) (by kernel_rfl) (by kernel_rfl) (by exact fun _ _ _ h => h) (Or.inr ⟨by rfl, rfl⟩) (by assumption) ?_
        simp only [Act.put, List.setIfInBounds_toArray, List.set_cons_zero, List.set_cons_succ]
        refine wpAnyH_take (i := 50) (oi := _) (v := undef) (by rw [List.getElem?_toArray]; rfl) (by kernel_rfl) (by kernel_rfl) (by kernel_rfl) (by exact fun _ _ _ h => h) (Or.inr ⟨by rfl, rfl⟩) (by assumption) ?_
        simp only [Act.put, List.setIfInBounds_toArray, List.set_cons_zero, List.set_cons_succ]
        refine wpAnyH_take (i := 51) (oi := _) (v := ?_) (by rw [List.getElem?_toArray]; rfl) (by kernel_rfl) (by kernel_rfl) (by kernel_rfl) (by exact fun _ _ _ h => h) (Or.inl ⟨by rfl, ?_⟩) (by assumption) ?_
        rotate_left
        · intro w hSw
          try simp only [Cells, blk, List.cons_append, List.nil_append, and_true, Nat.reduceAdd, Nat.add_zero, Nat.zero_add] at hSw
          go_simp
          try with_reducible rfl
        simp only [Act.put, List.setIfInBounds_toArray, List.set_cons_zero, List.set_cons_succ]
        refine wpAnyH_take (i := 52) (oi := _) (v := ?_) (by rw [List.getElem?_toArray]; rfl) (by kernel_rfl) (by kernel_rfl) (by kernel_rfl) (by exact fun _ _ _ h => h) (Or.inl ⟨by rfl, ?_⟩) (by assumption) ?_
        rotate_left
        · intro w hSw
          try simp only [Cells, blk, List.cons_append, List.nil_append, and_true, Nat.reduceAdd, Nat.add_zero, Nat.zero_add] at hSw
          go_simp
          try with_reducible rfl
        simp only [Act.put, List.setIfInBounds_toArray, List.set_cons_zero, List.set_cons_succ]
        refine wpAnyH_done (by kernel_rfl) ?_ _
        go_wp2
        go_ret
        exact ⟨rfl, hC6⟩
      · have h := HRC1.out rfl
        simp only [Rc.mk.injEq] at h
        obtain ⟨rfl, rfl, rfl, rfl, he, rfl⟩ := h
        have ce := end_any r0 TF TC r3 ta rb.length tc (by omega) (by omega)
        rw [← he] at ce
        have CE := Lib.hid ce
        have hbZ := HBW.out.below hCZ
        have cv1 := fun W' hb => run_convert_b (P := Try.prog) (hvZ.below (w' := W') hb) 22 5 9 Try.underlying22 Try.underlying5 Try.underlying9
        have cv2 := fun W' hb => run_convert_b (P := Try.prog) (hbZ.below (w' := W') hb) 22 5 9 Try.underlying22 Try.underlying5 Try.underlying9
        obtain ⟨X, hX⟩ : ∃ X, strB rb = X := ⟨_, rfl⟩
        rw [hX] at cv1 cv2
        have CV1 := Lib.hid cv1
        have CV2 := Lib.hid cv2
        clear ce he HRC1 HRC2 hiZ TI6 cv1 cv2 hX
        go_wp2_with fail
        refine wp_region_held_drew (S := (fun W' : World => (convert 22 9 va).run Try.prog W' = .ok (.string X) W' ∧ (convert 22 9 (.slice ta rb.length tc)).run Try.prog W' = .ok (.string X) W' ∧ Cells W' (blk i 0 0 [.int .i64 r0, .int .i64 r1, .int .i64 1, .int .i64 r3, .int .i64 r4, va] ++ (blk w.heap.size 0 0 [.int .i64 d, .slice al n1 cl, .slice none 0 0, .slice none 0 0] ++ (blk (w.heap.size + 1) 0 0 [.int .i64 r0, .int .i64 TF, .int .i64 TC, .int .i64 r3, .slice ta rb.length tc] ++ blk (w.heap.size + 1 + 1) 0 0 [.int .i64 r1, .int .i64 LC, .int .i64 LS, .int .i64 LE]))))) (by kernel_rfl) (⟨CV1.out _ (Below.refl _ _).drew, CV2.out _ (Below.refl _ _).drew, TT.drew⟩) (fun hHeld => ?_)
        refine wpAnyH_take (i := 0) (oi := _) (v := ?_) (by rw [List.getElem?_toArray]; rfl) (by kernel_rfl) (by kernel_rfl) (by kernel_rfl) (by exact fun _ _ _ h => h) (Or.inl ⟨by rfl, ?_⟩) (by assumption) ?_
        rotate_left
        · intro w hSw
          try simp only [Cells, blk, List.cons_append, List.nil_append, and_true, Nat.reduceAdd, Nat.add_zero, Nat.zero_add] at hSw
          go_simp
          try with_reducible rfl
        simp only [Act.put, List.setIfInBounds_toArray, List.set_cons_zero, List.set_cons_succ]
        refine wpAnyH_take (i := 1) (oi := _) (v := ?_) (by rw [List.getElem?_toArray]; rfl) (by kernel_rfl) (by kernel_rfl) (by kernel_rfl) (by exact fun _ _ _ h => h) (Or.inl ⟨by rfl, ?_⟩) (by assumption) ?_
        rotate_left
        · intro w hSw
          try simp only [Cells, blk, List.cons_append, List.nil_append, and_true, Nat.reduceAdd, Nat.add_zero, Nat.zero_add] at hSw
          go_simp
          try with_reducible rfl
        simp only [Act.put, List.setIfInBounds_toArray, List.set_cons_zero, List.set_cons_succ]
        refine wpAnyH_take (i := 2) (oi := _) (v := ?_) (by rw [List.getElem?_toArray]; rfl) (by kernel_rfl) (by kernel_rfl) (by kernel_rfl) (by exact fun _ _ _ h => h) (Or.inl ⟨by rfl, ?_⟩) (by assumption) ?_
        rotate_left
        · intro w hSw
          try simp only [Cells, blk, List.cons_append, List.nil_append, and_true, Nat.reduceAdd, Nat.add_zero, Nat.zero_add] at hSw
          go_simp
          try with_reducible rfl
        simp only [Act.put, List.setIfInBounds_toArray, List.set_cons_zero, List.set_cons_succ]
        refine wpAnyH_take (i := 3) (oi := _) (v := undef) (by rw [List.getElem?_toArray]; rfl) (by kernel_rfl) (by kernel_rfl) (by kernel_rfl) (by exact fun _ _ _ h => h) (Or.inr ⟨by rfl, rfl⟩) (by assumption) ?_
        simp only [Act.put, List.setIfInBounds_toArray, List.set_cons_zero, List.set_cons_succ]
        refine wpAnyH_take (i := 4) (oi := _) (v := undef) (by rw [List.getElem?_toArray]; rfl) (by kernel_rfl) (by kernel_rfl) (by kernel_rfl) (by exact fun _ _ _ h => h) (Or.inr ⟨by rfl, rfl⟩) (by assumption) ?_
        simp only [Act.put, List.setIfInBounds_toArray, List.set_cons_zero, List.set_cons_succ]
        refine wpAnyH_take (i := 5) (oi := _) (v := undef) (by rw [List.getElem?_toArray]; rfl) (by kernel_rfl) (by kernel_rfl) (by kernel_rfl) (by exact fun _ _ _ h => h) (Or.inr ⟨by rfl, rfl⟩) (by assumption) ?_
        simp only [Act.put, List.setIfInBounds_toArray, List.set_cons_zero, List.set_cons_succ]
        refine wpAnyH_take (i := 6) (oi := _) (v := ?_) (by rw [List.getElem?_toArray]; rfl) (by kernel_rfl) (by kernel_rfl) (by kernel_rfl) (by exact fun _ _ _ h => h) (Or.inl ⟨by rfl, ?_⟩) (by assumption) ?_
        rotate_left
        · intro w hSw
          try simp only [Cells, blk, List.cons_append, List.nil_append, and_true, Nat.reduceAdd, Nat.add_zero, Nat.zero_add] at hSw
          go_simp
          try with_reducible rfl
        simp only [Act.put, List.setIfInBounds_toArray, List.set_cons_zero, List.set_cons_succ]
        refine wpAnyH_take (i := 7) (oi := _) (v := ?_) (by rw [List.getElem?_toArray]; rfl) (by kernel_rfl) (by kernel_rfl) (by kernel_rfl) (by exact fun _ _ _ h => h) (Or.inl ⟨by rfl, ?_⟩) (by assumption) ?_
        rotate_left
        · intro w hSw
          try simp only [Cells, blk, List.cons_append, List.nil_append, and_true, Nat.reduceAdd, Nat.add_zero, Nat.zero_add] at hSw
          go_simp
          try with_reducible rfl
        simp only [Act.put, List.setIfInBounds_toArray, List.set_cons_zero, List.set_cons_succ]
        refine wpAnyH_take (i := 8) (oi := _) (v := ?_) (by rw [List.getElem?_toArray]; rfl) (by kernel_rfl) (by kernel_rfl) (by kernel_rfl) (by exact fun _ _ _ h => h) (Or.inl ⟨by rfl, ?_⟩) (by assumption) ?_
        rotate_left
        · intro w hSw
          try simp only [Cells, blk, List.cons_append, List.nil_append, and_true, Nat.reduceAdd, Nat.add_zero, Nat.zero_add] at hSw
          go_simp
          try with_reducible rfl
        simp only [Act.put, List.setIfInBounds_toArray, List.set_cons_zero, List.set_cons_succ]
        refine wpAnyH_take (i := 9) (oi := _) (v := ?_) (by rw [List.getElem?_toArray]; rfl) (by kernel_rfl) (by kernel_rfl) (by kernel_rfl) (by exact fun _ _ _ h => h) (Or.inl ⟨by rfl, ?_⟩) (by assumption) ?_
        rotate_left
        · intro w hSw
          try simp only [Cells, blk, List.cons_append, List.nil_append, and_true, Nat.reduceAdd, Nat.add_zero, Nat.zero_add] at hSw
          go_simp
          try with_reducible rfl
        simp only [Act.put, List.setIfInBounds_toArray, List.set_cons_zero, List.set_cons_succ]
        refine wpAnyH_take (i := 10) (oi := _) (v := ?_) (by rw [List.getElem?_toArray]; rfl) (by kernel_rfl) (by kernel_rfl) (by kernel_rfl) (by exact fun _ _ _ h => h) (Or.inl ⟨by rfl, ?_⟩) (by assumption) ?_
        rotate_left
        · intro w hSw
          try simp only [Cells, blk, List.cons_append, List.nil_append, and_true, Nat.reduceAdd, Nat.add_zero, Nat.zero_add] at hSw
          go_simp
          try with_reducible rfl
        simp only [Act.put, List.setIfInBounds_toArray, List.set_cons_zero, List.set_cons_succ]
        refine wpAnyH_take (i := 11) (oi := _) (v := ?_) (by rw [List.getElem?_toArray]; rfl) (by kernel_rfl) (by kernel_rfl) (by kernel_rfl) (by exact fun _ _ _ h => h) (Or.inl ⟨by rfl, ?_⟩) (by assumption) ?_
        rotate_left
        · intro w hSw
          try simp only [Cells, blk, List.cons_append, List.nil_append, and_true, Nat.reduceAdd, Nat.add_zero, Nat.zero_add] at hSw
          go_simp
          try with_reducible rfl
        simp only [Act.put, List.setIfInBounds_toArray, List.set_cons_zero, List.set_cons_succ]
        refine wpAnyH_take (i := 12) (oi := _) (v := ?_) (by rw [List.getElem?_toArray]; rfl) (by kernel_rfl) (by kernel_rfl) (by kernel_rfl) (by exact fun _ _ _ h => h) (Or.inl ⟨by rfl, ?_⟩) (by assumption) ?_
        rotate_left
        · intro w hSw
          try simp only [Cells, blk, List.cons_append, List.nil_append, and_true, Nat.reduceAdd, Nat.add_zero, Nat.zero_add] at hSw
          go_simp
          try with_reducible rfl
        simp only [Act.put, List.setIfInBounds_toArray, List.set_cons_zero, List.set_cons_succ]
        refine wpAnyH_take (i := 13) (oi := _) (v := ?_) (by rw [List.getElem?_toArray]; rfl) (by kernel_rfl) (by kernel_rfl) (by kernel_rfl) (by exact fun _ _ _ h => h) (Or.inl ⟨by rfl, ?_⟩) (by assumption) ?_
        rotate_left
        · intro w hSw
          try simp only [Cells, blk, List.cons_append, List.nil_append, and_true, Nat.reduceAdd, Nat.add_zero, Nat.zero_add] at hSw
          go_simp
          try with_reducible rfl
        simp only [Act.put, List.setIfInBounds_toArray, List.set_cons_zero, List.set_cons_succ]
        refine wpAnyH_take (i := 14) (oi := _) (v := ?_) (by rw [List.getElem?_toArray]; rfl) (by kernel_rfl) (by kernel_rfl) (by kernel_rfl) (by exact fun _ _ _ h => h) (Or.inl ⟨by rfl, ?_⟩) (by assumption) ?_
        rotate_left
        · intro w hSw
          try simp only [Cells, blk, List.cons_append, List.nil_append, and_true, Nat.reduceAdd, Nat.add_zero, Nat.zero_add] at hSw
          go_simp
          try with_reducible rfl
        simp only [Act.put, List.setIfInBounds_toArray, List.set_cons_zero, List.set_cons_succ]
        refine wpAnyH_take (i := 15) (oi := _) (v := ?_) (by rw [List.getElem?_toArray]; rfl) (by kernel_rfl) (by kernel_rfl) (by kernel_rfl) (by exact fun _ _ _ h => h) (Or.inl ⟨by rfl, ?_⟩) (by assumption) ?_
        rotate_left
        · intro w hSw
          try simp only [Cells, blk, List.cons_append, List.nil_append, and_true, Nat.reduceAdd, Nat.add_zero, Nat.zero_add] at hSw
          go_simp
          try with_reducible rfl
        simp only [Act.put, List.setIfInBounds_toArray, List.set_cons_zero, List.set_cons_succ]
        refine wpAnyH_take (i := 16) (oi := _) (v := ?_) (by rw [List.getElem?_toArray]; rfl) (by kernel_rfl) (by kernel_rfl) (by kernel_rfl) (by exact fun _ _ _ h => h) (Or.inl ⟨by rfl, ?_⟩) (by assumption) ?_
        rotate_left
        · intro w hSw
          try simp only [Cells, blk, List.cons_append, List.nil_append, and_true, Nat.reduceAdd, Nat.add_zero, Nat.zero_add] at hSw
          go_simp
          try with_reducible rfl
        simp only [Act.put, List.setIfInBounds_toArray, List.set_cons_zero, List.set_cons_succ]
        refine wpAnyH_take (i := 17) (oi := _) (v := ?_) (by rw [List.getElem?_toArray]; rfl) (by kernel_rfl) (by kernel_rfl) (by kernel_rfl) (by exact fun _ _ _ h => h) (Or.inl ⟨by rfl, ?_⟩) (by assumption) ?_
        rotate_left
        · intro w hSw
          try simp only [Cells, blk, List.cons_append, List.nil_append, and_true, Nat.reduceAdd, Nat.add_zero, Nat.zero_add] at hSw
          go_simp
          try with_reducible rfl
        simp only [Act.put, List.setIfInBounds_toArray, List.set_cons_zero, List.set_cons_succ]
        refine wpAnyH_take (i := 18) (oi := _) (v := ?_) (by rw [List.getElem?_toArray]; rfl) (by kernel_rfl) (by kernel_rfl) (by kernel_rfl) (by exact fun _ _ _ h => h) (Or.inl ⟨by rfl, ?_⟩) (by assumption) ?_
        rotate_left
        · intro w hSw
          try simp only [Cells, blk, List.cons_append, List.nil_append, and_true, Nat.reduceAdd, Nat.add_zero, Nat.zero_add] at hSw
          go_simp
          try with_reducible rfl
        simp only [Act.put, List.setIfInBounds_toArray, List.set_cons_zero, List.set_cons_succ]
        refine wpAnyH_take (i := 19) (oi := _) (v := ?_) (by rw [List.getElem?_toArray]; rfl) (by kernel_rfl) (by kernel_rfl) (by kernel_rfl) (by exact fun _ _ _ h => h) (Or.inl ⟨by rfl, ?_⟩) (by assumption) ?_
        rotate_left
        · intro w hSw
          try simp only [Cells, blk, List.cons_append, List.nil_append, and_true, Nat.reduceAdd, Nat.add_zero, Nat.zero_add] at hSw
          go_simp
          try with_reducible rfl
        simp only [Act.put, List.setIfInBounds_toArray, List.set_cons_zero, List.set_cons_succ]
        refine wpAnyH_take (i := 20) (oi := _) (v := ?_) (by rw [List.getElem?_toArray]; rfl) (by kernel_rfl) (by kernel_rfl) (by kernel_rfl) (by exact fun _ _ _ h => h) (Or.inl ⟨by rfl, ?_⟩) (by assumption) ?_
        rotate_left
        · intro w hSw
          try simp only [Cells, blk, List.cons_append, List.nil_append, and_true, Nat.reduceAdd, Nat.add_zero, Nat.zero_add] at hSw
          go_simp
          try with_reducible rfl
        simp only [Act.put, List.setIfInBounds_toArray, List.set_cons_zero, List.set_cons_succ]
        refine wpAnyH_take (i := 21) (oi := _) (v := ?_) (by rw [List.getElem?_toArray]; rfl) (by kernel_rfl) (by kernel_rfl) (by kernel_rfl) (by exact fun _ _ _ h => h) (Or.inl ⟨by rfl, ?_⟩) (by assumption) ?_
        rotate_left
        · intro w hSw
          try simp only [Cells, blk, List.cons_append, List.nil_append, and_true, Nat.reduceAdd, Nat.add_zero, Nat.zero_add] at hSw
          go_simp
          try with_reducible rfl
        simp only [Act.put, List.setIfInBounds_toArray, List.set_cons_zero, List.set_cons_succ]
        refine wpAnyH_take (i := 22) (oi := _) (v := ?_) (by rw [List.getElem?_toArray]; rfl) (by kernel_rfl) (by kernel_rfl) (by kernel_rfl) (by exact fun _ _ _ h => h) (Or.inl ⟨by rfl, ?_⟩) (by assumption) ?_
        rotate_left
        · intro w hSw
          try simp only [Cells, blk, List.cons_append, List.nil_append, and_true, Nat.reduceAdd, Nat.add_zero, Nat.zero_add] at hSw
          go_simp
          try with_reducible rfl
        simp only [Act.put, List.setIfInBounds_toArray, List.set_cons_zero, List.set_cons_succ]
        refine wpAnyH_take (i := 23) (oi := _) (v := ?_) (by rw [List.getElem?_toArray]; rfl) (by kernel_rfl) (by kernel_rfl) (by kernel_rfl) (by exact fun _ _ _ h => h) (Or.inl ⟨by rfl, ?_⟩) (by assumption) ?_
        rotate_left
        · intro w hSw
          try simp only [Cells, blk, List.cons_append, List.nil_append, and_true, Nat.reduceAdd, Nat.add_zero, Nat.zero_add] at hSw
          go_simp
          try with_reducible rfl
        simp only [Act.put, List.setIfInBounds_toArray, List.set_cons_zero, List.set_cons_succ]
        refine wpAnyH_take (i := 24) (oi := _) (v := ?_) (by rw [List.getElem?_toArray]; rfl) (by kernel_rfl) (by kernel_rfl) (by kernel_rfl) (by exact fun _ _ _ h => h) (Or.inl ⟨by rfl, ?_⟩) (by assumption) ?_
        rotate_left
        · intro w hSw
          try simp only [Cells, blk, List.cons_append, List.nil_append, and_true, Nat.reduceAdd, Nat.add_zero, Nat.zero_add] at hSw
          go_simp
          try with_reducible rfl
        simp only [Act.put, List.setIfInBounds_toArray, List.set_cons_zero, List.set_cons_succ]
        refine wpAnyH_take (i := 25) (oi := _) (v := ?_) (by rw [List.getElem?_toArray]; rfl) (by kernel_rfl) (by kernel_rfl) (by kernel_rfl) (by exact fun _ _ _ h => h) (Or.inl ⟨by rfl, ?_⟩) (by assumption) ?_
        rotate_left
        · intro w hSw
          try simp only [Cells, blk, List.cons_append, List.nil_append, and_true, Nat.reduceAdd, Nat.add_zero, Nat.zero_add] at hSw
          go_simp
          try with_reducible rfl
        simp only [Act.put, List.setIfInBounds_toArray, List.set_cons_zero, List.set_cons_succ]
        refine wpAnyH_take (i := 26) (oi := _) (v := ?_) (by rw [List.getElem?_toArray]; rfl) (by kernel_rfl) (by kernel_rfl) (by kernel_rfl) (by exact fun _ _ _ h => h) (Or.inl ⟨by rfl, ?_⟩) (by assumption) ?_
        rotate_left
        · intro w hSw
          try simp only [Cells, blk, List.cons_append, List.nil_append, and_true, Nat.reduceAdd, Nat.add_zero, Nat.zero_add] at hSw
          go_simp
          try with_reducible rfl
        simp only [Act.put, List.setIfInBounds_toArray, List.set_cons_zero, List.set_cons_succ]
        refine wpAnyH_take (i := 27) (oi := _) (v := ?_) (by rw [List.getElem?_toArray]; rfl) (by kernel_rfl) (by kernel_rfl) (by kernel_rfl) (by exact fun _ _ _ h => h) (Or.inl ⟨by rfl, ?_⟩) (by assumption) ?_
        rotate_left
        · intro w hSw
          try simp only [Cells, blk, List.cons_append, List.nil_append, and_true, Nat.reduceAdd, Nat.add_zero, Nat.zero_add] at hSw
          go_simp
          try with_reducible rfl
        simp only [Act.put, List.setIfInBounds_toArray, List.set_cons_zero, List.set_cons_succ]
        refine wpAnyH_take (i := 28) (oi := _) (v := ?_) (by rw [List.getElem?_toArray]; rfl) (by kernel_rfl) (by kernel_rfl) (by kernel_rfl) (by exact fun _ _ _ h => h) (Or.inl ⟨by rfl, ?_⟩) (by assumption) ?_
        rotate_left
        · intro w hSw
          try simp only [Cells, blk, List.cons_append, List.nil_append, and_true, Nat.reduceAdd, Nat.add_zero, Nat.zero_add] at hSw
          go_simp
          try with_reducible rfl
        simp only [Act.put, List.setIfInBounds_toArray, List.set_cons_zero, List.set_cons_succ]
        refine wpAnyH_take (i := 29) (oi := _) (v := ?_) (by rw [List.getElem?_toArray]; rfl) (by kernel_rfl) (by kernel_rfl) (by kernel_rfl) (by exact fun _ _ _ h => h) (Or.inl ⟨by rfl, ?_⟩) (by assumption) ?_
        rotate_left
        · intro w hSw
          try simp only [Cells, blk, List.cons_append, List.nil_append, and_true, Nat.reduceAdd, Nat.add_zero, Nat.zero_add] at hSw
          go_simp
          try with_reducible rfl
        simp only [Act.put, List.setIfInBounds_toArray, List.set_cons_zero, List.set_cons_succ]
        refine wpAnyH_take (i := 30) (oi := _) (v := ?_) (by rw [List.getElem?_toArray]; rfl) (by kernel_rfl) (by kernel_rfl) (by kernel_rfl) (by exact fun _ _ _ h => h) (Or.inl ⟨by rfl, ?_⟩) (by assumption) ?_
        rotate_left
        · intro w hSw
          try simp only [Cells, blk, List.cons_append, List.nil_append, and_true, Nat.reduceAdd, Nat.add_zero, Nat.zero_add] at hSw
          go_simp
          try with_reducible rfl
        simp only [Act.put, List.setIfInBounds_toArray, List.set_cons_zero, List.set_cons_succ]
        refine wpAnyH_take (i := 31) (oi := _) (v := ?_) (by rw [List.getElem?_toArray]; rfl) (by kernel_rfl) (by kernel_rfl) (by kernel_rfl) (by exact fun _ _ _ h => h) (Or.inl ⟨by rfl, ?_⟩) (by assumption) ?_
        rotate_left
        · intro w hSw
          try simp only [Cells, blk, List.cons_append, List.nil_append, and_true, Nat.reduceAdd, Nat.add_zero, Nat.zero_add] at hSw
          go_simp
          try with_reducible rfl
        simp only [Act.put, List.setIfInBounds_toArray, List.set_cons_zero, List.set_cons_succ]
        refine wpAnyH_take (i := 32) (oi := _) (v := ?_) (by rw [List.getElem?_toArray]; rfl) (by kernel_rfl) (by kernel_rfl) (by kernel_rfl) (by exact fun _ _ _ h => h) (Or.inl ⟨by rfl, ?_⟩) (by assumption) ?_
        rotate_left
        · intro w hSw
          try simp only [Cells, blk, List.cons_append, List.nil_append, and_true, Nat.reduceAdd, Nat.add_zero, Nat.zero_add] at hSw
          go_simp
          try with_reducible rfl
        simp only [Act.put, List.setIfInBounds_toArray, List.set_cons_zero, List.set_cons_succ]
        refine wpAnyH_take (i := 33) (oi := _) (v := ?_) (by rw [List.getElem?_toArray]; rfl) (by kernel_rfl) (by kernel_rfl) (by kernel_rfl) (by exact fun _ _ _ h => h) (Or.inl ⟨by rfl, ?_⟩) (by assumption) ?_
        rotate_left
        · intro w hSw
          try simp only [Cells, blk, List.cons_append, List.nil_append, and_true, Nat.reduceAdd, Nat.add_zero, Nat.zero_add] at hSw
          go_simp
          try with_reducible rfl
        simp only [Act.put, List.setIfInBounds_toArray, List.set_cons_zero, List.set_cons_succ]
        refine wpAnyH_take (i := 34) (oi := _) (v := ?_) (by rw [List.getElem?_toArray]; rfl) (by kernel_rfl) (by kernel_rfl) (by kernel_rfl) (by exact fun _ _ _ h => h) (Or.inl ⟨by rfl, ?_⟩) (by assumption) ?_
        rotate_left
        · intro w hSw
          try simp only [Cells, blk, List.cons_append, List.nil_append, and_true, Nat.reduceAdd, Nat.add_zero, Nat.zero_add] at hSw
          go_simp
          try with_reducible rfl
        simp only [Act.put, List.setIfInBounds_toArray, List.set_cons_zero, List.set_cons_succ]
        refine wpAnyH_take (i := 35) (oi := _) (v := ?_) (by rw [List.getElem?_toArray]; rfl) (by kernel_rfl) (by kernel_rfl) (by kernel_rfl) (by exact fun _ _ _ h => h) (Or.inl ⟨by rfl, ?_⟩) (by assumption) ?_
        rotate_left
        · intro w hSw
          try simp only [Cells, blk, List.cons_append, List.nil_append, and_true, Nat.reduceAdd, Nat.add_zero, Nat.zero_add] at hSw
          go_simp
          try with_reducible rfl
        simp only [Act.put, List.setIfInBounds_toArray, List.set_cons_zero, List.set_cons_succ]
        refine wpAnyH_take (i := 36) (oi := _) (v := ?_) (by rw [List.getElem?_toArray]; rfl) (by kernel_rfl) (by kernel_rfl) (by kernel_rfl) (by exact fun _ _ _ h => h) (Or.inl ⟨by rfl, ?_⟩) (by assumption) ?_
        rotate_left
        · intro w hSw
          try simp only [Cells, blk, List.cons_append, List.nil_append, and_true, Nat.reduceAdd, Nat.add_zero, Nat.zero_add] at hSw
          go_simp
          try with_reducible rfl
        simp only [Act.put, List.setIfInBounds_toArray, List.set_cons_zero, List.set_cons_succ]
        refine wpAnyH_take (i := 37) (oi := _) (v := ?_) (by rw [List.getElem?_toArray]; rfl) (by kernel_rfl) (by kernel_rfl) (by kernel_rfl) (by exact fun _ _ _ h => h) (Or.inl ⟨by rfl, ?_⟩) (by assumption) ?_
        rotate_left
        · intro w hSw
          try simp only [Cells, blk, List.cons_append, List.nil_append, and_true, Nat.reduceAdd, Nat.add_zero, Nat.zero_add] at hSw
          go_simp
          try with_reducible rfl
        simp only [Act.put, List.setIfInBounds_toArray, List.set_cons_zero, List.set_cons_succ]
        refine wpAnyH_take (i := 38) (oi := _) (v := ?_) (by rw [List.getElem?_toArray]; rfl) (by kernel_rfl) (by kernel_rfl) (by kernel_rfl) (by exact fun _ _ _ h => h) (Or.inl ⟨by rfl, ?_⟩) (by assumption) ?_
        rotate_left
        · intro w hSw
          try simp only [Cells, blk, List.cons_append, List.nil_append, and_true, Nat.reduceAdd, Nat.add_zero, Nat.zero_add] at hSw
          go_simp
          try with_reducible rfl
        simp only [Act.put, List.setIfInBounds_toArray, List.set_cons_zero, List.set_cons_succ]
        refine wpAnyH_ready (rs := [39]) (by kernel_rfl) (by simp) (AllReadyH.cons (o := _) (by rw [List.getElem?_toArray]; rfl) (fun K hK => ?_) AllReadyH.nil)
        go_simp
        go_at_call 13
        refine (CE.out _).mono ?_
        rintro e w6 ⟨rfl, hB6⟩
        have T6 := Cells.keep (TT.drew) hB6
        have hC6 := hCZ.drew.trans (hB6.mono hCZ.drew.size)
        have hZ6 := (Below.refl Z.heap.size Z).drew.trans hB6
        clear hHeld
        refine hK.out _ _ (⟨CV1.out _ hZ6, CV2.out _ hZ6, T6⟩) (fun hHeld => ?_)
        clear hK K
        try simp only [Act.put, List.setIfInBounds_toArray, List.set_cons_zero, List.set_cons_succ]
        refine wpAnyH_take (i := 40) (oi := _) (v := ?_) (by rw [List.getElem?_toArray]; rfl) (by kernel_rfl) (by kernel_rfl) (by kernel_rfl) (by exact fun _ _ _ h => h) (Or.inl ⟨by rfl, ?_⟩) (by assumption) ?_
        rotate_left
        · intro w hSw
          try simp only [Cells, blk, List.cons_append, List.nil_append, and_true, Nat.reduceAdd, Nat.add_zero, Nat.zero_add] at hSw
          go_simp
          try with_reducible rfl
        simp only [Act.put, List.setIfInBounds_toArray, List.set_cons_zero, List.set_cons_succ]
        refine wpAnyH_take (i := 41) (oi := _) (v := ?_) (by rw [List.getElem?_toArray]; rfl) (by kernel_rfl) (by kernel_rfl) (by kernel_rfl) (by exact fun _ _ _ h => h) (Or.inl ⟨by rfl, ?_⟩) (by assumption) ?_
        rotate_left
        · intro w hSw
          try simp only [Cells, blk, List.cons_append, List.nil_append, and_true, Nat.reduceAdd, Nat.add_zero, Nat.zero_add] at hSw
          go_simp
          try with_reducible rfl
        simp only [Act.put, List.setIfInBounds_toArray, List.set_cons_zero, List.set_cons_succ]
        refine wpAnyH_take (i := 42) (oi := _) (v := ?_) (by rw [List.getElem?_toArray]; rfl) (by kernel_rfl) (by kernel_rfl) (by kernel_rfl) (by exact fun _ _ _ h => h) (Or.inl ⟨by rfl, ?_⟩) (by assumption) ?_
        rotate_left
        · intro w hSw
          try simp only [Cells, blk, List.cons_append, List.nil_append, and_true, Nat.reduceAdd, Nat.add_zero, Nat.zero_add] at hSw
          go_simp
          try with_reducible rfl
        simp only [Act.put, List.setIfInBounds_toArray, List.set_cons_zero, List.set_cons_succ]
        refine wpAnyH_take (i := 43) (oi := _) (v := ?_) (by rw [List.getElem?_toArray]; rfl) (by kernel_rfl) (by kernel_rfl) (by kernel_rfl) (by exact fun _ _ _ h => h) (Or.inl ⟨by rfl, ?_⟩) (by assumption) ?_
        rotate_left
        · intro w hSw
          try simp only [Cells, blk, List.cons_append, List.nil_append, and_true, Nat.reduceAdd, Nat.add_zero, Nat.zero_add] at hSw
          go_simp
          try with_reducible rfl
        simp only [Act.put, List.setIfInBounds_toArray, List.set_cons_zero, List.set_cons_succ]
        refine wpAnyH_take (i := 44) (oi := _) (v := ?_) (by rw [List.getElem?_toArray]; rfl) (by kernel_rfl) (by kernel_rfl) (by kernel_rfl) (by exact fun _ _ _ h => h) (Or.inl ⟨by rfl, ?_⟩) (by assumption) ?_
        rotate_left
        · intro w hSw
          try simp only [Cells, blk, List.cons_append, List.nil_append, and_true, Nat.reduceAdd, Nat.add_zero, Nat.zero_add] at hSw
          go_simp
          try with_reducible rfl
        simp only [Act.put, List.setIfInBounds_toArray, List.set_cons_zero, List.set_cons_succ]
        refine wpAnyH_take (i := 45) (oi := _) (v := ?_) (by rw [List.getElem?_toArray]; rfl) (by kernel_rfl) (by kernel_rfl) (by kernel_rfl) (by exact fun _ _ _ h => h) (Or.inl ⟨by rfl, ?_⟩) (by assumption) ?_
        rotate_left
        · intro w hSw
          try simp only [Cells, blk, List.cons_append, List.nil_append, and_true, Nat.reduceAdd, Nat.add_zero, Nat.zero_add] at hSw
          go_simp
          try with_reducible rfl
        simp only [Act.put, List.setIfInBounds_toArray, List.set_cons_zero, List.set_cons_succ]
        refine wpAnyH_take (i := 46) (oi := _) (v := ?_) (by rw [List.getElem?_toArray]; rfl) (by kernel_rfl) (by kernel_rfl) (by kernel_rfl) (by exact fun _ _ _ h => h) (Or.inl ⟨by rfl, ?_⟩) (by assumption) ?_
        rotate_left
        · intro w hSw
          try simp only [Cells, blk, List.cons_append, List.nil_append, and_true, Nat.reduceAdd, Nat.add_zero, Nat.zero_add] at hSw
          go_simp
          try with_reducible rfl
        simp only [Act.put, List.setIfInBounds_toArray, List.set_cons_zero, List.set_cons_succ]
        refine wpAnyH_take (i := 47) (oi := _) (v := ?_) (by rw [List.getElem?_toArray]; rfl) (by kernel_rfl) (by kernel_rfl) (by kernel_rfl) (by exact fun _ _ _ h => h) (Or.inl ⟨by rfl, ?_⟩) (by assumption) ?_
        rotate_left
        · intro w hSw
          try simp only [Cells, blk, List.cons_append, List.nil_append, and_true, Nat.reduceAdd, Nat.add_zero, Nat.zero_add] at hSw
          go_simp
          try with_reducible rfl
        simp only [Act.put, List.setIfInBounds_toArray, List.set_cons_zero, List.set_cons_succ]
        refine wpAnyH_take (i := 48) (oi := _) (v := ?_) (by rw [List.getElem?_toArray]; rfl) (by kernel_rfl) (by kernel_rfl) (by kernel_rfl) (by exact fun _ _ _ h => h) (Or.inl ⟨by rfl, ?_⟩) (by assumption) ?_
        rotate_left
        · intro w hSw
          try simp only [Cells, blk, List.cons_append, List.nil_append, and_true, Nat.reduceAdd, Nat.add_zero, Nat.zero_add] at hSw
          go_simp
          try with_reducible rfl
        simp only [Act.put, List.setIfInBounds_toArray, List.set_cons_zero, List.set_cons_succ]
        refine wpAnyH_take (i := 49) (oi := _) (v := ?_) (by rw [List.getElem?_toArray]; rfl) (by kernel_rfl) (by kernel_rfl) (by kernel_rfl) (by exact fun _ _ _ h => h) (Or.inl ⟨by rfl, ?_⟩) (by assumption) ?_
        rotate_left
        · intro w hSw
          try simp only [Cells, blk, List.cons_append, List.nil_append, and_true, Nat.reduceAdd, Nat.add_zero, Nat.zero_add] at hSw
          go_simp
          try with_reducible rfl
        simp only [Act.put, List.setIfInBounds_toArray, List.set_cons_zero, List.set_cons_succ]
        refine wpAnyH_take (i := 50) (oi := _) (v := ?_) (by rw [List.getElem?_toArray]; rfl) (by kernel_rfl) (by kernel_rfl) (by kernel_rfl) (by exact fun _ _ _ h => h) (Or.inl ⟨by rfl, ?_⟩) (by assumption) ?_
        rotate_left
        · intro w hSw
          try simp only [Cells, blk, List.cons_append, List.nil_append, and_true, Nat.reduceAdd, Nat.add_zero, Nat.zero_add] at hSw
          go_simp
          try with_reducible rfl
        simp only [Act.put, List.setIfInBounds_toArray, List.set_cons_zero, List.set_cons_succ]
        refine wpAnyH_take (i := 51) (oi := _) (v := ?_) (by rw [List.getElem?_toArray]; rfl) (by kernel_rfl) (by kernel_rfl) (by kernel_rfl) (by exact fun _ _ _ h => h) (Or.inl ⟨by rfl, ?_⟩) (by assumption) ?_
        rotate_left
        · intro w hSw
          try simp only [Cells, blk, List.cons_append, List.nil_append, and_true, Nat.reduceAdd, Nat.add_zero, Nat.zero_add] at hSw
          go_simp
          try with_reducible rfl
        simp only [Act.put, List.setIfInBounds_toArray, List.set_cons_zero, List.set_cons_succ]
        refine wpAnyH_take (i := 52) (oi := _) (v := ?_) (by rw [List.getElem?_toArray]; rfl) (by kernel_rfl) (by kernel_rfl) (by kernel_rfl) (by exact fun _ _ _ h => h) (Or.inl ⟨by rfl, ?_⟩) (by assumption) ?_
        rotate_left
        · intro w hSw
          try simp only [Cells, blk, List.cons_append, List.nil_append, and_true, Nat.reduceAdd, Nat.add_zero, Nat.zero_add] at hSw
          go_simp
          try with_reducible rfl
        simp only [Act.put, List.setIfInBounds_toArray, List.set_cons_zero, List.set_cons_succ]
        refine wpAnyH_done (by kernel_rfl) ?_ _
        go_wp2
        go_ret
        exact ⟨ret_bool (by simp), hC6⟩
    · have hne : (E != 0) = true := by simpa using hE0
      go_wp2
      go_ret
      exact ⟨rfl, hCU⟩
end Go.Proofs.Ythemdbgcamkecaa
