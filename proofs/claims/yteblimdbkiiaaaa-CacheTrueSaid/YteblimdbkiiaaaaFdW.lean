/- cache: the reference's Use. -/
import Derived.Test.YteblimdbkiiaaaaFdJ
import Derived.Test.YteblimdbkiiaaaaFdG
namespace Go.Proofs.Yteblimdbkiiaaaa
open Go.RowKit

/-- whether an element is a characteristic of a type in a service of a type -/
def useB (l : List Fd) (sh sl ch cl : Int) (x : Fd) : Bool := chB x && (x.hi == ch && x.lo == cl) && l.any (inB sh sl x.ha)
/-- the first such one's value -/
def useL (l : List Fd) (sh sl ch cl : Int) : Int × Int := match l.find? (useB l sh sl ch cl) with
  | some x => (x.va, 0)
  | none => (0, 6)
def useC (c : Ca) (sh sl ch cl : Int) : Int × Int := if c.va && !c.du then useL c.l sh sl ch cl else (0, 21)

theorem find_first {q : Fd → Bool} : ∀ (l : List Fd) (k : Nat), k < l.length → (∀ j, j < k → q (l.getD j default) = false) → q (l.getD k default) = true → l.find? q = some (l.getD k default)
  | [], k, h, _, _ => by simp at h
  | x :: l, 0, _, _, h => by
    have h' : q x = true := by simpa using h
    rw [List.find?_cons_of_pos h']
    rfl
  | x :: l, k+1, hk, hn, h => by
    have h0 : q x = false := by simpa using hn 0 (by omega)
    rw [List.find?_cons_of_neg (by rw [h0]; decide)]
    have := find_first (q := q) l k (by simpa using hk) (fun j hj => by simpa using hn (j + 1) (by omega)) (by simpa using h)
    rw [this]
    simp
set_option linter.unusedSimpArgs false in
set_option linter.unusedVariables false in
set_option maxRecDepth 100000 in
set_option maxHeartbeats 3000000 in
theorem ruse_any (v : Value) (c : Ca) (sh sl ch cl : Int) (w : World) (hc : CaV w v c) (hn : c.l.length ≤ 1000000) :
    Calls Try.prog 17 #[v, .agg #[.int .u64 sh, .int .u64 sl], .agg #[.int .u64 ch, .int .u64 cl]] w fun e w' => e = .returned (.tuple #[.int .u16 (useC c sh sl ch cl).1, .int .i64 (useC c sh sl ch cl).2]) ∧ Below w.heap.size w w' := by
  obtain ⟨va, ha, l, du⟩ := c
  obtain ⟨fv, rfl, hs⟩ := hc
  simp only at hs hn ⊢
  unfold useC
  simp only
  obtain ⟨n, hnn⟩ : ∃ n, l.length = n := ⟨_, rfl⟩
  have HN := Lib.hid hnn
  obtain ⟨_, _, _, ao, cap, rfl, _, hcell⟩ := hs
  have HC := Lib.hid hcell
  rw [hnn] at hn ⊢
  have hb0 : Below w.heap.size w (((w.alloc (.cells #[.bool va, .int .u64 ha, .slice ao n cap, .bool du] 26)).alloc (.cells #[.int .u64 sh, .int .u64 sl] 34)).alloc (.cells #[.int .u64 ch, .int .u64 cl] 34)) := (((Below.refl _ _).alloc (Nat.le_refl _) _).alloc (by simp) _).alloc (by simp; omega) _
  clear hcell hnn
  by_cases hok : va = true ∧ du = false
  · obtain ⟨rfl, rfl⟩ := hok
    simp only [Bool.not_false, Bool.and_self, if_true]
    have T0 : Cells (((w.alloc (.cells #[.bool true, .int .u64 ha, .slice ao n cap, .bool false] 26)).alloc (.cells #[.int .u64 sh, .int .u64 sl] 34)).alloc (.cells #[.int .u64 ch, .int .u64 cl] 34)) (blk w.heap.size 0 0 [.bool true, .int .u64 ha, .slice ao n cap, .bool false] ++ blk (w.heap.size + 1) 0 0 [.int .u64 sh, .int .u64 sl] ++ blk (w.heap.size + 2) 0 0 [.int .u64 ch, .int .u64 cl]) := by
      have q0 := cells_new w [.bool true, .int .u64 ha, .slice ao n cap, .bool false] 26
      have q1 := cells_new (w.alloc (.cells #[.bool true, .int .u64 ha, .slice ao n cap, .bool false] 26)) [.int .u64 sh, .int .u64 sl] 34
      rw [show (w.alloc (.cells #[.bool true, .int .u64 ha, .slice ao n cap, .bool false] 26)).heap.size = w.heap.size + 1 by simp] at q1
      have q2 := cells_new ((w.alloc (.cells #[.bool true, .int .u64 ha, .slice ao n cap, .bool false] 26)).alloc (.cells #[.int .u64 sh, .int .u64 sl] 34)) [.int .u64 ch, .int .u64 cl] 34
      rw [show ((w.alloc (.cells #[.bool true, .int .u64 ha, .slice ao n cap, .bool false] 26)).alloc (.cells #[.int .u64 sh, .int .u64 sl] 34)).heap.size = w.heap.size + 2 by simp] at q2
      exact ((((q0.keep ((Below.refl _ _).alloc (Nat.le_refl _) _)).app q1).keep ((Below.refl _ _).alloc (Nat.le_refl _) _))).app q2
    go_enter Try.func17, Try.ntmps17
    go_wp2
    generalize hW : ((w.alloc (.cells _ 26)).alloc (.cells _ 34)).alloc (.cells _ 34) = W0 at T0 hb0 ⊢
    clear hW
    go_loopw [8, 9, 10, 11] (fun i _ _ _ wr => ∃ k : Nat, i = .int .i64 k ∧ k ≤ n ∧ Hid (∀ j, j < k → useB l sh sl ch cl (l.getD j default) = false) ∧ Below W0.heap.size W0 wr) (fun i _ _ _ _ => n - (intOf i).toNat)
    case atStart => exact ⟨0, by simp, Nat.zero_le _, fun j h => by omega, Below.refl _ _⟩
    case round =>
      obtain ⟨k, rfl, hk, hno, hB⟩ := hrel
      have hB1 := hb0.trans (hB.mono hb0.size)
      have T := T0.keep hB
      by_cases hlt : k < n
      · have hkl : k < l.length := by rw [HN.out]; exact hlt
        obtain ⟨b, off, rfl, hb, hcell⟩ := HC.out (by omega)
        have key : ∀ (W : World), Below w.heap.size w W → ∀ (t : Nat) (ht : t < l.length) j, j < 6 → W.cell? ⟨b, off + t * 6 + j, none⟩ = (elF l[t]).cells[j]? := fun W hW t ht j hj => by
          have e := fcells_get l t ht hj
          obtain ⟨u, hu⟩ : ∃ u, (elF l[t]).cells[j]? = some u := ⟨_, List.getElem?_eq_getElem (show j < (elF l[t]).cells.length from hj)⟩
          rw [hu] at e ⊢
          have := kc (hcell _ _ e) hW
          rwa [← Nat.add_assoc] at this
        have KEY := Lib.hid key
        have hgd := getD_lt hkl
        have q := key wr hB1 k hkl
        obtain ⟨⟨x0, x1, x2, x3, x4, x5⟩, hx⟩ : ∃ x, l[k] = x := ⟨_, rfl⟩
        rw [hx] at q hgd
        have c0 := q 0 (by decide)
        have c1 := q 1 (by decide)
        have c2 := q 2 (by decide)
        have c3 := q 3 (by decide)
        have c4 := q 4 (by decide)
        have c5 := q 5 (by decide)
        simp only [El.cells, elF, Nat.add_zero, List.getElem?_cons_zero, List.getElem?_cons_succ] at c0 c1 c2 c3 c4 c5
        have i1 : (k : Int) < (n : Int) := by omega
        have g1 : decide (k < n) = true := by simpa using hlt
        have w1 : IntKind.i64.wrap ((k : Int) + 1) = (k : Int) + 1 := IntWalk.i64_in _ (by omega)
        have TT := T.keep ((Below.refl _ _).alloc (Nat.le_refl _) (.cells #[.int .u16 x0, .int .u16 x1, .int .u16 x2, .int .i64 x3, .int .u64 x4, .int .u64 x5] 53))
        have TX := cells_new wr [.int .u16 x0, .int .u16 x1, .int .u16 x2, .int .i64 x3, .int .u64 x4, .int .u64 x5] 53
        have T2 := TT.app TX
        have hBX := hB.alloc hB.size (.cells #[.int .u16 x0, .int .u16 x1, .int .u16 x2, .int .i64 x3, .int .u64 x4, .int .u64 x5] 53)
        have hOpen := T
        simp only [Cells, blk, List.cons_append, List.nil_append, and_true, Nat.reduceAdd, Nat.add_zero, Nat.zero_add] at hOpen
        obtain ⟨m0, m1, m2, m3, s0, s1, h0, h1⟩ := hOpen
        have HGD := Lib.hid hgd
        clear key q hcell hgd hx TT TX
        go_wp2
        generalize hX : wr.alloc (.cells _ 53) = X at T2 hBX ⊢
        clear hX c0 c1 c2 c3 c4 c5 m0 m1 m2 m3 s0 s1 h0 h1 T
        have hBX1 := hb0.trans (hBX.mono hb0.size)
        obtain ⟨y1, hy1⟩ : ∃ y, (x1 == 0) = y := ⟨_, rfl⟩
        obtain ⟨y2, hy2⟩ : ∃ y, (x2 == 0) = y := ⟨_, rfl⟩
        obtain ⟨y3, hy3⟩ : ∃ y, (x4 == ch) = y := ⟨_, rfl⟩
        obtain ⟨y4, hy4⟩ : ∃ y, (x5 == cl) = y := ⟨_, rfl⟩
        have huse : useB l sh sl ch cl (l.getD k default) = ((y1 && !y2) && (y3 && y4) && l.any (inB sh sl x0)) := by
          rw [HGD.out]
          unfold useB chB
          simp only [hy1, hy2, hy3, hy4]
        have HUSE := Lib.hid huse
        have out : (((y1 && !y2) && (y3 && y4)) = false ∨ l.any (inB sh sl x0) = false) → ∀ W, Below X.heap.size X W → ∃ k2 : Nat, Value.int .i64 ((k : Int) + 1) = .int .i64 k2 ∧ k2 ≤ n ∧ Hid (∀ j, j < k2 → useB l sh sl ch cl (l.getD j default) = false) ∧ Below W0.heap.size W0 W := fun h W hW => by
          refine ⟨k + 1, by simp, hlt, fun j hj => ?_, hBX.trans (hW.mono hBX.size)⟩
          by_cases c : j = k
          · rw [c, huse]
            rcases h with h | h
            · rw [h]; rfl
            · rw [h, Bool.and_false]
          · exact hno.out j (by omega)
        have OUT := Lib.hid out
        clear huse out
        go_loopw [10, 11] (fun i _ wr2 => ∃ k2 : Nat, i = .int .i64 k2 ∧ k2 ≤ n ∧ Hid (∀ j, j < k2 → inB sh sl x0 (l.getD j default) = false) ∧ Below X.heap.size X wr2) (fun i _ _ => n - (intOf i).toNat)
        case atStart => exact ⟨0, by simp, Nat.zero_le _, fun j h => by omega, Below.refl _ _⟩
        case round =>
          obtain ⟨k2, rfl, hk2, hno2, hB2⟩ := hrel
          have T3 := T2.keep hB2
          have hOpen := T3
          simp only [Cells, blk, List.cons_append, List.nil_append, and_true, Nat.reduceAdd, Nat.add_zero, Nat.zero_add] at hOpen
          obtain ⟨m0, m1, m2, m3, s0, s1, h0, h1, c0, c1, c2, c3, c4, c5⟩ := hOpen
          by_cases hl2 : k2 < n
          · have g2 : decide (k2 < n) = true := by simpa using hl2
            by_cases hyc : (y1 && !y2) = true
            · by_cases hyt : (y3 && y4) = true
              · obtain ⟨rfl, rfl⟩ : y3 = true ∧ y4 = true := by simpa using hyt
                have hk2l : k2 < l.length := by rw [HN.out]; exact hl2
                have hB2w := hBX1.trans (hB2.mono hBX1.size)
                have hgd2 := getD_lt hk2l
                have key2 := fun W (hW : Below w.heap.size w W) => KEY.out W hW k2 hk2l
                obtain ⟨⟨b0, b1, b2, b3, b4, b5⟩, hb'⟩ : ∃ x, l[k2] = x := ⟨_, rfl⟩
                rw [hb'] at hgd2
                simp only [hb'] at key2
                have KEY2 := Lib.hid key2
                have HGD2 := Lib.hid hgd2
                obtain ⟨z1, hz1⟩ : ∃ y, (b1 == 0) = y := ⟨_, rfl⟩
                obtain ⟨z2, hz2⟩ : ∃ y, (b4 == sh) = y := ⟨_, rfl⟩
                obtain ⟨z3, hz3⟩ : ∃ y, (b5 == sl) = y := ⟨_, rfl⟩
                obtain ⟨z4, hz4⟩ : ∃ y, decide (b0 < x0) = y := ⟨_, rfl⟩
                obtain ⟨z5, hz5⟩ : ∃ y, decide (x0 ≤ b1) = y := ⟨_, rfl⟩
                have hin : inB sh sl x0 (l.getD k2 default) = (!z1 && (z2 && z3) && z4 && z5) := by
                  rw [HGD2.out]
                  unfold inB
                  simp only [hz1, hz2, hz3, hz4, hz5]
                have hyc' := Lib.hid hyc
                have hcall := isChar_any x0 x1 x2 x3 x4 x5 wr
                rw [hy1, hy2, hyc] at hcall
                clear hyc
                have hcall2 := fun W => isService_any b0 b1 b2 b3 b4 b5 W
                simp only [hz1] at hcall2
                have HIN := Lib.hid hin
                have HCALL := Lib.hid hcall
                have HCALL2 := Lib.hid hcall2
                have HB2 := Lib.hid hB2
                have HB2W := Lib.hid hB2w
                have w2 : IntKind.i64.wrap ((k2 : Int) + 1) = (k2 : Int) + 1 := IntWalk.i64_in _ (by omega)
                have i2 : (k2 : Int) < (n : Int) := by omega
                have hT3 := Lib.hid T3
                clear hcall hcall2 hin hB2 hB2w key2 hgd2 hb' hyt T3 T2 m0 m1 m2 m3 s0 s1 h0 h1 c0 c1 c2 c3 c4 c5
                have hOpen := hT3.out
                simp only [Cells, blk, List.cons_append, List.nil_append, and_true, Nat.reduceAdd, Nat.add_zero, Nat.zero_add] at hOpen
                obtain ⟨m0, m1, m2, m3, s0, s1, h0, h1, c0, c1, c2, c3, c4, c5⟩ := hOpen
                go_wp2_with (go_at_call 43
                             refine HCALL.out.mono ?_
                             rintro e w5 ⟨rfl, hB5⟩
                             have T4 := hT3.out.keep hB5
                             have q := KEY2.out w5 (HB2W.out.trans (hB5.mono HB2W.out.size))
                             have d0 := q 0 (by decide)
                             have d1 := q 1 (by decide)
                             have d2 := q 2 (by decide)
                             have d3 := q 3 (by decide)
                             have d4 := q 4 (by decide)
                             have d5 := q 5 (by decide)
                             simp only [El.cells, elF, Nat.add_zero, List.getElem?_cons_zero, List.getElem?_cons_succ] at d0 d1 d2 d3 d4 d5
                             have HB5 := Lib.hid hB5
                             have HT4 := Lib.hid T4
                             clear m0 m1 m2 m3 s0 s1 h0 h1 c0 c1 c2 c3 c4 c5 q hB5
                             have hOpen := T4
                             simp only [Cells, blk, List.cons_append, List.nil_append, and_true, Nat.reduceAdd, Nat.add_zero, Nat.zero_add] at hOpen
                             obtain ⟨m0, m1, m2, m3, s0, s1, h0, h1, c0, c1, c2, c3, c4, c5⟩ := hOpen
                             clear T4)
                go_at_call 44
                refine (HCALL2.out _).mono ?_
                rintro e w6 ⟨rfl, hB6⟩
                have hal : Below w5.heap.size w5 (w5.alloc (.cells #[.int .u16 b0, .int .u16 b1, .int .u16 b2, .int .i64 b3, .int .u64 b4, .int .u64 b5] 53)) := (Below.refl _ _).alloc (Nat.le_refl _) _
                have T5 := ((HT4.out.keep hal).app (cells_new w5 [.int .u16 b0, .int .u16 b1, .int .u16 b2, .int .i64 b3, .int .u64 b4, .int .u64 b5] 53)).keep hB6
                have hB6x : Below X.heap.size X w6 := HB2.out.trans ((HB5.out.trans ((hal.trans (hB6.mono hal.size)).mono HB5.out.size)).mono HB2.out.size)
                have HB6 := Lib.hid hB6x
                clear m0 m1 m2 m3 s0 s1 h0 h1 c0 c1 c2 c3 c4 c5 d0 d1 d2 d3 d4 d5 hal hB6 hB6x
                have hOpen := T5
                simp only [Cells, blk, List.cons_append, List.nil_append, and_true, Nat.reduceAdd, Nat.add_zero, Nat.zero_add] at hOpen
                obtain ⟨m0, m1, m2, m3, s0, s1, h0, h1, c0, c1, c2, c3, c4, c5, d0, d1, d2, d3, d4, d5⟩ := hOpen
                clear T5
                cases z1
                · cases z2
                  · go_wp2
                    refine ⟨⟨k2 + 1, by simp, hl2, fun j hj => ?_, HB6.out⟩, ?_⟩
                    · by_cases c : j = k2
                      · rw [c, HIN.out]; rfl
                      · exact hno2.out j (by omega)
                    · simp [intOf]
                      omega
                  · cases z3
                    · go_wp2
                      refine ⟨⟨k2 + 1, by simp, hl2, fun j hj => ?_, HB6.out⟩, ?_⟩
                      · by_cases c : j = k2
                        · rw [c, HIN.out]; rfl
                        · exact hno2.out j (by omega)
                      · simp [intOf]
                        omega
                    · cases z4
                      · go_wp2
                        refine ⟨⟨k2 + 1, by simp, hl2, fun j hj => ?_, HB6.out⟩, ?_⟩
                        · by_cases c : j = k2
                          · rw [c, HIN.out]; rfl
                          · exact hno2.out j (by omega)
                        · simp [intOf]
                          omega
                      · cases z5
                        · go_wp2
                          refine ⟨⟨k2 + 1, by simp, hl2, fun j hj => ?_, HB6.out⟩, ?_⟩
                          · by_cases c : j = k2
                            · rw [c, HIN.out]; rfl
                            · exact hno2.out j (by omega)
                          · simp [intOf]
                            omega
                        · have hin : inB sh sl x0 (l.getD k2 default) = true := by rw [HIN.out]; rfl
                          have hany : l.any (inB sh sl x0) = true := List.any_eq_true.2 ⟨l.getD k2 default, by rw [getD_lt hk2l]; exact List.getElem_mem hk2l, hin⟩
                          have hu : useB l sh sl ch cl (l.getD k default) = true := by rw [HUSE.out, hany, hyc'.out]; rfl
                          have hfin : useL l sh sl ch cl = (x2, 0) := by
                            unfold useL
                            rw [find_first l k hkl hno.out hu, HGD.out]
                          have HFIN := Lib.hid hfin
                          clear hin hany hu hfin
                          go_wp2
                          rw [HFIN.out]
                          refine bodyPost_ret (v := .tuple #[.int .u16 x2, .int .i64 0]) (by simp [results, Try.results17, go_sem] <;> rfl) rfl ?_
                          exact ⟨rfl, hBX1.trans (HB6.out.mono hBX1.size)⟩
                · go_wp2
                  refine ⟨⟨k2 + 1, by simp, hl2, fun j hj => ?_, HB6.out⟩, ?_⟩
                  · by_cases c : j = k2
                    · rw [c, HIN.out]; rfl
                    · exact hno2.out j (by omega)
                  · simp [intOf]
                    omega
              · have hr : ((y1 && !y2) && (y3 && y4)) = false := by
                  have : (y3 && y4) = false := by simpa using hyt
                  rw [this, Bool.and_false]
                have HO := Lib.hid (OUT.out (.inl hr))
                have hcall := isChar_any x0 x1 x2 x3 x4 x5 wr
                rw [hy1, hy2, hyc] at hcall
                have HCALL := Lib.hid hcall
                have HB2 := Lib.hid hB2
                have HT3 := Lib.hid T3
                clear hcall hr hB2 T3 T2 m0 m1 m2 m3 s0 s1 h0 h1 c0 c1 c2 c3 c4 c5 hyc HUSE
                have hOpen := HT3.out
                simp only [Cells, blk, List.cons_append, List.nil_append, and_true, Nat.reduceAdd, Nat.add_zero, Nat.zero_add] at hOpen
                obtain ⟨m0, m1, m2, m3, s0, s1, h0, h1, c0, c1, c2, c3, c4, c5⟩ := hOpen
                cases y3 <;> cases y4
                all_goals first | exact absurd rfl hyt | skip
                all_goals
                  go_wp2_with (go_at_call 43
                               refine HCALL.out.mono ?_
                               rintro e w5 ⟨rfl, hB5⟩
                               have T4 := HT3.out.keep hB5
                               clear m0 m1 m2 m3 s0 s1 h0 h1 c0 c1 c2 c3 c4 c5
                               have hOpen := T4
                               simp only [Cells, blk, List.cons_append, List.nil_append, and_true, Nat.reduceAdd, Nat.add_zero, Nat.zero_add] at hOpen
                               obtain ⟨m0, m1, m2, m3, s0, s1, h0, h1, c0, c1, c2, c3, c4, c5⟩ := hOpen
                               clear T4)
                  refine ⟨HO.out _ (HB2.out.trans (hB5.mono HB2.out.size)), ?_⟩
                  simp [intOf]
                  omega
            · have hr : ((y1 && !y2) && (y3 && y4)) = false := by
                have : (y1 && !y2) = false := by simpa using hyc
                rw [this]; rfl
              have HO := Lib.hid (OUT.out (.inl hr))
              have hcall := isChar_any x0 x1 x2 x3 x4 x5 wr
              rw [hy1, hy2, show (y1 && !y2) = false by simpa using hyc] at hcall
              have HCALL := Lib.hid hcall
              have HB2 := Lib.hid hB2
              clear hcall hr hB2
              go_wp2_with (go_at_call 43; refine HCALL.out.mono ?_; rintro e w5 ⟨rfl, hB5⟩)
              refine ⟨HO.out _ (HB2.out.trans (hB5.mono HB2.out.size)), ?_⟩
              simp [intOf]
              omega
          · have e2 : k2 = n := by omega
            subst e2
            have g2 : decide (k2 < k2) = false := by simp
            have hany : l.any (inB sh sl x0) = false := by
              rw [List.any_eq_false]
              intro z hz
              obtain ⟨j, hj, rfl⟩ := List.getElem_of_mem hz
              have := hno2.out j (by have := HN.out; omega)
              rw [getD_lt hj] at this
              simp [this]
            have HO := Lib.hid (OUT.out (.inr hany))
            have HB2 := Lib.hid hB2
            clear hany hB2
            go_wp2
            refine ⟨HO.out _ HB2.out, ?_⟩
            simp [intOf]
            omega
      · have g1 : decide (k < n) = false := by simpa using hlt
        have hOpen := T
        simp only [Cells, blk, List.cons_append, List.nil_append, and_true, Nat.reduceAdd, Nat.add_zero, Nat.zero_add] at hOpen
        obtain ⟨m0, m1, m2, m3, s0, s1, h0, h1⟩ := hOpen
        have hfin : useL l sh sl ch cl = (0, 6) := by
          unfold useL
          rw [List.find?_eq_none.2 fun x hx => by
            obtain ⟨j, hj, rfl⟩ := List.getElem_of_mem hx
            have := hno.out j (by have := HN.out; omega)
            rw [getD_lt hj] at this
            simp [this]]
        go_wp2
        rw [hfin]
        refine bodyPost_ret (v := .tuple #[.int .u16 0, .int .i64 6]) (by simp [results, Try.results17, go_sem] <;> rfl) rfl ?_
        exact ⟨rfl, hB1⟩
  · have e : (va && !du) = false := by cases va <;> cases du <;> simp_all
    simp only [e, Bool.false_eq_true, if_false]
    clear e
    cases va
    · clear hok
      go_enter Try.func17, Try.ntmps17
      go_wp2
      refine bodyPost_ret (v := .tuple #[.int .u16 0, .int .i64 21]) (by simp [results, Try.results17, go_sem] <;> rfl) rfl ?_
      exact ⟨rfl, hb0⟩
    · obtain rfl : du = true := by
        cases du
        · exact absurd (And.intro rfl rfl) hok
        · rfl
      clear hok
      go_enter Try.func17, Try.ntmps17
      go_wp2
      refine bodyPost_ret (v := .tuple #[.int .u16 0, .int .i64 21]) (by simp [results, Try.results17, go_sem] <;> rfl) rfl ?_
      exact ⟨rfl, hb0⟩
end Go.Proofs.Yteblimdbkiiaaaa
