/- cache: the reference's Config. -/
import Derived.Test.YteblimdbkiiaaaaFdW
namespace Go.Proofs.Yteblimdbkiiaaaa
open Go.RowKit

/-- the configuration among the descriptors that follow -/
def cfgD : List Fd → Int × Int
  | [] => (0, 6)
  | d :: r => if (d.la == 0) && (d.va == 0) then (if d.hi == 45088566677504 && d.lo == 9223372588214596859 then (d.ha, 0) else cfgD r) else (0, 6)
/-- the configuration behind the first characteristic with a value -/
def cfgL (v : Int) : List Fd → Int × Int
  | [] => (0, 6)
  | y :: r => if chB y && y.va == v then cfgD r else cfgL v r
def cfgC (c : Ca) (v : Int) : Int × Int := if c.va && !c.du then cfgL v c.l else (0, 21)
theorem cfg_hit (v : Int) : ∀ (l : List Fd) (k : Nat), k < l.length → (∀ j, j < k → (chB (l.getD j default) && (l.getD j default).va == v) = false) → (chB (l.getD k default) && (l.getD k default).va == v) = true → cfgL v l = cfgD (l.drop (k + 1))
  | [], k, h, _, _ => by simp at h
  | x :: l, 0, _, _, h => by
    have h' : (chB x && x.va == v) = true := by simpa using h
    simp [cfgL, h']
  | x :: l, k+1, hk, hn, h => by
    have h0 : (chB x && x.va == v) = false := by simpa using hn 0 (by omega)
    have := cfg_hit v l k (by simpa using hk) (fun j hj => by simpa using hn (j + 1) (by omega)) (by simpa using h)
    rw [cfgL, h0, this]
    simp
theorem cfg_none (v : Int) : ∀ (l : List Fd), (∀ j, j < l.length → (chB (l.getD j default) && (l.getD j default).va == v) = false) → cfgL v l = (0, 6)
  | [], _ => rfl
  | x :: l, hn => by
    have h0 : (chB x && x.va == v) = false := by simpa using hn 0 (by simp)
    rw [cfgL, h0, cfg_none v l fun j hj => by simpa using hn (j + 1) (by simpa using hj)]
    simp
theorem cfgD_step (l : List Fd) (k : Nat) (h : k < l.length) : cfgD (l.drop k) = if ((l.getD k default).la == 0) && ((l.getD k default).va == 0) then (if (l.getD k default).hi == 45088566677504 && (l.getD k default).lo == 9223372588214596859 then ((l.getD k default).ha, 0) else cfgD (l.drop (k + 1))) else (0, 6) := by
  rw [getD_lt h, List.drop_eq_getElem_cons h, cfgD]
theorem cfgD_end (l : List Fd) : cfgD (l.drop l.length) = (0, 6) := by simp [cfgD]
set_option linter.unusedSimpArgs false in
set_option linter.unusedVariables false in
set_option maxRecDepth 100000 in
set_option maxHeartbeats 4000000 in
theorem rcfg_any (v : Value) (c : Ca) (va0 : Int) (w : World) (hc : CaV w v c) (hn : c.l.length ≤ 1000000) :
    Calls Try.prog 19 #[v, .int .u16 va0] w fun e w' => e = .returned (.tuple #[.int .u16 (cfgC c va0).1, .int .i64 (cfgC c va0).2]) ∧ Below w.heap.size w w' := by
  obtain ⟨va, ha, l, du⟩ := c
  obtain ⟨fv, rfl, hs⟩ := hc
  simp only at hs hn ⊢
  unfold cfgC
  simp only
  obtain ⟨n, hnn⟩ : ∃ n, l.length = n := ⟨_, rfl⟩
  have HN := Lib.hid hnn
  obtain ⟨_, _, _, ao, cap, rfl, _, hcell⟩ := hs
  have HC := Lib.hid hcell
  rw [hnn] at hn ⊢
  have hb0 : Below w.heap.size w (w.alloc (.cells #[.bool va, .int .u64 ha, .slice ao n cap, .bool du] 26)) := (Below.refl _ _).alloc (Nat.le_refl _) _
  clear hcell hnn
  by_cases hok : va = true ∧ du = false
  · obtain ⟨rfl, rfl⟩ := hok
    simp only [Bool.not_false, Bool.and_self, if_true]
    have T0 : Cells (w.alloc (.cells #[.bool true, .int .u64 ha, .slice ao n cap, .bool false] 26)) (blk w.heap.size 0 0 [.bool true, .int .u64 ha, .slice ao n cap, .bool false]) := cells_new w [.bool true, .int .u64 ha, .slice ao n cap, .bool false] 26
    go_enter Try.func19, Try.ntmps19
    have hOpen := T0
    simp only [Cells, blk, List.cons_append, List.nil_append, and_true, Nat.reduceAdd, Nat.add_zero, Nat.zero_add] at hOpen
    obtain ⟨m0, m1, m2, m3⟩ := hOpen
    go_wp2
    obtain ⟨W0, hW0⟩ : ∃ W0, w.alloc (.cells #[.bool true, .int .u64 ha, .slice ao n cap, .bool false] 26) = W0 := ⟨_, rfl⟩
    rw [hW0] at T0 hb0 ⊢
    clear hW0 m0 m1 m2 m3
    go_loopw [6, 7] (fun i _ wr => ∃ k : Nat, i = .int .i64 k ∧ k ≤ n ∧ Hid (∀ j, j < k → (chB (l.getD j default) && (l.getD j default).va == va0) = false) ∧ Below W0.heap.size W0 wr) (fun i _ _ => n - (intOf i).toNat)
    case atStart => exact ⟨0, by simp, Nat.zero_le _, fun j h => by omega, Below.refl _ _⟩
    case round =>
      obtain ⟨k, rfl, hk, hno, hB⟩ := hrel
      have hB1 := hb0.trans (hB.mono hb0.size)
      have T := T0.keep hB
      by_cases hlt : k < n
      · have hkl : k < l.length := by rw [HN.out]; exact hlt
        obtain ⟨b, off, rfl, hb, hcell⟩ := HC.out (by omega)
        have key : ∀ (W : World), Below w.heap.size w W → ∀ (t : Nat) (ht : t < l.length) j, j < 6 → W.cell? ⟨b, off + t * 6 + j, none⟩ = (elF l[t]).cells[j]? := fun W hW t ht j hj => by
          have e := fcells_get l t ht hj
          obtain ⟨u, hu⟩ : ∃ u, (elF l[t]).cells[j]? = some u := ⟨_, List.getElem?_eq_getElem (show j < (elF l[t]).cells.length from hj)⟩
          rw [hu] at e ⊢
          have := kc (hcell _ _ e) hW
          rwa [← Nat.add_assoc] at this
        have KEY := Lib.hid key
        have hgd := getD_lt hkl
        have q := key wr hB1 k hkl
        obtain ⟨⟨x0, x1, x2, x3, x4, x5⟩, hx⟩ : ∃ x, l[k] = x := ⟨_, rfl⟩
        rw [hx] at q hgd
        have c0 := q 0 (by decide)
        have c1 := q 1 (by decide)
        have c2 := q 2 (by decide)
        have c3 := q 3 (by decide)
        have c4 := q 4 (by decide)
        have c5 := q 5 (by decide)
        simp only [El.cells, elF, Nat.add_zero, List.getElem?_cons_zero, List.getElem?_cons_succ] at c0 c1 c2 c3 c4 c5
        have i1 : (k : Int) < (n : Int) := by omega
        have g1 : decide (k < n) = true := by simpa using hlt
        have w1 : IntKind.i64.wrap ((k : Int) + 1) = (k : Int) + 1 := IntWalk.i64_in _ (by omega)
        obtain ⟨y1, hy1⟩ : ∃ y, (x1 == 0) = y := ⟨_, rfl⟩
        obtain ⟨y2, hy2⟩ : ∃ y, (x2 == 0) = y := ⟨_, rfl⟩
        obtain ⟨y3, hy3⟩ : ∃ y, (x2 == va0) = y := ⟨_, rfl⟩
        have hy3' : (x2 != va0) = !y3 := by rw [← hy3]; rfl
        have hch : (chB (l.getD k default) && (l.getD k default).va == va0) = ((y1 && !y2) && y3) := by
          rw [hgd]
          unfold chB
          simp only [hy1, hy2, hy3]
        have HCH := Lib.hid hch
        have out : ((y1 && !y2) && y3) = false → ∀ W, Below wr.heap.size wr W → ∃ k2 : Nat, Value.int .i64 ((k : Int) + 1) = .int .i64 k2 ∧ k2 ≤ n ∧ Hid (∀ j, j < k2 → (chB (l.getD j default) && (l.getD j default).va == va0) = false) ∧ Below W0.heap.size W0 W := fun h W hW => by
          refine ⟨k + 1, by simp, hlt, fun j hj => ?_, hB.trans (hW.mono hB.size)⟩
          by_cases c : j = k
          · rw [c, hch, h]
          · exact hno.out j (by omega)
        have OUT := Lib.hid out
        have hcall := isChar_any x0 x1 x2 x3 x4 x5 wr
        rw [hy1, hy2] at hcall
        have HCALL := Lib.hid hcall
        have HKL := Lib.hid hkl
        have HX := Lib.hid hx
        have hOpen := T
        simp only [Cells, blk, List.cons_append, List.nil_append, and_true, Nat.reduceAdd, Nat.add_zero, Nat.zero_add] at hOpen
        obtain ⟨m0, m1, m2, m3⟩ := hOpen
        clear key q hcell hgd hx hch out hcall
        by_cases hyc : (y1 && !y2) = true
        · rw [hyc] at HCALL
          cases y3
          · have HO := Lib.hid (OUT.out (by rw [Bool.and_false]))
            have HT := Lib.hid T
            clear OUT T hyc
            go_wp2_with (go_at_call 43
                         refine HCALL.out.mono ?_
                         rintro e w5 ⟨rfl, hB5⟩
                         have T4 := HT.out.keep hB5
                         have q := KEY.out w5 (hB1.trans (hB5.mono hB1.size)) k HKL.out
                         rw [HX.out] at q
                         have d2 := q 2 (by decide)
                         simp only [El.cells, elF, Nat.add_zero, List.getElem?_cons_zero, List.getElem?_cons_succ] at d2
                         have HB5 := Lib.hid hB5
                         clear m0 m1 m2 m3 c0 c1 c2 c3 c4 c5 q hB5
                         have hOpen := T4
                         simp only [Cells, blk, List.cons_append, List.nil_append, and_true, Nat.reduceAdd, Nat.add_zero, Nat.zero_add] at hOpen
                         obtain ⟨m0, m1, m2, m3⟩ := hOpen
                         clear T4)
            refine ⟨HO.out _ HB5.out, ?_⟩
            simp [intOf]
            omega
          · have HT := Lib.hid T
            have hfin : cfgL va0 l = cfgD (l.drop (k + 1)) := cfg_hit va0 l k HKL.out (fun j hj => hno.out j hj) (by rw [HCH.out, hyc]; rfl)
            have HF := Lib.hid hfin
            clear OUT T hyc hfin
            go_wp2_with (go_at_call 43
                         refine HCALL.out.mono ?_
                         rintro e w5 ⟨rfl, hB5⟩
                         have T4 := HT.out.keep hB5
                         have q := KEY.out w5 (hB1.trans (hB5.mono hB1.size)) k HKL.out
                         rw [HX.out] at q
                         have d2 := q 2 (by decide)
                         simp only [El.cells, elF, Nat.add_zero, List.getElem?_cons_zero, List.getElem?_cons_succ] at d2
                         have hB5' := hB1.trans (hB5.mono hB1.size)
                         have HT4 := Lib.hid T4
                         clear m0 m1 m2 m3 c0 c1 c2 c3 c4 c5 q hB5
                         have hOpen := T4
                         simp only [Cells, blk, List.cons_append, List.nil_append, and_true, Nat.reduceAdd, Nat.add_zero, Nat.zero_add] at hOpen
                         obtain ⟨m0, m1, m2, m3⟩ := hOpen
                         clear T4)
            clear m0 m1 m2 m3 d2
            go_loopw [7] (fun i wr2 => ∃ k2 : Nat, i = .int .i64 k2 ∧ k2 ≤ n ∧ Hid (cfgD (l.drop (k + 1)) = cfgD (l.drop k2)) ∧ Below w5.heap.size w5 wr2) (fun i _ => n - (intOf i).toNat)
            case atStart => exact ⟨k + 1, by simp, hlt, rfl, Below.refl _ _⟩
            case round =>
              obtain ⟨k2, rfl, hk2, hcf, hB2⟩ := hrel
              have T5 := HT4.out.keep hB2
              have hB2w := hB5'.trans (hB2.mono hB5'.size)
              by_cases hl2 : k2 < n
              · have g2 : decide (k2 < n) = true := by simpa using hl2
                have hk2l : k2 < l.length := by rw [HN.out]; exact hl2
                have hgd2 := getD_lt hk2l
                have hst := cfgD_step l k2 hk2l
                have key2 := fun W (hW : Below w.heap.size w W) => KEY.out W hW k2 hk2l
                obtain ⟨⟨b0, b1, b2, b3, b4, b5⟩, hb'⟩ : ∃ x, l[k2] = x := ⟨_, rfl⟩
                rw [hb'] at hgd2
                simp only [hb'] at key2
                simp only [hgd2] at hst
                have q := key2 _ hB2w
                have d0 := q 0 (by decide)
                have d1 := q 1 (by decide)
                have d2 := q 2 (by decide)
                have d3 := q 3 (by decide)
                have d4 := q 4 (by decide)
                have d5 := q 5 (by decide)
                simp only [El.cells, elF, Nat.add_zero, List.getElem?_cons_zero, List.getElem?_cons_succ] at d0 d1 d2 d3 d4 d5
                have KEY2 := Lib.hid key2
                obtain ⟨z1, hz1⟩ : ∃ y, (b1 == 0) = y := ⟨_, rfl⟩
                obtain ⟨z2, hz2⟩ : ∃ y, (b2 == 0) = y := ⟨_, rfl⟩
                obtain ⟨z3, hz3⟩ : ∃ y, (b4 == 45088566677504) = y := ⟨_, rfl⟩
                obtain ⟨z4, hz4⟩ : ∃ y, (b5 == 9223372588214596859) = y := ⟨_, rfl⟩
                simp only [hz1, hz2, hz3, hz4] at hst
                have hcall2 := fun W => isDesc_any b0 b1 b2 b3 b4 b5 W
                simp only [hz1, hz2] at hcall2
                have HCALL2 := Lib.hid hcall2
                have HST := Lib.hid hst
                have w2 : IntKind.i64.wrap ((k2 : Int) + 1) = (k2 : Int) + 1 := IntWalk.i64_in _ (by omega)
                have i2 : (k2 : Int) < (n : Int) := by omega
                have hT5 := Lib.hid T5
                have hOpen := T5
                simp only [Cells, blk, List.cons_append, List.nil_append, and_true, Nat.reduceAdd, Nat.add_zero, Nat.zero_add] at hOpen
                obtain ⟨m0, m1, m2, m3⟩ := hOpen
                obtain ⟨z, hz⟩ : ∃ z, (z1 && z2) = z := ⟨_, rfl⟩
                have HZ := Lib.hid hz
                rw [hz] at HCALL2
                have HB2 := Lib.hid hB2
                have HB2W := Lib.hid hB2w
                clear hcall2 hst key2 hgd2 hb' q hz T5 hB2 hB2w
                cases z
                · go_wp2_with (go_at_call 46
                               refine (HCALL2.out _).mono ?_
                               rintro e w6 ⟨rfl, hB6⟩)
                  have he : cfgD (l.drop k2) = (0, 6) := by rw [HST.out, HZ.out]; simp
                  rw [HF.out, hcf.out, he]
                  refine bodyPost_ret (v := .tuple #[.int .u16 0, .int .i64 6]) (by simp [results, Try.results19, go_sem] <;> rfl) rfl ?_
                  exact ⟨rfl, HB2W.out.trans (hB6.mono HB2W.out.size)⟩
                · go_wp2_with (go_at_call 46
                               refine (HCALL2.out _).mono ?_
                               rintro e w6 ⟨rfl, hB6⟩
                               have T6 := hT5.out.keep hB6
                               have hB6w := HB2W.out.trans (hB6.mono HB2W.out.size)
                               have hB65 := HB2.out.trans (hB6.mono HB2.out.size)
                               clear m0 m1 m2 m3 d0 d1 d2 d3 d4 d5 hB6)
                  have q := KEY2.out _ hB6w
                  have d0 := q 0 (by decide)
                  have d1 := q 1 (by decide)
                  have d2 := q 2 (by decide)
                  have d3 := q 3 (by decide)
                  have d4 := q 4 (by decide)
                  have d5 := q 5 (by decide)
                  simp only [El.cells, elF, Nat.add_zero, List.getElem?_cons_zero, List.getElem?_cons_succ] at d0 d1 d2 d3 d4 d5
                  have T7 : Cells w6 (blk w.heap.size 0 0 [.bool true, .int .u64 ha, .slice (some ⟨b, off, none⟩) n cap, .bool false] ++ blk b (off + k2 * 6) 0 [.int .u16 b0, .int .u16 b1, .int .u16 b2, .int .i64 b3, .int .u64 b4, .int .u64 b5]) := T6.app ⟨d0, d1, d2, d3, d4, d5, trivial⟩
                  clear q d0 d1 d2 d3 d4 d5 T6
                  cases z3
                  · skip
                    refine wp_region_held_drew (S := (fun W' : World => Cells W' (blk w.heap.size 0 0 [.bool true, .int .u64 ha, .slice (some ⟨b, off, none⟩) n cap, .bool false] ++ blk b (off + k2 * 6) 0 [.int .u16 b0, .int .u16 b1, .int .u16 b2, .int .i64 b3, .int .u64 b4, .int .u64 b5]))) (by kernel_rfl) (T7) (fun hHeld => ?_)
                    refine wpAnyH_take (i := 0) (oi := _) (v := ?_) (by rw [List.getElem?_toArray]; rfl) (by kernel_rfl) (by kernel_rfl) (by kernel_rfl) (by exact fun _ _ _ h => h) (Or.inl ⟨by rfl, ?_⟩) (by assumption) ?_
                    rotate_left
                    · intro w hSw
                      try simp only [Cells, blk, List.cons_append, List.nil_append, and_true, Nat.reduceAdd, Nat.add_zero, Nat.zero_add] at hSw
                      go_simp
                      try with_reducible rfl
                    simp only [Act.put, List.setIfInBounds_toArray, List.set_cons_zero, List.set_cons_succ]
                    refine wpAnyH_take (i := 1) (oi := _) (v := ?_) (by rw [List.getElem?_toArray]; rfl) (by kernel_rfl) (by kernel_rfl) (by kernel_rfl) (by exact fun _ _ _ h => h) (Or.inl ⟨by rfl, ?_⟩) (by assumption) ?_
                    rotate_left
                    · intro w hSw
                      try simp only [Cells, blk, List.cons_append, List.nil_append, and_true, Nat.reduceAdd, Nat.add_zero, Nat.zero_add] at hSw
                      go_simp
                      try with_reducible rfl
                    simp only [Act.put, List.setIfInBounds_toArray, List.set_cons_zero, List.set_cons_succ]
                    refine wpAnyH_take (i := 2) (oi := _) (v := ?_) (by rw [List.getElem?_toArray]; rfl) (by kernel_rfl) (by kernel_rfl) (by kernel_rfl) (by exact fun _ _ _ h => h) (Or.inl ⟨by rfl, ?_⟩) (by assumption) ?_
                    rotate_left
                    · intro w hSw
                      try simp only [Cells, blk, List.cons_append, List.nil_append, and_true, Nat.reduceAdd, Nat.add_zero, Nat.zero_add] at hSw
                      go_simp
                      try with_reducible rfl
                    simp only [Act.put, List.setIfInBounds_toArray, List.set_cons_zero, List.set_cons_succ]
                    refine wpAnyH_take (i := 3) (oi := _) (v := ?_) (by rw [List.getElem?_toArray]; rfl) (by kernel_rfl) (by kernel_rfl) (by kernel_rfl) (by exact fun _ _ _ h => h) (Or.inl ⟨by rfl, ?_⟩) (by assumption) ?_
                    rotate_left
                    · intro w hSw
                      try simp only [Cells, blk, List.cons_append, List.nil_append, and_true, Nat.reduceAdd, Nat.add_zero, Nat.zero_add] at hSw
                      go_simp
                      try with_reducible rfl
                    simp only [Act.put, List.setIfInBounds_toArray, List.set_cons_zero, List.set_cons_succ]
                    refine wpAnyH_take (i := 4) (oi := _) (v := ?_) (by rw [List.getElem?_toArray]; rfl) (by kernel_rfl) (by kernel_rfl) (by kernel_rfl) (by exact fun _ _ _ h => h) (Or.inl ⟨by rfl, ?_⟩) (by assumption) ?_
                    rotate_left
                    · intro w hSw
                      try simp only [Cells, blk, List.cons_append, List.nil_append, and_true, Nat.reduceAdd, Nat.add_zero, Nat.zero_add] at hSw
                      go_simp
                      try with_reducible rfl
                    simp only [Act.put, List.setIfInBounds_toArray, List.set_cons_zero, List.set_cons_succ]
                    refine wpAnyH_take (i := 5) (oi := _) (v := ?_) (by rw [List.getElem?_toArray]; rfl) (by kernel_rfl) (by kernel_rfl) (by kernel_rfl) (by exact fun _ _ _ h => h) (Or.inl ⟨by rfl, ?_⟩) (by assumption) ?_
                    rotate_left
                    · intro w hSw
                      try simp only [Cells, blk, List.cons_append, List.nil_append, and_true, Nat.reduceAdd, Nat.add_zero, Nat.zero_add] at hSw
                      go_simp
                      try with_reducible rfl
                    simp only [Act.put, List.setIfInBounds_toArray, List.set_cons_zero, List.set_cons_succ]
                    refine wpAnyH_ready (rs := [6]) (by kernel_rfl) (by simp) (AllReadyH.cons (o := _) (by rw [List.getElem?_toArray]; rfl) (fun K hK => ?_) AllReadyH.nil)
                    go_simp
                    go_at_call 26
                    refine (rshort_c _).mono ?_
                    rintro e w7 ⟨rfl, hB7⟩
                    have T8 := Cells.keep (W := w6.drew) T7.drew hB7
                    have hB7w := hB6w.drew.trans (hB7.mono hB6w.drew.size)
                    have hB75 := hB65.drew.trans (hB7.mono hB65.drew.size)
                    clear hHeld
                    refine hK.out _ _ (T8) (fun hHeld => ?_)
                    clear hK K
                    try simp only [Act.put, List.setIfInBounds_toArray, List.set_cons_zero, List.set_cons_succ]
                    refine wpAnyH_take (i := 7) (oi := _) (v := ?_) (by rw [List.getElem?_toArray]; rfl) (by kernel_rfl) (by kernel_rfl) (by kernel_rfl) (by exact fun _ _ _ h => h) (Or.inl ⟨by rfl, ?_⟩) (by assumption) ?_
                    rotate_left
                    · intro w hSw
                      try simp only [Cells, blk, List.cons_append, List.nil_append, and_true, Nat.reduceAdd, Nat.add_zero, Nat.zero_add] at hSw
                      go_simp
                      try with_reducible rfl
                    simp only [Act.put, List.setIfInBounds_toArray, List.set_cons_zero, List.set_cons_succ]
                    refine wpAnyH_done (by kernel_rfl) ?_ _
                    go_wp2
                    refine ⟨⟨k2 + 1, by simp, hl2, ?_, hB75⟩, ?_⟩
                    · exact Lib.hid (by rw [hcf.out, HST.out, HZ.out]; simp)
                    · simp [intOf]
                      omega
                  · cases z4
                    · skip
                      refine wp_region_held_drew (S := (fun W' : World => Cells W' (blk w.heap.size 0 0 [.bool true, .int .u64 ha, .slice (some ⟨b, off, none⟩) n cap, .bool false] ++ blk b (off + k2 * 6) 0 [.int .u16 b0, .int .u16 b1, .int .u16 b2, .int .i64 b3, .int .u64 b4, .int .u64 b5]))) (by kernel_rfl) (T7) (fun hHeld => ?_)
                      refine wpAnyH_take (i := 0) (oi := _) (v := ?_) (by rw [List.getElem?_toArray]; rfl) (by kernel_rfl) (by kernel_rfl) (by kernel_rfl) (by exact fun _ _ _ h => h) (Or.inl ⟨by rfl, ?_⟩) (by assumption) ?_
                      rotate_left
                      · intro w hSw
                        try simp only [Cells, blk, List.cons_append, List.nil_append, and_true, Nat.reduceAdd, Nat.add_zero, Nat.zero_add] at hSw
                        go_simp
                        try with_reducible rfl
                      simp only [Act.put, List.setIfInBounds_toArray, List.set_cons_zero, List.set_cons_succ]
                      refine wpAnyH_take (i := 1) (oi := _) (v := ?_) (by rw [List.getElem?_toArray]; rfl) (by kernel_rfl) (by kernel_rfl) (by kernel_rfl) (by exact fun _ _ _ h => h) (Or.inl ⟨by rfl, ?_⟩) (by assumption) ?_
                      rotate_left
                      · intro w hSw
                        try simp only [Cells, blk, List.cons_append, List.nil_append, and_true, Nat.reduceAdd, Nat.add_zero, Nat.zero_add] at hSw
                        go_simp
                        try with_reducible rfl
                      simp only [Act.put, List.setIfInBounds_toArray, List.set_cons_zero, List.set_cons_succ]
                      refine wpAnyH_take (i := 2) (oi := _) (v := ?_) (by rw [List.getElem?_toArray]; rfl) (by kernel_rfl) (by kernel_rfl) (by kernel_rfl) (by exact fun _ _ _ h => h) (Or.inl ⟨by rfl, ?_⟩) (by assumption) ?_
                      rotate_left
                      · intro w hSw
                        try simp only [Cells, blk, List.cons_append, List.nil_append, and_true, Nat.reduceAdd, Nat.add_zero, Nat.zero_add] at hSw
                        go_simp
                        try with_reducible rfl
                      simp only [Act.put, List.setIfInBounds_toArray, List.set_cons_zero, List.set_cons_succ]
                      refine wpAnyH_take (i := 3) (oi := _) (v := ?_) (by rw [List.getElem?_toArray]; rfl) (by kernel_rfl) (by kernel_rfl) (by kernel_rfl) (by exact fun _ _ _ h => h) (Or.inl ⟨by rfl, ?_⟩) (by assumption) ?_
                      rotate_left
                      · intro w hSw
                        try simp only [Cells, blk, List.cons_append, List.nil_append, and_true, Nat.reduceAdd, Nat.add_zero, Nat.zero_add] at hSw
                        go_simp
                        try with_reducible rfl
                      simp only [Act.put, List.setIfInBounds_toArray, List.set_cons_zero, List.set_cons_succ]
                      refine wpAnyH_take (i := 4) (oi := _) (v := ?_) (by rw [List.getElem?_toArray]; rfl) (by kernel_rfl) (by kernel_rfl) (by kernel_rfl) (by exact fun _ _ _ h => h) (Or.inl ⟨by rfl, ?_⟩) (by assumption) ?_
                      rotate_left
                      · intro w hSw
                        try simp only [Cells, blk, List.cons_append, List.nil_append, and_true, Nat.reduceAdd, Nat.add_zero, Nat.zero_add] at hSw
                        go_simp
                        try with_reducible rfl
                      simp only [Act.put, List.setIfInBounds_toArray, List.set_cons_zero, List.set_cons_succ]
                      refine wpAnyH_take (i := 5) (oi := _) (v := ?_) (by rw [List.getElem?_toArray]; rfl) (by kernel_rfl) (by kernel_rfl) (by kernel_rfl) (by exact fun _ _ _ h => h) (Or.inl ⟨by rfl, ?_⟩) (by assumption) ?_
                      rotate_left
                      · intro w hSw
                        try simp only [Cells, blk, List.cons_append, List.nil_append, and_true, Nat.reduceAdd, Nat.add_zero, Nat.zero_add] at hSw
                        go_simp
                        try with_reducible rfl
                      simp only [Act.put, List.setIfInBounds_toArray, List.set_cons_zero, List.set_cons_succ]
                      refine wpAnyH_ready (rs := [6]) (by kernel_rfl) (by simp) (AllReadyH.cons (o := _) (by rw [List.getElem?_toArray]; rfl) (fun K hK => ?_) AllReadyH.nil)
                      go_simp
                      go_at_call 26
                      refine (rshort_c _).mono ?_
                      rintro e w7 ⟨rfl, hB7⟩
                      have T8 := Cells.keep (W := w6.drew) T7.drew hB7
                      have hB7w := hB6w.drew.trans (hB7.mono hB6w.drew.size)
                      have hB75 := hB65.drew.trans (hB7.mono hB65.drew.size)
                      clear hHeld
                      refine hK.out _ _ (T8) (fun hHeld => ?_)
                      clear hK K
                      try simp only [Act.put, List.setIfInBounds_toArray, List.set_cons_zero, List.set_cons_succ]
                      refine wpAnyH_take (i := 7) (oi := _) (v := ?_) (by rw [List.getElem?_toArray]; rfl) (by kernel_rfl) (by kernel_rfl) (by kernel_rfl) (by exact fun _ _ _ h => h) (Or.inl ⟨by rfl, ?_⟩) (by assumption) ?_
                      rotate_left
                      · intro w hSw
                        try simp only [Cells, blk, List.cons_append, List.nil_append, and_true, Nat.reduceAdd, Nat.add_zero, Nat.zero_add] at hSw
                        go_simp
                        try with_reducible rfl
                      simp only [Act.put, List.setIfInBounds_toArray, List.set_cons_zero, List.set_cons_succ]
                      refine wpAnyH_done (by kernel_rfl) ?_ _
                      go_wp2
                      refine ⟨⟨k2 + 1, by simp, hl2, ?_, hB75⟩, ?_⟩
                      · exact Lib.hid (by rw [hcf.out, HST.out, HZ.out]; simp)
                      · simp [intOf]
                        omega
                    · skip
                      refine wp_region_held_drew (S := (fun W' : World => Cells W' (blk w.heap.size 0 0 [.bool true, .int .u64 ha, .slice (some ⟨b, off, none⟩) n cap, .bool false] ++ blk b (off + k2 * 6) 0 [.int .u16 b0, .int .u16 b1, .int .u16 b2, .int .i64 b3, .int .u64 b4, .int .u64 b5]))) (by kernel_rfl) (T7) (fun hHeld => ?_)
                      refine wpAnyH_take (i := 0) (oi := _) (v := ?_) (by rw [List.getElem?_toArray]; rfl) (by kernel_rfl) (by kernel_rfl) (by kernel_rfl) (by exact fun _ _ _ h => h) (Or.inl ⟨by rfl, ?_⟩) (by assumption) ?_
                      rotate_left
                      · intro w hSw
                        try simp only [Cells, blk, List.cons_append, List.nil_append, and_true, Nat.reduceAdd, Nat.add_zero, Nat.zero_add] at hSw
                        go_simp
                        try with_reducible rfl
                      simp only [Act.put, List.setIfInBounds_toArray, List.set_cons_zero, List.set_cons_succ]
                      refine wpAnyH_take (i := 1) (oi := _) (v := ?_) (by rw [List.getElem?_toArray]; rfl) (by kernel_rfl) (by kernel_rfl) (by kernel_rfl) (by exact fun _ _ _ h => h) (Or.inl ⟨by rfl, ?_⟩) (by assumption) ?_
                      rotate_left
                      · intro w hSw
                        try simp only [Cells, blk, List.cons_append, List.nil_append, and_true, Nat.reduceAdd, Nat.add_zero, Nat.zero_add] at hSw
                        go_simp
                        try with_reducible rfl
                      simp only [Act.put, List.setIfInBounds_toArray, List.set_cons_zero, List.set_cons_succ]
                      refine wpAnyH_take (i := 2) (oi := _) (v := ?_) (by rw [List.getElem?_toArray]; rfl) (by kernel_rfl) (by kernel_rfl) (by kernel_rfl) (by exact fun _ _ _ h => h) (Or.inl ⟨by rfl, ?_⟩) (by assumption) ?_
                      rotate_left
                      · intro w hSw
                        try simp only [Cells, blk, List.cons_append, List.nil_append, and_true, Nat.reduceAdd, Nat.add_zero, Nat.zero_add] at hSw
                        go_simp
                        try with_reducible rfl
                      simp only [Act.put, List.setIfInBounds_toArray, List.set_cons_zero, List.set_cons_succ]
                      refine wpAnyH_take (i := 3) (oi := _) (v := ?_) (by rw [List.getElem?_toArray]; rfl) (by kernel_rfl) (by kernel_rfl) (by kernel_rfl) (by exact fun _ _ _ h => h) (Or.inl ⟨by rfl, ?_⟩) (by assumption) ?_
                      rotate_left
                      · intro w hSw
                        try simp only [Cells, blk, List.cons_append, List.nil_append, and_true, Nat.reduceAdd, Nat.add_zero, Nat.zero_add] at hSw
                        go_simp
                        try with_reducible rfl
                      simp only [Act.put, List.setIfInBounds_toArray, List.set_cons_zero, List.set_cons_succ]
                      refine wpAnyH_take (i := 4) (oi := _) (v := ?_) (by rw [List.getElem?_toArray]; rfl) (by kernel_rfl) (by kernel_rfl) (by kernel_rfl) (by exact fun _ _ _ h => h) (Or.inl ⟨by rfl, ?_⟩) (by assumption) ?_
                      rotate_left
                      · intro w hSw
                        try simp only [Cells, blk, List.cons_append, List.nil_append, and_true, Nat.reduceAdd, Nat.add_zero, Nat.zero_add] at hSw
                        go_simp
                        try with_reducible rfl
                      simp only [Act.put, List.setIfInBounds_toArray, List.set_cons_zero, List.set_cons_succ]
                      refine wpAnyH_take (i := 5) (oi := _) (v := ?_) (by rw [List.getElem?_toArray]; rfl) (by kernel_rfl) (by kernel_rfl) (by kernel_rfl) (by exact fun _ _ _ h => h) (Or.inl ⟨by rfl, ?_⟩) (by assumption) ?_
                      rotate_left
                      · intro w hSw
                        try simp only [Cells, blk, List.cons_append, List.nil_append, and_true, Nat.reduceAdd, Nat.add_zero, Nat.zero_add] at hSw
                        go_simp
                        try with_reducible rfl
                      simp only [Act.put, List.setIfInBounds_toArray, List.set_cons_zero, List.set_cons_succ]
                      refine wpAnyH_ready (rs := [6]) (by kernel_rfl) (by simp) (AllReadyH.cons (o := _) (by rw [List.getElem?_toArray]; rfl) (fun K hK => ?_) AllReadyH.nil)
                      go_simp
                      go_at_call 26
                      refine (rshort_c _).mono ?_
                      rintro e w7 ⟨rfl, hB7⟩
                      have T8 := Cells.keep (W := w6.drew) T7.drew hB7
                      have hB7w := hB6w.drew.trans (hB7.mono hB6w.drew.size)
                      have hB75 := hB65.drew.trans (hB7.mono hB65.drew.size)
                      clear hHeld
                      refine hK.out _ _ (T8) (fun hHeld => ?_)
                      clear hK K
                      try simp only [Act.put, List.setIfInBounds_toArray, List.set_cons_zero, List.set_cons_succ]
                      refine wpAnyH_take (i := 7) (oi := _) (v := ?_) (by rw [List.getElem?_toArray]; rfl) (by kernel_rfl) (by kernel_rfl) (by kernel_rfl) (by exact fun _ _ _ h => h) (Or.inl ⟨by rfl, ?_⟩) (by assumption) ?_
                      rotate_left
                      · intro w hSw
                        try simp only [Cells, blk, List.cons_append, List.nil_append, and_true, Nat.reduceAdd, Nat.add_zero, Nat.zero_add] at hSw
                        go_simp
                        try with_reducible rfl
                      simp only [Act.put, List.setIfInBounds_toArray, List.set_cons_zero, List.set_cons_succ]
                      refine wpAnyH_done (by kernel_rfl) ?_ _
                      have T9 := T8
                      have hOpen := T9
                      simp only [Cells, blk, List.cons_append, List.nil_append, and_true, Nat.reduceAdd, Nat.add_zero, Nat.zero_add] at hOpen
                      obtain ⟨m0, m1, m2, m3, d0, d1, d2, d3, d4, d5⟩ := hOpen
                      have he : cfgD (l.drop k2) = (b0, 0) := by rw [HST.out, HZ.out]; simp
                      have HE := Lib.hid he
                      clear he T9 T8
                      go_wp2
                      rw [HF.out, hcf.out, HE.out]
                      refine bodyPost_ret (v := .tuple #[.int .u16 b0, .int .i64 0]) (by simp [results, Try.results19, go_sem] <;> rfl) rfl ?_
                      exact ⟨rfl, hB7w⟩
              · have e2 : k2 = n := by omega
                subst e2
                have g2 : decide (k2 < k2) = false := by simp
                have hOpen := T5
                simp only [Cells, blk, List.cons_append, List.nil_append, and_true, Nat.reduceAdd, Nat.add_zero, Nat.zero_add] at hOpen
                obtain ⟨m0, m1, m2, m3⟩ := hOpen
                have he : cfgD (l.drop k2) = (0, 6) := by have := cfgD_end l; rwa [HN.out] at this
                have HE := Lib.hid he
                have HB2W := Lib.hid hB2w
                clear he T5 hB2 hB2w
                go_wp2
                rw [HF.out, hcf.out, HE.out]
                refine bodyPost_ret (v := .tuple #[.int .u16 0, .int .i64 6]) (by simp [results, Try.results19, go_sem] <;> rfl) rfl ?_
                exact ⟨rfl, HB2W.out⟩
        · have hyc' : (y1 && !y2) = false := by simpa using hyc
          rw [hyc'] at HCALL
          have HO := Lib.hid (OUT.out (by rw [hyc']; rfl))
          clear OUT hyc hyc'
          go_wp2_with (go_at_call 43
                       refine HCALL.out.mono ?_
                       rintro e w5 ⟨rfl, hB5⟩
                       have HB5 := Lib.hid hB5
                       clear hB5)
          refine ⟨HO.out _ HB5.out, ?_⟩
          simp [intOf]
          omega
      · have g1 : decide (k < n) = false := by simpa using hlt
        have hOpen := T
        simp only [Cells, blk, List.cons_append, List.nil_append, and_true, Nat.reduceAdd, Nat.add_zero, Nat.zero_add] at hOpen
        obtain ⟨m0, m1, m2, m3⟩ := hOpen
        have hfin : cfgL va0 l = (0, 6) := cfg_none va0 l fun j hj => hno.out j (by have := HN.out; omega)
        have HF := Lib.hid hfin
        clear hfin
        go_wp2
        rw [HF.out]
        refine bodyPost_ret (v := .tuple #[.int .u16 0, .int .i64 6]) (by simp [results, Try.results19, go_sem] <;> rfl) rfl ?_
        exact ⟨rfl, hB1⟩
  · have e : (va && !du) = false := by cases va <;> cases du <;> simp_all
    simp only [e, Bool.false_eq_true, if_false]
    clear e
    cases va
    · clear hok
      go_enter Try.func19, Try.ntmps19
      go_wp2
      refine bodyPost_ret (v := .tuple #[.int .u16 0, .int .i64 21]) (by simp [results, Try.results19, go_sem] <;> rfl) rfl ?_
      exact ⟨rfl, hb0⟩
    · obtain rfl : du = true := by
        cases du
        · exact absurd (And.intro rfl rfl) hok
        · rfl
      clear hok
      go_enter Try.func19, Try.ntmps19
      go_wp2
      refine bodyPost_ret (v := .tuple #[.int .u16 0, .int .i64 21]) (by simp [results, Try.results19, go_sem] <;> rfl) rfl ?_
      exact ⟨rfl, hb0⟩
end Go.Proofs.Yteblimdbkiiaaaa
