/- cache: CompactFunc. -/
import Derived.Test.YteblimdbkiiaaaaFdB
namespace Go.Proofs.Yteblimdbkiiaaaa
open Go.RowKit

/-- what is kept of a list: the first of each run with one handle -/
def keepB (l : List Fd) (t : Nat) : Bool := decide (t = 0) || !((l.getD t default).ha == (l.getD (t - 1) default).ha)
def cmpct (l : List Fd) : List Fd := pick l ((List.range l.length).filter (keepB l))
theorem pick_all (l : List Fd) : pick l (List.range l.length) = l := by
  refine List.ext_getElem (by simp [pick]) fun k h1 h2 => ?_
  simp only [pick, List.getElem_map, List.getElem_range]
  exact getD_lt h2
theorem cmpct_self {l : List Fd} (h : ∀ t, t < l.length → keepB l t = true) : cmpct l = l := by
  unfold cmpct
  rw [List.filter_eq_self.2 fun t ht => h t (List.mem_range.1 ht)]
  exact pick_all l

set_option linter.unusedSimpArgs false in
set_option linter.unusedVariables false in
set_option maxRecDepth 100000 in
set_option maxHeartbeats 4000000 in
theorem compact_fd (B : Nat) (v : Value) (l : List Fd) (w : World) (h : FO B w v l) (hB : B ≤ w.heap.size) (hn : l.length ≤ 1099511627776) :
    Calls Try.prog 35 #[v, .func (.func 36) #[] #[]] w
      fun e w' => ∃ v', e = .returned v' ∧ FO B w' v' (cmpct l) ∧ Below B w w' := by
  have hfo := Lib.hid h
  by_cases hsm : l.length < 2
  · have e : cmpct l = l := cmpct_self fun t ht => by
      have : t = 0 := by omega
      subst this
      rfl
    rw [e]
    obtain ⟨ao, cap, rfl⟩ := h.sr.val
    obtain ⟨n, hnn⟩ : ∃ n, l.length = n := ⟨_, rfl⟩
    rw [hnn] at hfo hsm ⊢
    have g1 : decide (n < 2) = true := by simpa using hsm
    have g2 : decide ((n : Int) < 2) = true := by simp; omega
    clear h e hnn
    go_enter Try.func35, Try.ntmps35
    go_wp2
    go_ret
    exact ⟨_, rfl, hfo.out, Below.refl _ _⟩
  · rcases h with ⟨_, rfl⟩ | ⟨g, cap, rfl, hg, hlc, hcm, hrow⟩
    · simp at hsm
    obtain ⟨n, hnn⟩ : ∃ n, l.length = n := ⟨_, rfl⟩
    have HN := Lib.hid hnn
    obtain ⟨E, hE⟩ : ∃ E : Nat → El, E = fun k => elF (l.getD k default) := ⟨_, rfl⟩
    have hone : ∀ x, (E x).one := fun x => by rw [hE]; exact elF_one _
    have call : ∀ x y W, Calls Try.prog 36 #[.agg #[(E x).c0, (E x).c1, (E x).c2, (E x).c3, (E x).c4, (E x).c5], .agg #[(E y).c0, (E y).c1, (E y).c2, (E y).c3, (E y).c4, (E y).c5]] W fun e w' => e = .returned (.bool ((l.getD x default).ha == (l.getD y default).ha)) ∧ Below W.heap.size W w' := fun x y W => by
      rw [hE]
      exact learn3_any _ _ _ _ _ _ _ _ _ _ _ _ W
    have hrow4 : Row6 53 w g 0 E (fun k => k) n := by rw [hE, ← hnn]; exact hrow
    have fin : ∀ W' (p : Nat → Nat) (i : Nat), ((List.range n).filter (keepB l)).length = i → (∀ t (ht : t < ((List.range n).filter (keepB l)).length), p t = ((List.range n).filter (keepB l))[t]) → Row6 53 W' g 0 E p i → FO B W' (.slice (some ⟨g, 0, none⟩) i cap) (cmpct l) := fun W' p i hi hp hr => by
      have hpk : cmpct l = pick l ((List.range n).filter (keepB l)) := by unfold cmpct; rw [HN.out]
      have hlen : (cmpct l).length = i := by rw [hpk, ← hi]; simp [pick]
      have hle := filter_range_le (keepB l) n
      refine .inr ⟨g, cap, by rw [hlen], hg, by omega, hcm, ?_⟩
      rw [hpk]
      refine rowL_pick (p := p) ?_ hp
      rw [hE] at hr
      rw [hi]
      exact hr
    have fin2 : ∀ W', (∀ t, t < n → keepB l t = true) → Row6 53 W' g 0 E (fun k => k) n → FO B W' (.slice (some ⟨g, 0, none⟩) n cap) (cmpct l) := fun W' hk hr => by
      rw [cmpct_self fun t ht => hk t (by omega)]
      refine .inr ⟨g, cap, by rw [HN.out], hg, hlc, hcm, ?_⟩
      rw [hE, ← HN.out] at hr
      exact hr
    have CALL := Lib.hid call
    have HONE := Lib.hid hone
    have FIN := Lib.hid fin
    have FIN2 := Lib.hid fin2
    have HR4 := Lib.hid hrow4
    have hgl := hrow.lt
    rw [hnn] at hn hlc hsm ⊢
    have g1 : decide (n < 2) = false := by simpa using hsm
    have g2 : decide ((n : Int) < 2) = false := by simp; omega
    clear hE hone call fin fin2 hrow4 hrow hfo hnn
    go_enter Try.func35, Try.ntmps35
    go_wp2
    go_loopw [5] (fun vk wr => ∃ k : Nat, vk = .int .i64 k ∧ 1 ≤ k ∧ k ≤ n ∧ Hid (∀ t, t < k → keepB l t = true) ∧ Row6 53 wr g 0 E (fun k => k) n ∧ Below B w wr) (fun vk _ => n - (intOf vk).toNat)
    case atStart => exact ⟨1, by simp, Nat.le_refl _, by omega, fun t ht => by rw [show t = 0 by omega]; rfl, HR4.out, Below.refl _ _⟩
    case round =>
      clear HR4
      obtain ⟨k, rfl, hk1, hk, hkeep, hrk, hBk⟩ := hrel
      by_cases hlt : k < n
      · have gl : decide (k < n) = true := by simpa using hlt
        obtain ⟨k1, hkk⟩ : ∃ k1, k = k1 + 1 := ⟨k - 1, by omega⟩
        have hk1n : k1 < n := by omega
        have w1 : IntKind.i64.wrap ((k : Int) - 1) = (k1 : Int) := by rw [IntWalk.i64_in _ (by omega)]; omega
        have w2 : IntKind.i64.wrap ((k : Int) + 1) = (k : Int) + 1 := IntWalk.i64_in _ (by omega)
        have i1 : (k : Int) < (n : Int) := by omega
        have i2 : (k1 : Int) < (n : Int) := by omega
        have T := (hrk.cells hlt).app (hrk.cells hk1n)
        simp only [Nat.zero_add] at T
        obtain ⟨cb, hcb⟩ : ∃ c, ((l.getD k default).ha == (l.getD k1 default).ha) = c := ⟨_, rfl⟩
        have call1 := CALL.out k k1
        rw [hcb] at call1
        have hkb : keepB l k = !cb := by
          unfold keepB
          rw [show k - 1 = k1 by omega, hcb, decide_eq_false (by omega)]
          simp
        have hBg : B ≤ wr.heap.size := Nat.le_trans hB hBk.size
        have st : ∀ w4, Below wr.drew.heap.size wr.drew w4 → Row6 53 w4 g 0 E (fun k => k) n ∧ Below B w w4 := fun w4 h4 => ⟨hrk.drew.below h4, hBk.trans (((Below.refl _ _).drew).trans (h4.mono hBg))⟩
        have CALL1 := Lib.hid call1
        have HKB := Lib.hid hkb
        have ST := Lib.hid st
        have HKK := Lib.hid hkk
        clear hcb call1 hkb st hrk hBk hkk
        cases cb
        · go_wp2_with fail
          refine wp_region_held_drew (S := (fun W' : World => Cells W' (blk g (k * 6) 0 [(E (k)).c0, (E (k)).c1, (E (k)).c2, (E (k)).c3, (E (k)).c4, (E (k)).c5] ++ blk g (k1 * 6) 0 [(E (k1)).c0, (E (k1)).c1, (E (k1)).c2, (E (k1)).c3, (E (k1)).c4, (E (k1)).c5]))) (by kernel_rfl) (T.drew) (fun hHeld => ?_)
          refine wpAnyH_take (i := 0) (oi := _) (v := ?_) (by rw [List.getElem?_toArray]; rfl) (by kernel_rfl) (by kernel_rfl) (by kernel_rfl) (by exact fun _ _ _ h => h) (Or.inl ⟨by rfl, ?_⟩) (by assumption) ?_
          rotate_left
          · intro w hSw
            try simp only [Cells, blk, List.cons_append, List.nil_append, and_true, Nat.reduceAdd, Nat.add_zero, Nat.zero_add] at hSw
            go_simp
            try with_reducible rfl
          simp only [Act.put, List.setIfInBounds_toArray, List.set_cons_zero, List.set_cons_succ]
          refine wpAnyH_take (i := 1) (oi := _) (v := ?_) (by rw [List.getElem?_toArray]; rfl) (by kernel_rfl) (by kernel_rfl) (by kernel_rfl) (by exact fun _ _ _ h => h) (Or.inl ⟨by rfl, ?_⟩) (by assumption) ?_
          rotate_left
          · intro w hSw
            try simp only [Cells, blk, List.cons_append, List.nil_append, and_true, Nat.reduceAdd, Nat.add_zero, Nat.zero_add] at hSw
            go_simp
            try with_reducible rfl
          simp only [Act.put, List.setIfInBounds_toArray, List.set_cons_zero, List.set_cons_succ]
          refine wpAnyH_take (i := 2) (oi := _) (v := ?_) (by rw [List.getElem?_toArray]; rfl) (by kernel_rfl) (by kernel_rfl) (by kernel_rfl) (by exact fun _ _ _ h => h) (Or.inl ⟨by rfl, ?_⟩) (by assumption) ?_
          rotate_left
          · intro w hSw
            try simp only [Cells, blk, List.cons_append, List.nil_append, and_true, Nat.reduceAdd, Nat.add_zero, Nat.zero_add] at hSw
            go_simp
            try with_reducible rfl
          simp only [Act.put, List.setIfInBounds_toArray, List.set_cons_zero, List.set_cons_succ]
          refine wpAnyH_take (i := 3) (oi := _) (v := ?_) (by rw [List.getElem?_toArray]; rfl) (by kernel_rfl) (by kernel_rfl) (by kernel_rfl) (by exact fun _ _ _ h => h) (Or.inl ⟨by rfl, ?_⟩) (by assumption) ?_
          rotate_left
          · intro w hSw
            try simp only [Cells, blk, List.cons_append, List.nil_append, and_true, Nat.reduceAdd, Nat.add_zero, Nat.zero_add] at hSw
            go_simp
            try with_reducible rfl
          simp only [Act.put, List.setIfInBounds_toArray, List.set_cons_zero, List.set_cons_succ]
          refine wpAnyH_take (i := 4) (oi := _) (v := ?_) (by rw [List.getElem?_toArray]; rfl) (by kernel_rfl) (by kernel_rfl) (by kernel_rfl) (by exact fun _ _ _ h => h) (Or.inl ⟨by rfl, ?_⟩) (by assumption) ?_
          rotate_left
          · intro w hSw
            try simp only [Cells, blk, List.cons_append, List.nil_append, and_true, Nat.reduceAdd, Nat.add_zero, Nat.zero_add] at hSw
            go_simp
            try with_reducible rfl
          simp only [Act.put, List.setIfInBounds_toArray, List.set_cons_zero, List.set_cons_succ]
          refine wpAnyH_take (i := 5) (oi := _) (v := ?_) (by rw [List.getElem?_toArray]; rfl) (by kernel_rfl) (by kernel_rfl) (by kernel_rfl) (by exact fun _ _ _ h => h) (Or.inl ⟨by rfl, ?_⟩) (by assumption) ?_
          rotate_left
          · intro w hSw
            try simp only [Cells, blk, List.cons_append, List.nil_append, and_true, Nat.reduceAdd, Nat.add_zero, Nat.zero_add] at hSw
            go_simp
            try with_reducible rfl
          simp only [Act.put, List.setIfInBounds_toArray, List.set_cons_zero, List.set_cons_succ]
          refine wpAnyH_take (i := 6) (oi := _) (v := ?_) (by rw [List.getElem?_toArray]; rfl) (by kernel_rfl) (by kernel_rfl) (by kernel_rfl) (by exact fun _ _ _ h => h) (Or.inl ⟨by rfl, ?_⟩) (by assumption) ?_
          rotate_left
          · intro w hSw
            try simp only [Cells, blk, List.cons_append, List.nil_append, and_true, Nat.reduceAdd, Nat.add_zero, Nat.zero_add] at hSw
            go_simp
            try with_reducible rfl
          simp only [Act.put, List.setIfInBounds_toArray, List.set_cons_zero, List.set_cons_succ]
          refine wpAnyH_take (i := 7) (oi := _) (v := ?_) (by rw [List.getElem?_toArray]; rfl) (by kernel_rfl) (by kernel_rfl) (by kernel_rfl) (by exact fun _ _ _ h => h) (Or.inl ⟨by rfl, ?_⟩) (by assumption) ?_
          rotate_left
          · intro w hSw
            try simp only [Cells, blk, List.cons_append, List.nil_append, and_true, Nat.reduceAdd, Nat.add_zero, Nat.zero_add] at hSw
            go_simp
            try with_reducible rfl
          simp only [Act.put, List.setIfInBounds_toArray, List.set_cons_zero, List.set_cons_succ]
          refine wpAnyH_take (i := 8) (oi := _) (v := ?_) (by rw [List.getElem?_toArray]; rfl) (by kernel_rfl) (by kernel_rfl) (by kernel_rfl) (by exact fun _ _ _ h => h) (Or.inl ⟨by rfl, ?_⟩) (by assumption) ?_
          rotate_left
          · intro w hSw
            try simp only [Cells, blk, List.cons_append, List.nil_append, and_true, Nat.reduceAdd, Nat.add_zero, Nat.zero_add] at hSw
            go_simp
            try with_reducible rfl
          simp only [Act.put, List.setIfInBounds_toArray, List.set_cons_zero, List.set_cons_succ]
          refine wpAnyH_take (i := 9) (oi := _) (v := ?_) (by rw [List.getElem?_toArray]; rfl) (by kernel_rfl) (by kernel_rfl) (by kernel_rfl) (by exact fun _ _ _ h => h) (Or.inl ⟨by rfl, ?_⟩) (by assumption) ?_
          rotate_left
          · intro w hSw
            try simp only [Cells, blk, List.cons_append, List.nil_append, and_true, Nat.reduceAdd, Nat.add_zero, Nat.zero_add] at hSw
            go_simp
            try with_reducible rfl
          simp only [Act.put, List.setIfInBounds_toArray, List.set_cons_zero, List.set_cons_succ]
          refine wpAnyH_ready (rs := [10]) (by kernel_rfl) (by simp) (AllReadyH.cons (o := _) (by rw [List.getElem?_toArray]; rfl) (fun K hK => ?_) AllReadyH.nil)
          go_simp
          go_at_call 36
          refine (CALL1.out _).mono ?_
          rintro e w4 ⟨rfl, hB4⟩
          have T4 := Cells.keep (T.drew) hB4
          obtain ⟨hr4, hB5⟩ := ST.out w4 hB4
          clear hHeld
          refine hK.out _ _ (T4) (fun hHeld => ?_)
          clear hK K
          try simp only [Act.put, List.setIfInBounds_toArray, List.set_cons_zero, List.set_cons_succ]
          refine wpAnyH_done (by kernel_rfl) ?_ _
          clear T T4 hB4
          go_wp2
          refine ⟨⟨k + 1, by simp, by omega, hlt, fun t ht => ?_, hr4, hB5⟩, ?_⟩
          · by_cases c : t = k
            · rw [c]; exact HKB.out
            · exact hkeep.out t (by omega)
          · simp [intOf]
            omega
        · have k0 : (List.range (k + 1)).filter (keepB l) = List.range k := by
            rw [range_filter_succ, if_neg (by rw [HKB.out]; decide)]
            exact List.filter_eq_self.2 fun t ht => hkeep.out t (List.mem_range.1 ht)
          have K0 := Lib.hid k0
          obtain ⟨m, hmk⟩ : ∃ m, n - k = m := ⟨_, rfl⟩
          have HMK := Lib.hid hmk
          have hck : ¬ cap = k := by omega
          have i3 : (0 : Int) ≤ (k : Int) := by omega
          have i4 : (k : Int) ≤ (n : Int) := by omega
          have i5 : (n : Int) ≤ (cap : Int) := by omega
          have i6 : (k : Int) ≤ (cap : Int) := by omega
          clear k0 hkeep
          go_wp2_with fail
          refine wp_region_held_drew (S := (fun W' : World => Cells W' (blk g (k * 6) 0 [(E (k)).c0, (E (k)).c1, (E (k)).c2, (E (k)).c3, (E (k)).c4, (E (k)).c5] ++ blk g (k1 * 6) 0 [(E (k1)).c0, (E (k1)).c1, (E (k1)).c2, (E (k1)).c3, (E (k1)).c4, (E (k1)).c5]))) (by kernel_rfl) (T.drew) (fun hHeld => ?_)
          refine wpAnyH_take (i := 0) (oi := _) (v := ?_) (by rw [List.getElem?_toArray]; rfl) (by kernel_rfl) (by kernel_rfl) (by kernel_rfl) (by exact fun _ _ _ h => h) (Or.inl ⟨by rfl, ?_⟩) (by assumption) ?_
          rotate_left
          · intro w hSw
            try simp only [Cells, blk, List.cons_append, List.nil_append, and_true, Nat.reduceAdd, Nat.add_zero, Nat.zero_add] at hSw
            go_simp
            try with_reducible rfl
          simp only [Act.put, List.setIfInBounds_toArray, List.set_cons_zero, List.set_cons_succ]
          refine wpAnyH_take (i := 1) (oi := _) (v := ?_) (by rw [List.getElem?_toArray]; rfl) (by kernel_rfl) (by kernel_rfl) (by kernel_rfl) (by exact fun _ _ _ h => h) (Or.inl ⟨by rfl, ?_⟩) (by assumption) ?_
          rotate_left
          · intro w hSw
            try simp only [Cells, blk, List.cons_append, List.nil_append, and_true, Nat.reduceAdd, Nat.add_zero, Nat.zero_add] at hSw
            go_simp
            try with_reducible rfl
          simp only [Act.put, List.setIfInBounds_toArray, List.set_cons_zero, List.set_cons_succ]
          refine wpAnyH_take (i := 2) (oi := _) (v := ?_) (by rw [List.getElem?_toArray]; rfl) (by kernel_rfl) (by kernel_rfl) (by kernel_rfl) (by exact fun _ _ _ h => h) (Or.inl ⟨by rfl, ?_⟩) (by assumption) ?_
          rotate_left
          · intro w hSw
            try simp only [Cells, blk, List.cons_append, List.nil_append, and_true, Nat.reduceAdd, Nat.add_zero, Nat.zero_add] at hSw
            go_simp
            try with_reducible rfl
          simp only [Act.put, List.setIfInBounds_toArray, List.set_cons_zero, List.set_cons_succ]
          refine wpAnyH_take (i := 3) (oi := _) (v := ?_) (by rw [List.getElem?_toArray]; rfl) (by kernel_rfl) (by kernel_rfl) (by kernel_rfl) (by exact fun _ _ _ h => h) (Or.inl ⟨by rfl, ?_⟩) (by assumption) ?_
          rotate_left
          · intro w hSw
            try simp only [Cells, blk, List.cons_append, List.nil_append, and_true, Nat.reduceAdd, Nat.add_zero, Nat.zero_add] at hSw
            go_simp
            try with_reducible rfl
          simp only [Act.put, List.setIfInBounds_toArray, List.set_cons_zero, List.set_cons_succ]
          refine wpAnyH_take (i := 4) (oi := _) (v := ?_) (by rw [List.getElem?_toArray]; rfl) (by kernel_rfl) (by kernel_rfl) (by kernel_rfl) (by exact fun _ _ _ h => h) (Or.inl ⟨by rfl, ?_⟩) (by assumption) ?_
          rotate_left
          · intro w hSw
            try simp only [Cells, blk, List.cons_append, List.nil_append, and_true, Nat.reduceAdd, Nat.add_zero, Nat.zero_add] at hSw
            go_simp
            try with_reducible rfl
          simp only [Act.put, List.setIfInBounds_toArray, List.set_cons_zero, List.set_cons_succ]
          refine wpAnyH_take (i := 5) (oi := _) (v := ?_) (by rw [List.getElem?_toArray]; rfl) (by kernel_rfl) (by kernel_rfl) (by kernel_rfl) (by exact fun _ _ _ h => h) (Or.inl ⟨by rfl, ?_⟩) (by assumption) ?_
          rotate_left
          · intro w hSw
            try simp only [Cells, blk, List.cons_append, List.nil_append, and_true, Nat.reduceAdd, Nat.add_zero, Nat.zero_add] at hSw
            go_simp
            try with_reducible rfl
          simp only [Act.put, List.setIfInBounds_toArray, List.set_cons_zero, List.set_cons_succ]
          refine wpAnyH_take (i := 6) (oi := _) (v := ?_) (by rw [List.getElem?_toArray]; rfl) (by kernel_rfl) (by kernel_rfl) (by kernel_rfl) (by exact fun _ _ _ h => h) (Or.inl ⟨by rfl, ?_⟩) (by assumption) ?_
          rotate_left
          · intro w hSw
            try simp only [Cells, blk, List.cons_append, List.nil_append, and_true, Nat.reduceAdd, Nat.add_zero, Nat.zero_add] at hSw
            go_simp
            try with_reducible rfl
          simp only [Act.put, List.setIfInBounds_toArray, List.set_cons_zero, List.set_cons_succ]
          refine wpAnyH_take (i := 7) (oi := _) (v := ?_) (by rw [List.getElem?_toArray]; rfl) (by kernel_rfl) (by kernel_rfl) (by kernel_rfl) (by exact fun _ _ _ h => h) (Or.inl ⟨by rfl, ?_⟩) (by assumption) ?_
          rotate_left
          · intro w hSw
            try simp only [Cells, blk, List.cons_append, List.nil_append, and_true, Nat.reduceAdd, Nat.add_zero, Nat.zero_add] at hSw
            go_simp
            try with_reducible rfl
          simp only [Act.put, List.setIfInBounds_toArray, List.set_cons_zero, List.set_cons_succ]
          refine wpAnyH_take (i := 8) (oi := _) (v := ?_) (by rw [List.getElem?_toArray]; rfl) (by kernel_rfl) (by kernel_rfl) (by kernel_rfl) (by exact fun _ _ _ h => h) (Or.inl ⟨by rfl, ?_⟩) (by assumption) ?_
          rotate_left
          · intro w hSw
            try simp only [Cells, blk, List.cons_append, List.nil_append, and_true, Nat.reduceAdd, Nat.add_zero, Nat.zero_add] at hSw
            go_simp
            try with_reducible rfl
          simp only [Act.put, List.setIfInBounds_toArray, List.set_cons_zero, List.set_cons_succ]
          refine wpAnyH_take (i := 9) (oi := _) (v := ?_) (by rw [List.getElem?_toArray]; rfl) (by kernel_rfl) (by kernel_rfl) (by kernel_rfl) (by exact fun _ _ _ h => h) (Or.inl ⟨by rfl, ?_⟩) (by assumption) ?_
          rotate_left
          · intro w hSw
            try simp only [Cells, blk, List.cons_append, List.nil_append, and_true, Nat.reduceAdd, Nat.add_zero, Nat.zero_add] at hSw
            go_simp
            try with_reducible rfl
          simp only [Act.put, List.setIfInBounds_toArray, List.set_cons_zero, List.set_cons_succ]
          refine wpAnyH_ready (rs := [10]) (by kernel_rfl) (by simp) (AllReadyH.cons (o := _) (by rw [List.getElem?_toArray]; rfl) (fun K hK => ?_) AllReadyH.nil)
          go_simp
          go_at_call 36
          refine (CALL1.out _).mono ?_
          rintro e w4 ⟨rfl, hB4⟩
          have T4 := Cells.keep (T.drew) hB4
          obtain ⟨hr4, hB5⟩ := ST.out w4 hB4
          clear hHeld
          refine hK.out _ _ (T4) (fun hHeld => ?_)
          clear hK K
          try simp only [Act.put, List.setIfInBounds_toArray, List.set_cons_zero, List.set_cons_succ]
          refine wpAnyH_done (by kernel_rfl) ?_ _
          clear T T4 hB4
          go_wp2
          go_loopw [5, 7] (fun vi vc wr2 => ∃ (i c : Nat) (p : Nat → Nat), vi = .int .i64 i ∧ vc = .int .i64 c ∧ 1 ≤ c ∧ k + c ≤ n ∧ i < k + c ∧ Hid (((List.range (k + c)).filter (keepB l)).length = i) ∧ Hid (∀ t (ht : t < ((List.range (k + c)).filter (keepB l)).length), p t = ((List.range (k + c)).filter (keepB l))[t]) ∧ Hid (∀ t, k + c - 1 ≤ t → p t = t) ∧ Row6 53 wr2 g 0 E p n ∧ Below B w wr2) (fun _ vc _ => n - (intOf vc).toNat)
          case atStart => exact ⟨k, 1, fun k => k, rfl, by simp, Nat.le_refl _, hlt, by omega, by show ((List.range (k + 1)).filter (keepB l)).length = k; rw [K0.out]; simp, fun t ht => by simp only [K0.out, List.getElem_range], fun t _ => rfl, hr4, hB5⟩
          case round =>
            clear hr4 hB5 K0
            obtain ⟨i, c, p, rfl, rfl, hc1, hkc, hik, hlen, hpt, hpi, hrp, hBp⟩ := hrel
            have hmk := HMK.out
            have hBg2 := Nat.le_trans hB hBp.size
            have hgp := hrp.lt
            by_cases hcl : c < m
            · have gc : decide (c < m) = true := by simpa using hcl
              have gc2 : decide ((c : Int) < (m : Int)) = true := by simp; omega
              obtain ⟨c1, hcc⟩ : ∃ c1, c = c1 + 1 := ⟨c - 1, by omega⟩
              obtain ⟨x1, hx1⟩ : ∃ x, k + c = x := ⟨_, rfl⟩
              obtain ⟨x2, hx2⟩ : ∃ x, k + c1 = x := ⟨_, rfl⟩
              have w3 : IntKind.i64.wrap ((c : Int) - 1) = (c1 : Int) := by rw [IntWalk.i64_in _ (by omega)]; omega
              have w4 : IntKind.i64.wrap ((c : Int) + 1) = (c : Int) + 1 := IntWalk.i64_in _ (by omega)
              have w5 : IntKind.i64.wrap ((i : Int) + 1) = (i : Int) + 1 := IntWalk.i64_in _ (by omega)
              have j1 : (c : Int) < (m : Int) := by omega
              have j2 : (c1 : Int) < (m : Int) := by omega
              have j3 : (i : Int) < (n : Int) := by omega
              have hin : i < n := by omega
              have hx1n : x1 < n := by omega
              have hx2n : x2 < n := by omega
              have p1 : p x1 = x1 := hpi.out x1 (by omega)
              have p2 : p x2 = x2 := hpi.out x2 (by omega)
              have T := (hrp.cells hx1n).app (hrp.cells hx2n)
              rw [p1, p2, show 0 + x1 * 6 = k * 6 + c * 6 by omega, show 0 + x2 * 6 = k * 6 + c1 * 6 by omega] at T
              obtain ⟨cb, hcb⟩ : ∃ c, ((l.getD x1 default).ha == (l.getD x2 default).ha) = c := ⟨_, rfl⟩
              have call1 := CALL.out x1 x2
              rw [hcb] at call1
              have hkb : keepB l x1 = !cb := by
                unfold keepB
                rw [show x1 - 1 = x2 by omega, hcb, decide_eq_false (by omega)]
                simp
              have hrs := range_filter_succ (keepB l) x1
              rw [hkb] at hrs
              rw [hx1] at hlen hpt
              have st : ∀ w4, Below wr.drew.heap.size wr.drew w4 → Row6 53 w4 g 0 E p n ∧ Below B w w4 := fun w4 h4 => ⟨hrp.drew.below h4, hBp.trans (((Below.refl _ _).drew).trans (h4.mono hBg2))⟩
              have CALL1 := Lib.hid call1
              have ST := Lib.hid st
              have HX := Lib.hid (show k + c = x1 ∧ k + (c + 1) = x1 + 1 ∧ c = c1 + 1 by omega)
              have HP1 := Lib.hid p1
              have HPO := Lib.hid (show k * 6 + c * 6 = 0 + x1 * 6 by omega)
              cases cb
              · simp only [Bool.not_false, if_true] at hrs
                have HRS := Lib.hid hrs
                clear hcb call1 hkb st hrp hBp hcc hx1 hx2 hrs p1 p2 hmk
                go_wp2_with fail
                refine wp_region_held_drew (S := (fun W' : World => Cells W' (blk g (k * 6 + c * 6) 0 [(E (x1)).c0, (E (x1)).c1, (E (x1)).c2, (E (x1)).c3, (E (x1)).c4, (E (x1)).c5] ++ blk g (k * 6 + c1 * 6) 0 [(E (x2)).c0, (E (x2)).c1, (E (x2)).c2, (E (x2)).c3, (E (x2)).c4, (E (x2)).c5]))) (by kernel_rfl) (T.drew) (fun hHeld => ?_)
                refine wpAnyH_take (i := 0) (oi := _) (v := ?_) (by rw [List.getElem?_toArray]; rfl) (by kernel_rfl) (by kernel_rfl) (by kernel_rfl) (by exact fun _ _ _ h => h) (Or.inl ⟨by rfl, ?_⟩) (by assumption) ?_
                rotate_left
                · intro w hSw
                  try simp only [Cells, blk, List.cons_append, List.nil_append, and_true, Nat.reduceAdd, Nat.add_zero, Nat.zero_add] at hSw
                  go_simp
                  try with_reducible rfl
                simp only [Act.put, List.setIfInBounds_toArray, List.set_cons_zero, List.set_cons_succ]
                refine wpAnyH_take (i := 1) (oi := _) (v := ?_) (by rw [List.getElem?_toArray]; rfl) (by kernel_rfl) (by kernel_rfl) (by kernel_rfl) (by exact fun _ _ _ h => h) (Or.inl ⟨by rfl, ?_⟩) (by assumption) ?_
                rotate_left
                · intro w hSw
                  try simp only [Cells, blk, List.cons_append, List.nil_append, and_true, Nat.reduceAdd, Nat.add_zero, Nat.zero_add] at hSw
                  go_simp
                  try with_reducible rfl
                simp only [Act.put, List.setIfInBounds_toArray, List.set_cons_zero, List.set_cons_succ]
                refine wpAnyH_take (i := 2) (oi := _) (v := ?_) (by rw [List.getElem?_toArray]; rfl) (by kernel_rfl) (by kernel_rfl) (by kernel_rfl) (by exact fun _ _ _ h => h) (Or.inl ⟨by rfl, ?_⟩) (by assumption) ?_
                rotate_left
                · intro w hSw
                  try simp only [Cells, blk, List.cons_append, List.nil_append, and_true, Nat.reduceAdd, Nat.add_zero, Nat.zero_add] at hSw
                  go_simp
                  try with_reducible rfl
                simp only [Act.put, List.setIfInBounds_toArray, List.set_cons_zero, List.set_cons_succ]
                refine wpAnyH_take (i := 3) (oi := _) (v := ?_) (by rw [List.getElem?_toArray]; rfl) (by kernel_rfl) (by kernel_rfl) (by kernel_rfl) (by exact fun _ _ _ h => h) (Or.inl ⟨by rfl, ?_⟩) (by assumption) ?_
                rotate_left
                · intro w hSw
                  try simp only [Cells, blk, List.cons_append, List.nil_append, and_true, Nat.reduceAdd, Nat.add_zero, Nat.zero_add] at hSw
                  go_simp
                  try with_reducible rfl
                simp only [Act.put, List.setIfInBounds_toArray, List.set_cons_zero, List.set_cons_succ]
                refine wpAnyH_take (i := 4) (oi := _) (v := ?_) (by rw [List.getElem?_toArray]; rfl) (by kernel_rfl) (by kernel_rfl) (by kernel_rfl) (by exact fun _ _ _ h => h) (Or.inl ⟨by rfl, ?_⟩) (by assumption) ?_
                rotate_left
                · intro w hSw
                  try simp only [Cells, blk, List.cons_append, List.nil_append, and_true, Nat.reduceAdd, Nat.add_zero, Nat.zero_add] at hSw
                  go_simp
                  try with_reducible rfl
                simp only [Act.put, List.setIfInBounds_toArray, List.set_cons_zero, List.set_cons_succ]
                refine wpAnyH_take (i := 5) (oi := _) (v := ?_) (by rw [List.getElem?_toArray]; rfl) (by kernel_rfl) (by kernel_rfl) (by kernel_rfl) (by exact fun _ _ _ h => h) (Or.inl ⟨by rfl, ?_⟩) (by assumption) ?_
                rotate_left
                · intro w hSw
                  try simp only [Cells, blk, List.cons_append, List.nil_append, and_true, Nat.reduceAdd, Nat.add_zero, Nat.zero_add] at hSw
                  go_simp
                  try with_reducible rfl
                simp only [Act.put, List.setIfInBounds_toArray, List.set_cons_zero, List.set_cons_succ]
                refine wpAnyH_take (i := 6) (oi := _) (v := ?_) (by rw [List.getElem?_toArray]; rfl) (by kernel_rfl) (by kernel_rfl) (by kernel_rfl) (by exact fun _ _ _ h => h) (Or.inl ⟨by rfl, ?_⟩) (by assumption) ?_
                rotate_left
                · intro w hSw
                  try simp only [Cells, blk, List.cons_append, List.nil_append, and_true, Nat.reduceAdd, Nat.add_zero, Nat.zero_add] at hSw
                  go_simp
                  try with_reducible rfl
                simp only [Act.put, List.setIfInBounds_toArray, List.set_cons_zero, List.set_cons_succ]
                refine wpAnyH_take (i := 7) (oi := _) (v := ?_) (by rw [List.getElem?_toArray]; rfl) (by kernel_rfl) (by kernel_rfl) (by kernel_rfl) (by exact fun _ _ _ h => h) (Or.inl ⟨by rfl, ?_⟩) (by assumption) ?_
                rotate_left
                · intro w hSw
                  try simp only [Cells, blk, List.cons_append, List.nil_append, and_true, Nat.reduceAdd, Nat.add_zero, Nat.zero_add] at hSw
                  go_simp
                  try with_reducible rfl
                simp only [Act.put, List.setIfInBounds_toArray, List.set_cons_zero, List.set_cons_succ]
                refine wpAnyH_take (i := 8) (oi := _) (v := ?_) (by rw [List.getElem?_toArray]; rfl) (by kernel_rfl) (by kernel_rfl) (by kernel_rfl) (by exact fun _ _ _ h => h) (Or.inl ⟨by rfl, ?_⟩) (by assumption) ?_
                rotate_left
                · intro w hSw
                  try simp only [Cells, blk, List.cons_append, List.nil_append, and_true, Nat.reduceAdd, Nat.add_zero, Nat.zero_add] at hSw
                  go_simp
                  try with_reducible rfl
                simp only [Act.put, List.setIfInBounds_toArray, List.set_cons_zero, List.set_cons_succ]
                refine wpAnyH_take (i := 9) (oi := _) (v := ?_) (by rw [List.getElem?_toArray]; rfl) (by kernel_rfl) (by kernel_rfl) (by kernel_rfl) (by exact fun _ _ _ h => h) (Or.inl ⟨by rfl, ?_⟩) (by assumption) ?_
                rotate_left
                · intro w hSw
                  try simp only [Cells, blk, List.cons_append, List.nil_append, and_true, Nat.reduceAdd, Nat.add_zero, Nat.zero_add] at hSw
                  go_simp
                  try with_reducible rfl
                simp only [Act.put, List.setIfInBounds_toArray, List.set_cons_zero, List.set_cons_succ]
                refine wpAnyH_ready (rs := [10]) (by kernel_rfl) (by simp) (AllReadyH.cons (o := _) (by rw [List.getElem?_toArray]; rfl) (fun K hK => ?_) AllReadyH.nil)
                go_simp
                go_at_call 36
                refine (CALL1.out _).mono ?_
                rintro e w4 ⟨rfl, hB4⟩
                have T4 := Cells.keep (T.drew) hB4
                obtain ⟨hr4, hB5⟩ := ST.out w4 hB4
                clear hHeld
                refine hK.out _ _ (T4) (fun hHeld => ?_)
                clear hK K
                try simp only [Act.put, List.setIfInBounds_toArray, List.set_cons_zero, List.set_cons_succ]
                refine wpAnyH_take (i := 11) (oi := _) (v := ?_) (by rw [List.getElem?_toArray]; rfl) (by kernel_rfl) (by kernel_rfl) (by kernel_rfl) (by exact fun _ _ _ h => h) (Or.inl ⟨by rfl, ?_⟩) (by assumption) ?_
                rotate_left
                · intro w hSw
                  try simp only [Cells, blk, List.cons_append, List.nil_append, and_true, Nat.reduceAdd, Nat.add_zero, Nat.zero_add] at hSw
                  go_simp
                  try with_reducible rfl
                simp only [Act.put, List.setIfInBounds_toArray, List.set_cons_zero, List.set_cons_succ]
                refine wpAnyH_done (by kernel_rfl) ?_ _
                clear T T4 hB4
                have F := hr4.get hin
                rw [Nat.zero_add] at F
                obtain ⟨f0, f1, f2, f3, f4, f5⟩ := F
                have G := hr4.get hx1n
                rw [HP1.out, ← HPO.out] at G
                obtain ⟨d0, d1, d2, d3, d4, d5⟩ := G
                have z0 := hr4.fz (i * 6)
                have z1 := hr4.fz (i * 6 + 1)
                have z2 := hr4.fz (i * 6 + 2)
                have z3 := hr4.fz (i * 6 + 3)
                have z4 := hr4.fz (i * 6 + 4)
                have z5 := hr4.fz (i * 6 + 5)
                obtain ⟨o0, o1, o2, o3, o4, o5⟩ := HONE.out x1
                have a0 := fun W a m => run_store Try.prog W a _ m o0
                have a1 := fun W a m => run_store Try.prog W a _ m o1
                have a2 := fun W a m => run_store Try.prog W a _ m o2
                have a3 := fun W a m => run_store Try.prog W a _ m o3
                have a4 := fun W a m => run_store Try.prog W a _ m o4
                have a5 := fun W a m => run_store Try.prog W a _ m o5
                have HR4 := Lib.hid hr4
                have HB5 := Lib.hid hB5
                clear hr4 hB5 o0 o1 o2 o3 o4 o5
                go_wp2
                have hput := HR4.out.put hin x1
                rw [Nat.zero_add] at hput
                obtain ⟨r1, s1⟩ := hput
                have hl := hlen.out
                have hx := HX.out
                refine ⟨⟨i + 1, c + 1, upd p i x1, by simp, by simp, by omega, by omega, by omega, by show ((List.range (k + (c + 1))).filter (keepB l)).length = i + 1; rw [hx.2.1, HRS.out]; simp [hl], fun t ht => ?_, fun t ht => ?_, r1, HB5.out.trans (s1.below.mono hg)⟩, ?_⟩
                · have e9 : ((List.range (k + (c + 1))).filter (keepB l)) = (List.range x1).filter (keepB l) ++ [x1] := by rw [hx.2.1, HRS.out]
                  simp only [e9] at ht ⊢
                  unfold upd
                  by_cases c9 : t = i
                  · rw [if_pos c9]
                    subst c9
                    rw [List.getElem_append_right (by omega)]
                    simp
                  · rw [if_neg c9]
                    simp at ht
                    rw [List.getElem_append_left (by omega)]
                    exact hpt.out t (by omega)
                · unfold upd
                  rw [if_neg (by omega)]
                  exact hpi.out t (by omega)
                · simp [intOf]
                  omega
              · simp only [Bool.not_true, Bool.false_eq_true, if_false] at hrs
                have HRS := Lib.hid hrs
                clear hcb call1 hkb st hrp hBp hcc hx1 hx2 hrs p1 p2 hmk
                go_wp2_with fail
                refine wp_region_held_drew (S := (fun W' : World => Cells W' (blk g (k * 6 + c * 6) 0 [(E (x1)).c0, (E (x1)).c1, (E (x1)).c2, (E (x1)).c3, (E (x1)).c4, (E (x1)).c5] ++ blk g (k * 6 + c1 * 6) 0 [(E (x2)).c0, (E (x2)).c1, (E (x2)).c2, (E (x2)).c3, (E (x2)).c4, (E (x2)).c5]))) (by kernel_rfl) (T.drew) (fun hHeld => ?_)
                refine wpAnyH_take (i := 0) (oi := _) (v := ?_) (by rw [List.getElem?_toArray]; rfl) (by kernel_rfl) (by kernel_rfl) (by kernel_rfl) (by exact fun _ _ _ h => h) (Or.inl ⟨by rfl, ?_⟩) (by assumption) ?_
                rotate_left
                · intro w hSw
                  try simp only [Cells, blk, List.cons_append, List.nil_append, and_true, Nat.reduceAdd, Nat.add_zero, Nat.zero_add] at hSw
                  go_simp
                  try with_reducible rfl
                simp only [Act.put, List.setIfInBounds_toArray, List.set_cons_zero, List.set_cons_succ]
                refine wpAnyH_take (i := 1) (oi := _) (v := ?_) (by rw [List.getElem?_toArray]; rfl) (by kernel_rfl) (by kernel_rfl) (by kernel_rfl) (by exact fun _ _ _ h => h) (Or.inl ⟨by rfl, ?_⟩) (by assumption) ?_
                rotate_left
                · intro w hSw
                  try simp only [Cells, blk, List.cons_append, List.nil_append, and_true, Nat.reduceAdd, Nat.add_zero, Nat.zero_add] at hSw
                  go_simp
                  try with_reducible rfl
                simp only [Act.put, List.setIfInBounds_toArray, List.set_cons_zero, List.set_cons_succ]
                refine wpAnyH_take (i := 2) (oi := _) (v := ?_) (by rw [List.getElem?_toArray]; rfl) (by kernel_rfl) (by kernel_rfl) (by kernel_rfl) (by exact fun _ _ _ h => h) (Or.inl ⟨by rfl, ?_⟩) (by assumption) ?_
                rotate_left
                · intro w hSw
                  try simp only [Cells, blk, List.cons_append, List.nil_append, and_true, Nat.reduceAdd, Nat.add_zero, Nat.zero_add] at hSw
                  go_simp
                  try with_reducible rfl
                simp only [Act.put, List.setIfInBounds_toArray, List.set_cons_zero, List.set_cons_succ]
                refine wpAnyH_take (i := 3) (oi := _) (v := ?_) (by rw [List.getElem?_toArray]; rfl) (by kernel_rfl) (by kernel_rfl) (by kernel_rfl) (by exact fun _ _ _ h => h) (Or.inl ⟨by rfl, ?_⟩) (by assumption) ?_
                rotate_left
                · intro w hSw
                  try simp only [Cells, blk, List.cons_append, List.nil_append, and_true, Nat.reduceAdd, Nat.add_zero, Nat.zero_add] at hSw
                  go_simp
                  try with_reducible rfl
                simp only [Act.put, List.setIfInBounds_toArray, List.set_cons_zero, List.set_cons_succ]
                refine wpAnyH_take (i := 4) (oi := _) (v := ?_) (by rw [List.getElem?_toArray]; rfl) (by kernel_rfl) (by kernel_rfl) (by kernel_rfl) (by exact fun _ _ _ h => h) (Or.inl ⟨by rfl, ?_⟩) (by assumption) ?_
                rotate_left
                · intro w hSw
                  try simp only [Cells, blk, List.cons_append, List.nil_append, and_true, Nat.reduceAdd, Nat.add_zero, Nat.zero_add] at hSw
                  go_simp
                  try with_reducible rfl
                simp only [Act.put, List.setIfInBounds_toArray, List.set_cons_zero, List.set_cons_succ]
                refine wpAnyH_take (i := 5) (oi := _) (v := ?_) (by rw [List.getElem?_toArray]; rfl) (by kernel_rfl) (by kernel_rfl) (by kernel_rfl) (by exact fun _ _ _ h => h) (Or.inl ⟨by rfl, ?_⟩) (by assumption) ?_
                rotate_left
                · intro w hSw
                  try simp only [Cells, blk, List.cons_append, List.nil_append, and_true, Nat.reduceAdd, Nat.add_zero, Nat.zero_add] at hSw
                  go_simp
                  try with_reducible rfl
                simp only [Act.put, List.setIfInBounds_toArray, List.set_cons_zero, List.set_cons_succ]
                refine wpAnyH_take (i := 6) (oi := _) (v := ?_) (by rw [List.getElem?_toArray]; rfl) (by kernel_rfl) (by kernel_rfl) (by kernel_rfl) (by exact fun _ _ _ h => h) (Or.inl ⟨by rfl, ?_⟩) (by assumption) ?_
                rotate_left
                · intro w hSw
                  try simp only [Cells, blk, List.cons_append, List.nil_append, and_true, Nat.reduceAdd, Nat.add_zero, Nat.zero_add] at hSw
                  go_simp
                  try with_reducible rfl
                simp only [Act.put, List.setIfInBounds_toArray, List.set_cons_zero, List.set_cons_succ]
                refine wpAnyH_take (i := 7) (oi := _) (v := ?_) (by rw [List.getElem?_toArray]; rfl) (by kernel_rfl) (by kernel_rfl) (by kernel_rfl) (by exact fun _ _ _ h => h) (Or.inl ⟨by rfl, ?_⟩) (by assumption) ?_
                rotate_left
                · intro w hSw
                  try simp only [Cells, blk, List.cons_append, List.nil_append, and_true, Nat.reduceAdd, Nat.add_zero, Nat.zero_add] at hSw
                  go_simp
                  try with_reducible rfl
                simp only [Act.put, List.setIfInBounds_toArray, List.set_cons_zero, List.set_cons_succ]
                refine wpAnyH_take (i := 8) (oi := _) (v := ?_) (by rw [List.getElem?_toArray]; rfl) (by kernel_rfl) (by kernel_rfl) (by kernel_rfl) (by exact fun _ _ _ h => h) (Or.inl ⟨by rfl, ?_⟩) (by assumption) ?_
                rotate_left
                · intro w hSw
                  try simp only [Cells, blk, List.cons_append, List.nil_append, and_true, Nat.reduceAdd, Nat.add_zero, Nat.zero_add] at hSw
                  go_simp
                  try with_reducible rfl
                simp only [Act.put, List.setIfInBounds_toArray, List.set_cons_zero, List.set_cons_succ]
                refine wpAnyH_take (i := 9) (oi := _) (v := ?_) (by rw [List.getElem?_toArray]; rfl) (by kernel_rfl) (by kernel_rfl) (by kernel_rfl) (by exact fun _ _ _ h => h) (Or.inl ⟨by rfl, ?_⟩) (by assumption) ?_
                rotate_left
                · intro w hSw
                  try simp only [Cells, blk, List.cons_append, List.nil_append, and_true, Nat.reduceAdd, Nat.add_zero, Nat.zero_add] at hSw
                  go_simp
                  try with_reducible rfl
                simp only [Act.put, List.setIfInBounds_toArray, List.set_cons_zero, List.set_cons_succ]
                refine wpAnyH_ready (rs := [10]) (by kernel_rfl) (by simp) (AllReadyH.cons (o := _) (by rw [List.getElem?_toArray]; rfl) (fun K hK => ?_) AllReadyH.nil)
                go_simp
                go_at_call 36
                refine (CALL1.out _).mono ?_
                rintro e w4 ⟨rfl, hB4⟩
                have T4 := Cells.keep (T.drew) hB4
                obtain ⟨hr4, hB5⟩ := ST.out w4 hB4
                clear hHeld
                refine hK.out _ _ (T4) (fun hHeld => ?_)
                clear hK K
                try simp only [Act.put, List.setIfInBounds_toArray, List.set_cons_zero, List.set_cons_succ]
                refine wpAnyH_take (i := 11) (oi := _) (v := ?_) (by rw [List.getElem?_toArray]; rfl) (by kernel_rfl) (by kernel_rfl) (by kernel_rfl) (by exact fun _ _ _ h => h) (Or.inl ⟨by rfl, ?_⟩) (by assumption) ?_
                rotate_left
                · intro w hSw
                  try simp only [Cells, blk, List.cons_append, List.nil_append, and_true, Nat.reduceAdd, Nat.add_zero, Nat.zero_add] at hSw
                  go_simp
                  try with_reducible rfl
                simp only [Act.put, List.setIfInBounds_toArray, List.set_cons_zero, List.set_cons_succ]
                refine wpAnyH_done (by kernel_rfl) ?_ _
                clear T T4 hB4
                have HR4 := Lib.hid hr4
                have HB5 := Lib.hid hB5
                clear hr4 hB5
                go_wp2
                have hx := HX.out
                have e9 : ((List.range (k + (c + 1))).filter (keepB l)) = (List.range x1).filter (keepB l) := by rw [hx.2.1, HRS.out]
                refine ⟨⟨i, c + 1, p, rfl, by simp, by omega, by omega, by omega, by show ((List.range (k + (c + 1))).filter (keepB l)).length = i; rw [e9]; exact hlen.out, fun t ht => by simp only [e9]; exact hpt.out t (by rw [← e9]; exact ht), fun t ht => hpi.out t (by omega), HR4.out, HB5.out⟩, ?_⟩
                simp [intOf]
                omega
            · have e1 : c = m := by omega
              subst e1
              have gc : decide (c < c) = false := by simp
              have hkn : k + c = n := by omega
              rw [hkn] at hlen hpt hik
              obtain ⟨vs, hclr⟩ := run_clear_fd (cap := cap - i) hrp hik
              have hcc := hrp.cleared (i := i) (by omega) vs
              have j2 : (i : Int) ≤ (n : Int) := by omega
              have j4 : (i : Int) ≤ (cap : Int) := by omega
              have hci : ¬ cap = i := by omega
              have HCC := Lib.hid hcc
              have HBP := Lib.hid hBp
              clear hrp hcc hkn hmk hBp
              go_wp2
              go_ret
              exact ⟨_, rfl, FIN.out _ p i hlen.out hpt.out HCC.out.1, HBP.out.trans (HCC.out.2.below.mono hg)⟩
      · have e1 : k = n := by omega
        subst e1
        have gl : decide (k < k) = false := by simp
        go_wp2
        go_ret
        exact ⟨_, rfl, FIN2.out _ hkeep.out hrk, hBk⟩
end Go.Proofs.Yteblimdbkiiaaaa
