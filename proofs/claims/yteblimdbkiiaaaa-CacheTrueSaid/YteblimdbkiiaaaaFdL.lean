/- the stable sort's merge, the first part one element: halving, then exchanges. -/
import Derived.Test.YteblimdbkiiaaaaFdS
import Derived.BigRegion
namespace Go.Proofs.Yteblimdbkiiaaaa
open Go.RowKit

theorem Lx.lt_left {lt : Nat → Nat → Prop} (h : Swo lt) {x y z : Nat} (h1 : Lx lt x y) (h2 : lt y z) : lt x z := by
  rcases h1 with h1 | ⟨h1, _⟩
  · exact h.tr _ _ _ h1 h2
  · exact Classical.byContradiction fun hn => h.ng _ _ _ h1 hn h2
theorem Lx.lt_right {lt : Nat → Nat → Prop} (h : Swo lt) {x y z : Nat} (h1 : lt z x) (h2 : Lx lt x y) : lt z y := by
  rcases h2 with h2 | ⟨h2, _⟩
  · exact h.tr _ _ _ h1 h2
  · exact Classical.byContradiction fun hn => h.ng _ _ _ hn h2 h1
/-- what the halving of a sum of small numbers gives -/
theorem half_facts (i j : Nat) (h : i + j ≤ 4398046511104) : IntKind.i64.wrap ((i : Int) + (j : Int)) = ((i + j : Nat) : Int) ∧ IntKind.u64.wrap ((i + j : Nat) : Int) = ((i + j : Nat) : Int) := by
  refine ⟨?_, ?_⟩
  · rw [IntWalk.i64_in _ (by omega)]; omega
  · unfold IntKind.wrap
    simp [IntKind.bits]
    omega
set_option linter.unusedSimpArgs false in
set_option linter.unusedVariables false in
set_option maxRecDepth 100000 in
set_option maxHeartbeats 4000000 in
theorem Fd_sym1 (es : Nat → El) (p : Nat → Nat) (b off n cap : Nat) (w : World) (hr : Row6 53 w b off es p n) (hn : n ≤ 1099511627776) (ho : ∀ x, (es x).one) (lt : Nat → Nat → Prop) (hlt : Swo lt) (hc : CmpOk Try.prog 33 lt es n) (hp : ∀ k, k < n → p k < n) (a m e : Nat) (ham : a < m) (hme : m < e) (hen : e ≤ n) (hs1 : Srt lt p a m) (hs2 : Srt lt p m e) (hidx : ∀ i j, a ≤ i → i < m → m ≤ j → j < e → p i < p j) (hone : m = a + 1) :
    Calls Try.prog 64 #[.slice (some ⟨b, off, none⟩) n cap, .int .i64 a, .int .i64 m, .int .i64 e, .func (.func 33) #[] #[]] w
      fun x w' => x = .returned (.tuple #[]) ∧ ∃ p', Row6 53 w' b off es p' n ∧ Mem p p' a e ∧ Srt lt p' a e ∧ Sw b w w' := by
  have w1 : IntKind.i64.wrap ((m : Int) - (a : Int)) = 1 := by rw [IntWalk.i64_in _ (by omega)]; omega
  have HC := Lib.hid hc
  have HO := Lib.hid ho
  have HP := Lib.hid hp
  have HIDX := Lib.hid hidx
  have HS2 := Lib.hid hs2
  have HONE := Lib.hid hone
  clear hc hp hidx ho hs1 hs2 hone
  go_enter Try.func64, Try.ntmps64
  go_wp2
  go_loopw [10, 11] (fun vi vj wr => ∃ i j : Nat, vi = .int .i64 i ∧ vj = .int .i64 j ∧ m ≤ i ∧ i ≤ j ∧ j ≤ e ∧ (∀ k, m ≤ k → k < i → lt (p k) (p a)) ∧ (∀ k, j ≤ k → k < e → ¬ lt (p k) (p a)) ∧ Row6 53 wr b off es p n ∧ Sw b w wr) (fun vi vj _ => (intOf vj).toNat - (intOf vi).toNat)
  case atStart => exact ⟨m, e, rfl, rfl, Nat.le_refl _, by omega, Nat.le_refl _, fun k h1 h2 => by omega, fun k h1 h2 => by omega, hr, Sw.refl _ _⟩
  case round =>
    obtain ⟨i, j, rfl, rfl, hmi, hij, hje, hlo, hhi, hri, hsw⟩ := hrel
    by_cases hl : i < j
    · have g1 : decide (i < j) = true := by simpa using hl
      obtain ⟨h, hh⟩ : ∃ h, (i + j) / 2 = h := ⟨_, rfl⟩
      obtain ⟨v1, v2⟩ := half_facts i j (by omega)
      obtain ⟨s, hs⟩ : ∃ s, i + j = s := ⟨_, rfl⟩
      rw [hs] at v1 v2
      have v3 : (s : Int) / 2 = (h : Int) := by omega
      have v4 : IntKind.i64.wrap ((h : Int) + 1) = (h : Int) + 1 := IntWalk.i64_in _ (by omega)
      have hhn : h < n := by omega
      have han : a < n := by omega
      obtain ⟨c, hc1, hc2⟩ := HC.out (p h) (p a) (HP.out h hhn) (HP.out a han)
      have T := (hri.cells hhn).app (hri.cells han)
      have st : ∀ w3, Below wr.drew.heap.size wr.drew w3 → Row6 53 w3 b off es p n ∧ Sw b w w3 := fun w3 hB3 =>
        ⟨hri.drew.below hB3, hsw.trans (((Sw.refl b wr).drew).trans (Sw.of_below hB3 (Nat.le_of_lt hri.lt)))⟩
      have i1 : (h : Int) < (n : Int) := by omega
      have i2 : (a : Int) < (n : Int) := by omega
      have hmh : m ≤ h ∧ i ≤ h ∧ h < j := by omega
      have ST := Lib.hid st
      have HC1 := Lib.hid hc1
      have HC2 := Lib.hid hc2
      have HLO := Lib.hid hlo
      have HHI := Lib.hid hhi
      have HMH := Lib.hid hmh
      clear hr st hc1 hc2 hlo hhi hri hsw hh hs hmh
      by_cases hl2 : c < 0
      · have g2 : decide (c < 0) = true := by simpa using hl2
        go_wp2_with fail
        refine wp_region_held_drew (S := (fun W' : World => Cells W' (blk b (off + h * 6) 0 [(es (p h)).c0, (es (p h)).c1, (es (p h)).c2, (es (p h)).c3, (es (p h)).c4, (es (p h)).c5] ++ blk b (off + a * 6) 0 [(es (p a)).c0, (es (p a)).c1, (es (p a)).c2, (es (p a)).c3, (es (p a)).c4, (es (p a)).c5]))) (by kernel_rfl) (T.drew) (fun hHeld => ?_)
        refine wpAnyH_take (i := 0) (oi := _) (v := ?_) (by rw [List.getElem?_toArray]; rfl) (by kernel_rfl) (by kernel_rfl) (by kernel_rfl) (by exact fun _ _ _ h => h) (Or.inl ⟨by rfl, ?_⟩) (by assumption) ?_
        rotate_left
        · intro w hSw
          try simp only [Cells, blk, List.cons_append, List.nil_append, and_true, Nat.reduceAdd, Nat.add_zero, Nat.zero_add] at hSw
          go_simp
          try with_reducible rfl
        simp only [Act.put, List.setIfInBounds_toArray, List.set_cons_zero, List.set_cons_succ]
        refine wpAnyH_take (i := 1) (oi := _) (v := ?_) (by rw [List.getElem?_toArray]; rfl) (by kernel_rfl) (by kernel_rfl) (by kernel_rfl) (by exact fun _ _ _ h => h) (Or.inl ⟨by rfl, ?_⟩) (by assumption) ?_
        rotate_left
        · intro w hSw
          try simp only [Cells, blk, List.cons_append, List.nil_append, and_true, Nat.reduceAdd, Nat.add_zero, Nat.zero_add] at hSw
          go_simp
          try with_reducible rfl
        simp only [Act.put, List.setIfInBounds_toArray, List.set_cons_zero, List.set_cons_succ]
        refine wpAnyH_take (i := 2) (oi := _) (v := ?_) (by rw [List.getElem?_toArray]; rfl) (by kernel_rfl) (by kernel_rfl) (by kernel_rfl) (by exact fun _ _ _ h => h) (Or.inl ⟨by rfl, ?_⟩) (by assumption) ?_
        rotate_left
        · intro w hSw
          try simp only [Cells, blk, List.cons_append, List.nil_append, and_true, Nat.reduceAdd, Nat.add_zero, Nat.zero_add] at hSw
          go_simp
          try with_reducible rfl
        simp only [Act.put, List.setIfInBounds_toArray, List.set_cons_zero, List.set_cons_succ]
        refine wpAnyH_take (i := 3) (oi := _) (v := ?_) (by rw [List.getElem?_toArray]; rfl) (by kernel_rfl) (by kernel_rfl) (by kernel_rfl) (by exact fun _ _ _ h => h) (Or.inl ⟨by rfl, ?_⟩) (by assumption) ?_
        rotate_left
        · intro w hSw
          try simp only [Cells, blk, List.cons_append, List.nil_append, and_true, Nat.reduceAdd, Nat.add_zero, Nat.zero_add] at hSw
          go_simp
          try with_reducible rfl
        simp only [Act.put, List.setIfInBounds_toArray, List.set_cons_zero, List.set_cons_succ]
        refine wpAnyH_take (i := 4) (oi := _) (v := ?_) (by rw [List.getElem?_toArray]; rfl) (by kernel_rfl) (by kernel_rfl) (by kernel_rfl) (by exact fun _ _ _ h => h) (Or.inl ⟨by rfl, ?_⟩) (by assumption) ?_
        rotate_left
        · intro w hSw
          try simp only [Cells, blk, List.cons_append, List.nil_append, and_true, Nat.reduceAdd, Nat.add_zero, Nat.zero_add] at hSw
          go_simp
          try with_reducible rfl
        simp only [Act.put, List.setIfInBounds_toArray, List.set_cons_zero, List.set_cons_succ]
        refine wpAnyH_take (i := 5) (oi := _) (v := ?_) (by rw [List.getElem?_toArray]; rfl) (by kernel_rfl) (by kernel_rfl) (by kernel_rfl) (by exact fun _ _ _ h => h) (Or.inl ⟨by rfl, ?_⟩) (by assumption) ?_
        rotate_left
        · intro w hSw
          try simp only [Cells, blk, List.cons_append, List.nil_append, and_true, Nat.reduceAdd, Nat.add_zero, Nat.zero_add] at hSw
          go_simp
          try with_reducible rfl
        simp only [Act.put, List.setIfInBounds_toArray, List.set_cons_zero, List.set_cons_succ]
        refine wpAnyH_take (i := 6) (oi := _) (v := ?_) (by rw [List.getElem?_toArray]; rfl) (by kernel_rfl) (by kernel_rfl) (by kernel_rfl) (by exact fun _ _ _ h => h) (Or.inl ⟨by rfl, ?_⟩) (by assumption) ?_
        rotate_left
        · intro w hSw
          try simp only [Cells, blk, List.cons_append, List.nil_append, and_true, Nat.reduceAdd, Nat.add_zero, Nat.zero_add] at hSw
          go_simp
          try with_reducible rfl
        simp only [Act.put, List.setIfInBounds_toArray, List.set_cons_zero, List.set_cons_succ]
        refine wpAnyH_take (i := 7) (oi := _) (v := ?_) (by rw [List.getElem?_toArray]; rfl) (by kernel_rfl) (by kernel_rfl) (by kernel_rfl) (by exact fun _ _ _ h => h) (Or.inl ⟨by rfl, ?_⟩) (by assumption) ?_
        rotate_left
        · intro w hSw
          try simp only [Cells, blk, List.cons_append, List.nil_append, and_true, Nat.reduceAdd, Nat.add_zero, Nat.zero_add] at hSw
          go_simp
          try with_reducible rfl
        simp only [Act.put, List.setIfInBounds_toArray, List.set_cons_zero, List.set_cons_succ]
        refine wpAnyH_take (i := 8) (oi := _) (v := ?_) (by rw [List.getElem?_toArray]; rfl) (by kernel_rfl) (by kernel_rfl) (by kernel_rfl) (by exact fun _ _ _ h => h) (Or.inl ⟨by rfl, ?_⟩) (by assumption) ?_
        rotate_left
        · intro w hSw
          try simp only [Cells, blk, List.cons_append, List.nil_append, and_true, Nat.reduceAdd, Nat.add_zero, Nat.zero_add] at hSw
          go_simp
          try with_reducible rfl
        simp only [Act.put, List.setIfInBounds_toArray, List.set_cons_zero, List.set_cons_succ]
        refine wpAnyH_ready (rs := [9]) (by kernel_rfl) (by simp) (AllReadyH.cons (o := _) (by rw [List.getElem?_toArray]; rfl) (fun K hK => ?_) AllReadyH.nil)
        go_simp
        go_at_call 33
        refine (HC2.out _).mono ?_
        rintro x w3 ⟨rfl, hB3⟩
        have T3 := Cells.keep (T.drew) hB3
        obtain ⟨hr3, hs3⟩ := ST.out w3 hB3
        clear hHeld
        refine hK.out _ _ (T3) (fun hHeld => ?_)
        clear hK K
        try simp only [Act.put, List.setIfInBounds_toArray, List.set_cons_zero, List.set_cons_succ]
        refine wpAnyH_take (i := 10) (oi := _) (v := ?_) (by rw [List.getElem?_toArray]; rfl) (by kernel_rfl) (by kernel_rfl) (by kernel_rfl) (by exact fun _ _ _ h => h) (Or.inl ⟨by rfl, ?_⟩) (by assumption) ?_
        rotate_left
        · intro w hSw
          try simp only [Cells, blk, List.cons_append, List.nil_append, and_true, Nat.reduceAdd, Nat.add_zero, Nat.zero_add] at hSw
          go_simp
          try with_reducible rfl
        simp only [Act.put, List.setIfInBounds_toArray, List.set_cons_zero, List.set_cons_succ]
        refine wpAnyH_done (by kernel_rfl) ?_ _
        clear T T3 hB3
        go_wp2
        have hmh := HMH.out
        refine ⟨⟨h + 1, j, by simp, rfl, by omega, by omega, hje, fun k h1 h2 => ?_, HHI.out, hr3, hs3⟩, ?_⟩
        · by_cases hk : k = h
          · rw [hk]; exact HC1.out.1 hl2
          · exact (HS2.out k h h1 (by omega) (by omega)).lt_left hlt (HC1.out.1 hl2)
        · simp [intOf]
          omega
      · have g2 : decide (c < 0) = false := by simpa using hl2
        have hnl : ¬ lt (p h) (p a) := fun hx => hl2 (HC1.out.2 hx)
        go_wp2_with fail
        refine wp_region_held_drew (S := (fun W' : World => Cells W' (blk b (off + h * 6) 0 [(es (p h)).c0, (es (p h)).c1, (es (p h)).c2, (es (p h)).c3, (es (p h)).c4, (es (p h)).c5] ++ blk b (off + a * 6) 0 [(es (p a)).c0, (es (p a)).c1, (es (p a)).c2, (es (p a)).c3, (es (p a)).c4, (es (p a)).c5]))) (by kernel_rfl) (T.drew) (fun hHeld => ?_)
        refine wpAnyH_take (i := 0) (oi := _) (v := ?_) (by rw [List.getElem?_toArray]; rfl) (by kernel_rfl) (by kernel_rfl) (by kernel_rfl) (by exact fun _ _ _ h => h) (Or.inl ⟨by rfl, ?_⟩) (by assumption) ?_
        rotate_left
        · intro w hSw
          try simp only [Cells, blk, List.cons_append, List.nil_append, and_true, Nat.reduceAdd, Nat.add_zero, Nat.zero_add] at hSw
          go_simp
          try with_reducible rfl
        simp only [Act.put, List.setIfInBounds_toArray, List.set_cons_zero, List.set_cons_succ]
        refine wpAnyH_take (i := 1) (oi := _) (v := ?_) (by rw [List.getElem?_toArray]; rfl) (by kernel_rfl) (by kernel_rfl) (by kernel_rfl) (by exact fun _ _ _ h => h) (Or.inl ⟨by rfl, ?_⟩) (by assumption) ?_
        rotate_left
        · intro w hSw
          try simp only [Cells, blk, List.cons_append, List.nil_append, and_true, Nat.reduceAdd, Nat.add_zero, Nat.zero_add] at hSw
          go_simp
          try with_reducible rfl
        simp only [Act.put, List.setIfInBounds_toArray, List.set_cons_zero, List.set_cons_succ]
        refine wpAnyH_take (i := 2) (oi := _) (v := ?_) (by rw [List.getElem?_toArray]; rfl) (by kernel_rfl) (by kernel_rfl) (by kernel_rfl) (by exact fun _ _ _ h => h) (Or.inl ⟨by rfl, ?_⟩) (by assumption) ?_
        rotate_left
        · intro w hSw
          try simp only [Cells, blk, List.cons_append, List.nil_append, and_true, Nat.reduceAdd, Nat.add_zero, Nat.zero_add] at hSw
          go_simp
          try with_reducible rfl
        simp only [Act.put, List.setIfInBounds_toArray, List.set_cons_zero, List.set_cons_succ]
        refine wpAnyH_take (i := 3) (oi := _) (v := ?_) (by rw [List.getElem?_toArray]; rfl) (by kernel_rfl) (by kernel_rfl) (by kernel_rfl) (by exact fun _ _ _ h => h) (Or.inl ⟨by rfl, ?_⟩) (by assumption) ?_
        rotate_left
        · intro w hSw
          try simp only [Cells, blk, List.cons_append, List.nil_append, and_true, Nat.reduceAdd, Nat.add_zero, Nat.zero_add] at hSw
          go_simp
          try with_reducible rfl
        simp only [Act.put, List.setIfInBounds_toArray, List.set_cons_zero, List.set_cons_succ]
        refine wpAnyH_take (i := 4) (oi := _) (v := ?_) (by rw [List.getElem?_toArray]; rfl) (by kernel_rfl) (by kernel_rfl) (by kernel_rfl) (by exact fun _ _ _ h => h) (Or.inl ⟨by rfl, ?_⟩) (by assumption) ?_
        rotate_left
        · intro w hSw
          try simp only [Cells, blk, List.cons_append, List.nil_append, and_true, Nat.reduceAdd, Nat.add_zero, Nat.zero_add] at hSw
          go_simp
          try with_reducible rfl
        simp only [Act.put, List.setIfInBounds_toArray, List.set_cons_zero, List.set_cons_succ]
        refine wpAnyH_take (i := 5) (oi := _) (v := ?_) (by rw [List.getElem?_toArray]; rfl) (by kernel_rfl) (by kernel_rfl) (by kernel_rfl) (by exact fun _ _ _ h => h) (Or.inl ⟨by rfl, ?_⟩) (by assumption) ?_
        rotate_left
        · intro w hSw
          try simp only [Cells, blk, List.cons_append, List.nil_append, and_true, Nat.reduceAdd, Nat.add_zero, Nat.zero_add] at hSw
          go_simp
          try with_reducible rfl
        simp only [Act.put, List.setIfInBounds_toArray, List.set_cons_zero, List.set_cons_succ]
        refine wpAnyH_take (i := 6) (oi := _) (v := ?_) (by rw [List.getElem?_toArray]; rfl) (by kernel_rfl) (by kernel_rfl) (by kernel_rfl) (by exact fun _ _ _ h => h) (Or.inl ⟨by rfl, ?_⟩) (by assumption) ?_
        rotate_left
        · intro w hSw
          try simp only [Cells, blk, List.cons_append, List.nil_append, and_true, Nat.reduceAdd, Nat.add_zero, Nat.zero_add] at hSw
          go_simp
          try with_reducible rfl
        simp only [Act.put, List.setIfInBounds_toArray, List.set_cons_zero, List.set_cons_succ]
        refine wpAnyH_take (i := 7) (oi := _) (v := ?_) (by rw [List.getElem?_toArray]; rfl) (by kernel_rfl) (by kernel_rfl) (by kernel_rfl) (by exact fun _ _ _ h => h) (Or.inl ⟨by rfl, ?_⟩) (by assumption) ?_
        rotate_left
        · intro w hSw
          try simp only [Cells, blk, List.cons_append, List.nil_append, and_true, Nat.reduceAdd, Nat.add_zero, Nat.zero_add] at hSw
          go_simp
          try with_reducible rfl
        simp only [Act.put, List.setIfInBounds_toArray, List.set_cons_zero, List.set_cons_succ]
        refine wpAnyH_take (i := 8) (oi := _) (v := ?_) (by rw [List.getElem?_toArray]; rfl) (by kernel_rfl) (by kernel_rfl) (by kernel_rfl) (by exact fun _ _ _ h => h) (Or.inl ⟨by rfl, ?_⟩) (by assumption) ?_
        rotate_left
        · intro w hSw
          try simp only [Cells, blk, List.cons_append, List.nil_append, and_true, Nat.reduceAdd, Nat.add_zero, Nat.zero_add] at hSw
          go_simp
          try with_reducible rfl
        simp only [Act.put, List.setIfInBounds_toArray, List.set_cons_zero, List.set_cons_succ]
        refine wpAnyH_ready (rs := [9]) (by kernel_rfl) (by simp) (AllReadyH.cons (o := _) (by rw [List.getElem?_toArray]; rfl) (fun K hK => ?_) AllReadyH.nil)
        go_simp
        go_at_call 33
        refine (HC2.out _).mono ?_
        rintro x w3 ⟨rfl, hB3⟩
        have T3 := Cells.keep (T.drew) hB3
        obtain ⟨hr3, hs3⟩ := ST.out w3 hB3
        clear hHeld
        refine hK.out _ _ (T3) (fun hHeld => ?_)
        clear hK K
        try simp only [Act.put, List.setIfInBounds_toArray, List.set_cons_zero, List.set_cons_succ]
        refine wpAnyH_take (i := 10) (oi := _) (v := ?_) (by rw [List.getElem?_toArray]; rfl) (by kernel_rfl) (by kernel_rfl) (by kernel_rfl) (by exact fun _ _ _ h => h) (Or.inl ⟨by rfl, ?_⟩) (by assumption) ?_
        rotate_left
        · intro w hSw
          try simp only [Cells, blk, List.cons_append, List.nil_append, and_true, Nat.reduceAdd, Nat.add_zero, Nat.zero_add] at hSw
          go_simp
          try with_reducible rfl
        simp only [Act.put, List.setIfInBounds_toArray, List.set_cons_zero, List.set_cons_succ]
        refine wpAnyH_done (by kernel_rfl) ?_ _
        clear T T3 hB3
        go_wp2
        have hmh := HMH.out
        refine ⟨⟨i, h, rfl, rfl, hmi, by omega, by omega, HLO.out, fun k h1 h2 hx => ?_, hr3, hs3⟩, ?_⟩
        · by_cases hk : k = h
          · rw [hk] at hx; exact hnl hx
          · exact hnl ((HS2.out h k (by omega) (by omega) h2).lt_left hlt hx)
        · simp [intOf]
          omega
    · have e1 : j = i := by omega
      subst e1
      have g1 : decide (j < j) = false := by simp
      obtain ⟨i1, hi1⟩ : ∃ i1, j = i1 + 1 := ⟨j - 1, by have := HONE.out; omega⟩
      have v1 : IntKind.i64.wrap ((j : Int) - 1) = (i1 : Int) := by rw [IntWalk.i64_in _ (by omega)]; omega
      have fin : Srt lt (rot p a (a + 1) j) a e := srt_up (by have := HS2.out; have := HONE.out; subst this; assumption) (fun k h1 h2 => HIDX.out a k (Nat.le_refl _) (by have := HONE.out; omega) (by have := HONE.out; omega) h2) (by have := HONE.out; omega) hje (fun k h1 h2 => hlo k (by have := HONE.out; omega) h2) hhi
      have FIN := Lib.hid fin
      have HI1 := Lib.hid hi1
      have HRI := Lib.hid hri
      have HSW := Lib.hid hsw
      clear hr hlo hhi fin hi1 hri hsw
      go_wp2
      go_loopw [13] (fun vk wr => ∃ k : Nat, vk = .int .i64 k ∧ a ≤ k ∧ k ≤ i1 ∧ Row6 53 wr b off es (rot p a (a + 1) (k + 1)) n ∧ Sw b w wr) (fun vk _ => n - (intOf vk).toNat)
      case atStart => exact ⟨a, rfl, Nat.le_refl _, by have := HI1.out; have := HONE.out; omega, by rw [rot_right]; exact HRI.out, HSW.out⟩
      case round =>
        obtain ⟨k, rfl, hak, hki, hrk, hsk⟩ := hrel
        by_cases hl3 : k < i1
        · have g3 : decide (k < i1) = true := by simpa using hl3
          obtain ⟨k1, hk1⟩ : ∃ k1, k + 1 = k1 := ⟨_, rfl⟩
          have hk1n : k1 < n := by have := HI1.out; omega
          have v2 : IntKind.i64.wrap ((k : Int) + 1) = (k1 : Int) := by rw [IntWalk.i64_in _ (by omega)]; omega
          have hu := rot_up (p := p) hak
          rw [hk1, show k + 2 = k1 + 1 by omega] at hu
          rw [hk1] at hrk
          have hkn : k < n := by have := HI1.out; omega
          have i3 : (k : Int) < (n : Int) := by omega
          have i4 : (k1 : Int) < (n : Int) := by omega
          obtain ⟨q, hq⟩ : ∃ q, rot p a (a + 1) k1 = q := ⟨_, rfl⟩
          rw [hq] at hu hrk
          obtain ⟨f0, f1, f2, f3, f4, f5⟩ := hrk.get hkn
          obtain ⟨k0, kk1, kk2, k3, k4, k5⟩ := hrk.get hk1n
          have z0 := hrk.fz (off + k * 6)
          have y0 := hrk.fz (off + k1 * 6)
          have z1 := hrk.fz (off + k * 6 + 1)
          have y1 := hrk.fz (off + k1 * 6 + 1)
          have z2 := hrk.fz (off + k * 6 + 2)
          have y2 := hrk.fz (off + k1 * 6 + 2)
          have z3 := hrk.fz (off + k * 6 + 3)
          have y3 := hrk.fz (off + k1 * 6 + 3)
          have z4 := hrk.fz (off + k * 6 + 4)
          have y4 := hrk.fz (off + k1 * 6 + 4)
          have z5 := hrk.fz (off + k * 6 + 5)
          have y5 := hrk.fz (off + k1 * 6 + 5)
          obtain ⟨o0, o1, o2, o3, o4, o5⟩ := HO.out (q k)
          obtain ⟨r0, r1, r2, r3, r4, r5⟩ := HO.out (q k1)
          have a0 := fun W a m => run_store Try.prog W a _ m o0
          have b0 := fun W a m => run_store Try.prog W a _ m r0
          have a1 := fun W a m => run_store Try.prog W a _ m o1
          have b1 := fun W a m => run_store Try.prog W a _ m r1
          have a2 := fun W a m => run_store Try.prog W a _ m o2
          have b2 := fun W a m => run_store Try.prog W a _ m r2
          have a3 := fun W a m => run_store Try.prog W a _ m o3
          have b3 := fun W a m => run_store Try.prog W a _ m r3
          have a4 := fun W a m => run_store Try.prog W a _ m o4
          have b4 := fun W a m => run_store Try.prog W a _ m r4
          have a5 := fun W a m => run_store Try.prog W a _ m o5
          have b5 := fun W a m => run_store Try.prog W a _ m r5
          have hne : ¬ k = k1 := by omega
          have hne2 : ¬ k1 = k := by omega
          have HU := Lib.hid hu
          have HRK := Lib.hid hrk
          have HSK := Lib.hid hsk
          have HK1 := Lib.hid hk1
          clear hu hrk hsk hq hk1
          go_wp2
          go_region
          all_goals go_wp2
          obtain ⟨r1, s1⟩ := HRK.out.put hkn (q k1)
          obtain ⟨r2, s2⟩ := r1.put hk1n (q k)
          rw [upd_swp hne, HU.out] at r2
          have hk1 := HK1.out
          refine ⟨⟨k1, rfl, by omega, by omega, r2.drew, (HSK.out.trans (s1.trans s2)).drew⟩, ?_⟩
          simp [intOf]
          omega
        · have g3 : decide (k < i1) = false := by simpa using hl3
          have e2 : k = i1 := by omega
          subst e2
          rw [← HI1.out] at hrk
          go_wp2
          refine bodyPost_ret (results_none rfl _ _ _) rfl ?_
          exact ⟨rfl, _, hrk, (mem_rot (by omega) (by have := HONE.out; omega)).wide (Nat.le_refl _) hje, FIN.out, hsk⟩
end Go.Proofs.Yteblimdbkiiaaaa
