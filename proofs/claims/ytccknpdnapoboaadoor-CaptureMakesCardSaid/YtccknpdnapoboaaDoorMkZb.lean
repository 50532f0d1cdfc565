/- the stable sort's merge, the first part one element: halving, then exchanges. the stable sort's merge, the second part one element: halving, then exchanges. the stable sort's merge, both parts longer: halving, a rotation, and twice itself. the stable sort. -/
import Derived.Test.YtccknpdnapoboaaDoorMkZa
import Derived.BigRegion
namespace Go.Proofs.YtccknpdnapoboaaDoor
open Go.RowKit

theorem Lx.lt_left {lt : Nat → Nat → Prop} (h : Swo lt) {x y z : Nat} (h1 : Lx lt x y) (h2 : lt y z) : lt x z := by
  rcases h1 with h1 | ⟨h1, _⟩
  · exact h.tr _ _ _ h1 h2
  · exact Classical.byContradiction fun hn => h.ng _ _ _ h1 hn h2
theorem Lx.lt_right {lt : Nat → Nat → Prop} (h : Swo lt) {x y z : Nat} (h1 : lt z x) (h2 : Lx lt x y) : lt z y := by
  rcases h2 with h2 | ⟨h2, _⟩
  · exact h.tr _ _ _ h1 h2
  · exact Classical.byContradiction fun hn => h.ng _ _ _ hn h2 h1
/-- what the halving of a sum of small numbers gives -/
theorem half_facts (i j : Nat) (h : i + j ≤ 4398046511104) : IntKind.i64.wrap ((i : Int) + (j : Int)) = ((i + j : Nat) : Int) ∧ IntKind.u64.wrap ((i + j : Nat) : Int) = ((i + j : Nat) : Int) := by
  refine ⟨?_, ?_⟩
  · rw [IntWalk.i64_in _ (by omega)]; omega
  · unfold IntKind.wrap
    simp [IntKind.bits]
    omega
set_option linter.unusedSimpArgs false in
set_option linter.unusedVariables false in
set_option maxRecDepth 100000 in
set_option maxHeartbeats 4000000 in
theorem Tx_sym1 (es : Nat → El) (p : Nat → Nat) (b off n cap : Nat) (w : World) (hr : Row5 88 w b off es p n) (hn : n ≤ 1099511627776) (ho : ∀ x, (es x).one) (lt : Nat → Nat → Prop) (hlt : Swo lt) (hc : CmpOk Tryd.prog 48 lt es n) (hp : ∀ k, k < n → p k < n) (a m e : Nat) (ham : a < m) (hme : m < e) (hen : e ≤ n) (hs1 : Srt lt p a m) (hs2 : Srt lt p m e) (hidx : ∀ i j, a ≤ i → i < m → m ≤ j → j < e → p i < p j) (hone : m = a + 1) :
    Calls Tryd.prog 73 #[.slice (some ⟨b, off, none⟩) n cap, .int .i64 a, .int .i64 m, .int .i64 e, .func (.func 48) #[] #[]] w
      fun x w' => x = .returned (.tuple #[]) ∧ ∃ p', Row5 88 w' b off es p' n ∧ Mem p p' a e ∧ Srt lt p' a e ∧ Sw b w w' := by
  have w1 : IntKind.i64.wrap ((m : Int) - (a : Int)) = 1 := by rw [IntWalk.i64_in _ (by omega)]; omega
  have HC := Lib.hid hc
  have HO := Lib.hid ho
  have HP := Lib.hid hp
  have HIDX := Lib.hid hidx
  have HS2 := Lib.hid hs2
  have HONE := Lib.hid hone
  clear hc hp hidx ho hs1 hs2 hone
  go_enter Tryd.func73, Tryd.ntmps73
  go_wp2
  go_loopw [10, 11] (fun vi vj wr => ∃ i j : Nat, vi = .int .i64 i ∧ vj = .int .i64 j ∧ m ≤ i ∧ i ≤ j ∧ j ≤ e ∧ (∀ k, m ≤ k → k < i → lt (p k) (p a)) ∧ (∀ k, j ≤ k → k < e → ¬ lt (p k) (p a)) ∧ Row5 88 wr b off es p n ∧ Sw b w wr) (fun vi vj _ => (intOf vj).toNat - (intOf vi).toNat)
  case atStart => exact ⟨m, e, rfl, rfl, Nat.le_refl _, by omega, Nat.le_refl _, fun k h1 h2 => by omega, fun k h1 h2 => by omega, hr, Sw.refl _ _⟩
  case round =>
    obtain ⟨i, j, rfl, rfl, hmi, hij, hje, hlo, hhi, hri, hsw⟩ := hrel
    by_cases hl : i < j
    · have g1 : decide (i < j) = true := by simpa using hl
      obtain ⟨h, hh⟩ : ∃ h, (i + j) / 2 = h := ⟨_, rfl⟩
      obtain ⟨v1, v2⟩ := half_facts i j (by omega)
      obtain ⟨s, hs⟩ : ∃ s, i + j = s := ⟨_, rfl⟩
      rw [hs] at v1 v2
      have v3 : (s : Int) / 2 = (h : Int) := by omega
      have v4 : IntKind.i64.wrap ((h : Int) + 1) = (h : Int) + 1 := IntWalk.i64_in _ (by omega)
      have hhn : h < n := by omega
      have han : a < n := by omega
      obtain ⟨c, hc1, hc2⟩ := HC.out (p h) (p a) (HP.out h hhn) (HP.out a han)
      have T := (hri.cells hhn).app (hri.cells han)
      have st : ∀ w3, Below wr.drew.heap.size wr.drew w3 → Row5 88 w3 b off es p n ∧ Sw b w w3 := fun w3 hB3 =>
        ⟨hri.drew.below hB3, hsw.trans (((Sw.refl b wr).drew).trans (Sw.of_below hB3 (Nat.le_of_lt hri.lt)))⟩
      have i1 : (h : Int) < (n : Int) := by omega
      have i2 : (a : Int) < (n : Int) := by omega
      have hmh : m ≤ h ∧ i ≤ h ∧ h < j := by omega
      have ST := Lib.hid st
      have HC1 := Lib.hid hc1
      have HC2 := Lib.hid hc2
      have HLO := Lib.hid hlo
      have HHI := Lib.hid hhi
      have HMH := Lib.hid hmh
      clear hr st hc1 hc2 hlo hhi hri hsw hh hs hmh
      by_cases hl2 : c < 0
      · have g2 : decide (c < 0) = true := by simpa using hl2
        go_wp2_with fail
        refine wp_region_held_drew (S := (fun W' : World => Cells W' (blk b (off + h * 5) 0 [(es (p h)).c0, (es (p h)).c1, (es (p h)).c2, (es (p h)).c3, (es (p h)).c4] ++ blk b (off + a * 5) 0 [(es (p a)).c0, (es (p a)).c1, (es (p a)).c2, (es (p a)).c3, (es (p a)).c4]))) (by kernel_rfl) (T.drew) (fun hHeld => ?_)
        refine wpAnyH_take (i := 0) (oi := _) (v := ?_) (by rw [List.getElem?_toArray]; rfl) (by kernel_rfl) (by kernel_rfl) (by kernel_rfl) (by exact fun _ _ _ h => h) (Or.inl ⟨by rfl, ?_⟩) (by assumption) ?_
        rotate_left
        · intro w hSw
          try simp only [Cells, blk, List.cons_append, List.nil_append, and_true, Nat.reduceAdd, Nat.add_zero, Nat.zero_add] at hSw
          go_simp
          try with_reducible rfl
        simp only [Act.put, List.setIfInBounds_toArray, List.set_cons_zero, List.set_cons_succ]
        refine wpAnyH_take (i := 1) (oi := _) (v := ?_) (by rw [List.getElem?_toArray]; rfl) (by kernel_rfl) (by kernel_rfl) (by kernel_rfl) (by exact fun _ _ _ h => h) (Or.inl ⟨by rfl, ?_⟩) (by assumption) ?_
        rotate_left
        · intro w hSw
          try simp only [Cells, blk, List.cons_append, List.nil_append, and_true, Nat.reduceAdd, Nat.add_zero, Nat.zero_add] at hSw
          go_simp
          try with_reducible rfl
        simp only [Act.put, List.setIfInBounds_toArray, List.set_cons_zero, List.set_cons_succ]
        refine wpAnyH_take (i := 2) (oi := _) (v := ?_) (by rw [List.getElem?_toArray]; rfl) (by kernel_rfl) (by kernel_rfl) (by kernel_rfl) (by exact fun _ _ _ h => h) (Or.inl ⟨by rfl, ?_⟩) (by assumption) ?_
        rotate_left
        · intro w hSw
          try simp only [Cells, blk, List.cons_append, List.nil_append, and_true, Nat.reduceAdd, Nat.add_zero, Nat.zero_add] at hSw
          go_simp
          try with_reducible rfl
        simp only [Act.put, List.setIfInBounds_toArray, List.set_cons_zero, List.set_cons_succ]
        refine wpAnyH_take (i := 3) (oi := _) (v := ?_) (by rw [List.getElem?_toArray]; rfl) (by kernel_rfl) (by kernel_rfl) (by kernel_rfl) (by exact fun _ _ _ h => h) (Or.inl ⟨by rfl, ?_⟩) (by assumption) ?_
        rotate_left
        · intro w hSw
          try simp only [Cells, blk, List.cons_append, List.nil_append, and_true, Nat.reduceAdd, Nat.add_zero, Nat.zero_add] at hSw
          go_simp
          try with_reducible rfl
        simp only [Act.put, List.setIfInBounds_toArray, List.set_cons_zero, List.set_cons_succ]
        refine wpAnyH_take (i := 4) (oi := _) (v := ?_) (by rw [List.getElem?_toArray]; rfl) (by kernel_rfl) (by kernel_rfl) (by kernel_rfl) (by exact fun _ _ _ h => h) (Or.inl ⟨by rfl, ?_⟩) (by assumption) ?_
        rotate_left
        · intro w hSw
          try simp only [Cells, blk, List.cons_append, List.nil_append, and_true, Nat.reduceAdd, Nat.add_zero, Nat.zero_add] at hSw
          go_simp
          try with_reducible rfl
        simp only [Act.put, List.setIfInBounds_toArray, List.set_cons_zero, List.set_cons_succ]
        refine wpAnyH_take (i := 5) (oi := _) (v := ?_) (by rw [List.getElem?_toArray]; rfl) (by kernel_rfl) (by kernel_rfl) (by kernel_rfl) (by exact fun _ _ _ h => h) (Or.inl ⟨by rfl, ?_⟩) (by assumption) ?_
        rotate_left
        · intro w hSw
          try simp only [Cells, blk, List.cons_append, List.nil_append, and_true, Nat.reduceAdd, Nat.add_zero, Nat.zero_add] at hSw
          go_simp
          try with_reducible rfl
        simp only [Act.put, List.setIfInBounds_toArray, List.set_cons_zero, List.set_cons_succ]
        refine wpAnyH_take (i := 6) (oi := _) (v := ?_) (by rw [List.getElem?_toArray]; rfl) (by kernel_rfl) (by kernel_rfl) (by kernel_rfl) (by exact fun _ _ _ h => h) (Or.inl ⟨by rfl, ?_⟩) (by assumption) ?_
        rotate_left
        · intro w hSw
          try simp only [Cells, blk, List.cons_append, List.nil_append, and_true, Nat.reduceAdd, Nat.add_zero, Nat.zero_add] at hSw
          go_simp
          try with_reducible rfl
        simp only [Act.put, List.setIfInBounds_toArray, List.set_cons_zero, List.set_cons_succ]
        refine wpAnyH_take (i := 7) (oi := _) (v := ?_) (by rw [List.getElem?_toArray]; rfl) (by kernel_rfl) (by kernel_rfl) (by kernel_rfl) (by exact fun _ _ _ h => h) (Or.inl ⟨by rfl, ?_⟩) (by assumption) ?_
        rotate_left
        · intro w hSw
          try simp only [Cells, blk, List.cons_append, List.nil_append, and_true, Nat.reduceAdd, Nat.add_zero, Nat.zero_add] at hSw
          go_simp
          try with_reducible rfl
        simp only [Act.put, List.setIfInBounds_toArray, List.set_cons_zero, List.set_cons_succ]
        refine wpAnyH_take (i := 8) (oi := _) (v := ?_) (by rw [List.getElem?_toArray]; rfl) (by kernel_rfl) (by kernel_rfl) (by kernel_rfl) (by exact fun _ _ _ h => h) (Or.inl ⟨by rfl, ?_⟩) (by assumption) ?_
        rotate_left
        · intro w hSw
          try simp only [Cells, blk, List.cons_append, List.nil_append, and_true, Nat.reduceAdd, Nat.add_zero, Nat.zero_add] at hSw
          go_simp
          try with_reducible rfl
        simp only [Act.put, List.setIfInBounds_toArray, List.set_cons_zero, List.set_cons_succ]
        refine wpAnyH_ready (rs := [9]) (by kernel_rfl) (by simp) (AllReadyH.cons (o := _) (by rw [List.getElem?_toArray]; rfl) (fun K hK => ?_) AllReadyH.nil)
        go_simp
        go_at_call 48
        refine (HC2.out _).mono ?_
        rintro x w3 ⟨rfl, hB3⟩
        have T3 := Cells.keep (T.drew) hB3
        obtain ⟨hr3, hs3⟩ := ST.out w3 hB3
        clear hHeld
        refine hK.out _ _ (T3) (fun hHeld => ?_)
        clear hK K
        try simp only [Act.put, List.setIfInBounds_toArray, List.set_cons_zero, List.set_cons_succ]
        refine wpAnyH_take (i := 10) (oi := _) (v := ?_) (by rw [List.getElem?_toArray]; rfl) (by kernel_rfl) (by kernel_rfl) (by kernel_rfl) (by exact fun _ _ _ h => h) (Or.inl ⟨by rfl, ?_⟩) (by assumption) ?_
        rotate_left
        · intro w hSw
          try simp only [Cells, blk, List.cons_append, List.nil_append, and_true, Nat.reduceAdd, Nat.add_zero, Nat.zero_add] at hSw
          go_simp
          try with_reducible rfl
        simp only [Act.put, List.setIfInBounds_toArray, List.set_cons_zero, List.set_cons_succ]
        refine wpAnyH_done (by kernel_rfl) ?_ _
        clear T T3 hB3
        go_wp2
        have hmh := HMH.out
        refine ⟨⟨h + 1, j, by simp, rfl, by omega, by omega, hje, fun k h1 h2 => ?_, HHI.out, hr3, hs3⟩, ?_⟩
        · by_cases hk : k = h
          · rw [hk]; exact HC1.out.1 hl2
          · exact (HS2.out k h h1 (by omega) (by omega)).lt_left hlt (HC1.out.1 hl2)
        · simp [intOf]
          omega
      · have g2 : decide (c < 0) = false := by simpa using hl2
        have hnl : ¬ lt (p h) (p a) := fun hx => hl2 (HC1.out.2 hx)
        go_wp2_with fail
        refine wp_region_held_drew (S := (fun W' : World => Cells W' (blk b (off + h * 5) 0 [(es (p h)).c0, (es (p h)).c1, (es (p h)).c2, (es (p h)).c3, (es (p h)).c4] ++ blk b (off + a * 5) 0 [(es (p a)).c0, (es (p a)).c1, (es (p a)).c2, (es (p a)).c3, (es (p a)).c4]))) (by kernel_rfl) (T.drew) (fun hHeld => ?_)
        refine wpAnyH_take (i := 0) (oi := _) (v := ?_) (by rw [List.getElem?_toArray]; rfl) (by kernel_rfl) (by kernel_rfl) (by kernel_rfl) (by exact fun _ _ _ h => h) (Or.inl ⟨by rfl, ?_⟩) (by assumption) ?_
        rotate_left
        · intro w hSw
          try simp only [Cells, blk, List.cons_append, List.nil_append, and_true, Nat.reduceAdd, Nat.add_zero, Nat.zero_add] at hSw
          go_simp
          try with_reducible rfl
        simp only [Act.put, List.setIfInBounds_toArray, List.set_cons_zero, List.set_cons_succ]
        refine wpAnyH_take (i := 1) (oi := _) (v := ?_) (by rw [List.getElem?_toArray]; rfl) (by kernel_rfl) (by kernel_rfl) (by kernel_rfl) (by exact fun _ _ _ h => h) (Or.inl ⟨by rfl, ?_⟩) (by assumption) ?_
        rotate_left
        · intro w hSw
          try simp only [Cells, blk, List.cons_append, List.nil_append, and_true, Nat.reduceAdd, Nat.add_zero, Nat.zero_add] at hSw
          go_simp
          try with_reducible rfl
        simp only [Act.put, List.setIfInBounds_toArray, List.set_cons_zero, List.set_cons_succ]
        refine wpAnyH_take (i := 2) (oi := _) (v := ?_) (by rw [List.getElem?_toArray]; rfl) (by kernel_rfl) (by kernel_rfl) (by kernel_rfl) (by exact fun _ _ _ h => h) (Or.inl ⟨by rfl, ?_⟩) (by assumption) ?_
        rotate_left
        · intro w hSw
          try simp only [Cells, blk, List.cons_append, List.nil_append, and_true, Nat.reduceAdd, Nat.add_zero, Nat.zero_add] at hSw
          go_simp
          try with_reducible rfl
        simp only [Act.put, List.setIfInBounds_toArray, List.set_cons_zero, List.set_cons_succ]
        refine wpAnyH_take (i := 3) (oi := _) (v := ?_) (by rw [List.getElem?_toArray]; rfl) (by kernel_rfl) (by kernel_rfl) (by kernel_rfl) (by exact fun _ _ _ h => h) (Or.inl ⟨by rfl, ?_⟩) (by assumption) ?_
        rotate_left
        · intro w hSw
          try simp only [Cells, blk, List.cons_append, List.nil_append, and_true, Nat.reduceAdd, Nat.add_zero, Nat.zero_add] at hSw
          go_simp
          try with_reducible rfl
        simp only [Act.put, List.setIfInBounds_toArray, List.set_cons_zero, List.set_cons_succ]
        refine wpAnyH_take (i := 4) (oi := _) (v := ?_) (by rw [List.getElem?_toArray]; rfl) (by kernel_rfl) (by kernel_rfl) (by kernel_rfl) (by exact fun _ _ _ h => h) (Or.inl ⟨by rfl, ?_⟩) (by assumption) ?_
        rotate_left
        · intro w hSw
          try simp only [Cells, blk, List.cons_append, List.nil_append, and_true, Nat.reduceAdd, Nat.add_zero, Nat.zero_add] at hSw
          go_simp
          try with_reducible rfl
        simp only [Act.put, List.setIfInBounds_toArray, List.set_cons_zero, List.set_cons_succ]
        refine wpAnyH_take (i := 5) (oi := _) (v := ?_) (by rw [List.getElem?_toArray]; rfl) (by kernel_rfl) (by kernel_rfl) (by kernel_rfl) (by exact fun _ _ _ h => h) (Or.inl ⟨by rfl, ?_⟩) (by assumption) ?_
        rotate_left
        · intro w hSw
          try simp only [Cells, blk, List.cons_append, List.nil_append, and_true, Nat.reduceAdd, Nat.add_zero, Nat.zero_add] at hSw
          go_simp
          try with_reducible rfl
        simp only [Act.put, List.setIfInBounds_toArray, List.set_cons_zero, List.set_cons_succ]
        refine wpAnyH_take (i := 6) (oi := _) (v := ?_) (by rw [List.getElem?_toArray]; rfl) (by kernel_rfl) (by kernel_rfl) (by kernel_rfl) (by exact fun _ _ _ h => h) (Or.inl ⟨by rfl, ?_⟩) (by assumption) ?_
        rotate_left
        · intro w hSw
          try simp only [Cells, blk, List.cons_append, List.nil_append, and_true, Nat.reduceAdd, Nat.add_zero, Nat.zero_add] at hSw
          go_simp
          try with_reducible rfl
        simp only [Act.put, List.setIfInBounds_toArray, List.set_cons_zero, List.set_cons_succ]
        refine wpAnyH_take (i := 7) (oi := _) (v := ?_) (by rw [List.getElem?_toArray]; rfl) (by kernel_rfl) (by kernel_rfl) (by kernel_rfl) (by exact fun _ _ _ h => h) (Or.inl ⟨by rfl, ?_⟩) (by assumption) ?_
        rotate_left
        · intro w hSw
          try simp only [Cells, blk, List.cons_append, List.nil_append, and_true, Nat.reduceAdd, Nat.add_zero, Nat.zero_add] at hSw
          go_simp
          try with_reducible rfl
        simp only [Act.put, List.setIfInBounds_toArray, List.set_cons_zero, List.set_cons_succ]
        refine wpAnyH_take (i := 8) (oi := _) (v := ?_) (by rw [List.getElem?_toArray]; rfl) (by kernel_rfl) (by kernel_rfl) (by kernel_rfl) (by exact fun _ _ _ h => h) (Or.inl ⟨by rfl, ?_⟩) (by assumption) ?_
        rotate_left
        · intro w hSw
          try simp only [Cells, blk, List.cons_append, List.nil_append, and_true, Nat.reduceAdd, Nat.add_zero, Nat.zero_add] at hSw
          go_simp
          try with_reducible rfl
        simp only [Act.put, List.setIfInBounds_toArray, List.set_cons_zero, List.set_cons_succ]
        refine wpAnyH_ready (rs := [9]) (by kernel_rfl) (by simp) (AllReadyH.cons (o := _) (by rw [List.getElem?_toArray]; rfl) (fun K hK => ?_) AllReadyH.nil)
        go_simp
        go_at_call 48
        refine (HC2.out _).mono ?_
        rintro x w3 ⟨rfl, hB3⟩
        have T3 := Cells.keep (T.drew) hB3
        obtain ⟨hr3, hs3⟩ := ST.out w3 hB3
        clear hHeld
        refine hK.out _ _ (T3) (fun hHeld => ?_)
        clear hK K
        try simp only [Act.put, List.setIfInBounds_toArray, List.set_cons_zero, List.set_cons_succ]
        refine wpAnyH_take (i := 10) (oi := _) (v := ?_) (by rw [List.getElem?_toArray]; rfl) (by kernel_rfl) (by kernel_rfl) (by kernel_rfl) (by exact fun _ _ _ h => h) (Or.inl ⟨by rfl, ?_⟩) (by assumption) ?_
        rotate_left
        · intro w hSw
          try simp only [Cells, blk, List.cons_append, List.nil_append, and_true, Nat.reduceAdd, Nat.add_zero, Nat.zero_add] at hSw
          go_simp
          try with_reducible rfl
        simp only [Act.put, List.setIfInBounds_toArray, List.set_cons_zero, List.set_cons_succ]
        refine wpAnyH_done (by kernel_rfl) ?_ _
        clear T T3 hB3
        go_wp2
        have hmh := HMH.out
        refine ⟨⟨i, h, rfl, rfl, hmi, by omega, by omega, HLO.out, fun k h1 h2 hx => ?_, hr3, hs3⟩, ?_⟩
        · by_cases hk : k = h
          · rw [hk] at hx; exact hnl hx
          · exact hnl ((HS2.out h k (by omega) (by omega) h2).lt_left hlt hx)
        · simp [intOf]
          omega
    · have e1 : j = i := by omega
      subst e1
      have g1 : decide (j < j) = false := by simp
      obtain ⟨i1, hi1⟩ : ∃ i1, j = i1 + 1 := ⟨j - 1, by have := HONE.out; omega⟩
      have v1 : IntKind.i64.wrap ((j : Int) - 1) = (i1 : Int) := by rw [IntWalk.i64_in _ (by omega)]; omega
      have fin : Srt lt (rot p a (a + 1) j) a e := srt_up (by have := HS2.out; have := HONE.out; subst this; assumption) (fun k h1 h2 => HIDX.out a k (Nat.le_refl _) (by have := HONE.out; omega) (by have := HONE.out; omega) h2) (by have := HONE.out; omega) hje (fun k h1 h2 => hlo k (by have := HONE.out; omega) h2) hhi
      have FIN := Lib.hid fin
      have HI1 := Lib.hid hi1
      have HRI := Lib.hid hri
      have HSW := Lib.hid hsw
      clear hr hlo hhi fin hi1 hri hsw
      go_wp2
      go_loopw [13] (fun vk wr => ∃ k : Nat, vk = .int .i64 k ∧ a ≤ k ∧ k ≤ i1 ∧ Row5 88 wr b off es (rot p a (a + 1) (k + 1)) n ∧ Sw b w wr) (fun vk _ => n - (intOf vk).toNat)
      case atStart => exact ⟨a, rfl, Nat.le_refl _, by have := HI1.out; have := HONE.out; omega, by rw [rot_right]; exact HRI.out, HSW.out⟩
      case round =>
        obtain ⟨k, rfl, hak, hki, hrk, hsk⟩ := hrel
        by_cases hl3 : k < i1
        · have g3 : decide (k < i1) = true := by simpa using hl3
          obtain ⟨k1, hk1⟩ : ∃ k1, k + 1 = k1 := ⟨_, rfl⟩
          have hk1n : k1 < n := by have := HI1.out; omega
          have v2 : IntKind.i64.wrap ((k : Int) + 1) = (k1 : Int) := by rw [IntWalk.i64_in _ (by omega)]; omega
          have hu := rot_up (p := p) hak
          rw [hk1, show k + 2 = k1 + 1 by omega] at hu
          rw [hk1] at hrk
          have hkn : k < n := by have := HI1.out; omega
          have i3 : (k : Int) < (n : Int) := by omega
          have i4 : (k1 : Int) < (n : Int) := by omega
          obtain ⟨q, hq⟩ : ∃ q, rot p a (a + 1) k1 = q := ⟨_, rfl⟩
          rw [hq] at hu hrk
          obtain ⟨f0, f1, f2, f3, f4⟩ := hrk.get hkn
          obtain ⟨k0, kk1, kk2, k3, k4⟩ := hrk.get hk1n
          have z0 := hrk.fz (off + k * 5)
          have y0 := hrk.fz (off + k1 * 5)
          have z1 := hrk.fz (off + k * 5 + 1)
          have y1 := hrk.fz (off + k1 * 5 + 1)
          have z2 := hrk.fz (off + k * 5 + 2)
          have y2 := hrk.fz (off + k1 * 5 + 2)
          have z3 := hrk.fz (off + k * 5 + 3)
          have y3 := hrk.fz (off + k1 * 5 + 3)
          have z4 := hrk.fz (off + k * 5 + 4)
          have y4 := hrk.fz (off + k1 * 5 + 4)
          obtain ⟨o0, o1, o2, o3, o4⟩ := HO.out (q k)
          obtain ⟨r0, r1, r2, r3, r4⟩ := HO.out (q k1)
          have a0 := fun W a m => run_store Tryd.prog W a _ m o0
          have b0 := fun W a m => run_store Tryd.prog W a _ m r0
          have a1 := fun W a m => run_store Tryd.prog W a _ m o1
          have b1 := fun W a m => run_store Tryd.prog W a _ m r1
          have a2 := fun W a m => run_store Tryd.prog W a _ m o2
          have b2 := fun W a m => run_store Tryd.prog W a _ m r2
          have a3 := fun W a m => run_store Tryd.prog W a _ m o3
          have b3 := fun W a m => run_store Tryd.prog W a _ m r3
          have a4 := fun W a m => run_store Tryd.prog W a _ m o4
          have b4 := fun W a m => run_store Tryd.prog W a _ m r4
          have hne : ¬ k = k1 := by omega
          have hne2 : ¬ k1 = k := by omega
          have HU := Lib.hid hu
          have HRK := Lib.hid hrk
          have HSK := Lib.hid hsk
          have HK1 := Lib.hid hk1
          clear hu hrk hsk hq hk1
          go_wp2
          go_region
          all_goals go_wp2
          obtain ⟨r1, s1⟩ := HRK.out.put hkn (q k1)
          obtain ⟨r2, s2⟩ := r1.put hk1n (q k)
          rw [upd_swp hne, HU.out] at r2
          have hk1 := HK1.out
          refine ⟨⟨k1, rfl, by omega, by omega, r2.drew, (HSK.out.trans (s1.trans s2)).drew⟩, ?_⟩
          simp [intOf]
          omega
        · have g3 : decide (k < i1) = false := by simpa using hl3
          have e2 : k = i1 := by omega
          subst e2
          rw [← HI1.out] at hrk
          go_wp2
          refine bodyPost_ret (results_none rfl _ _ _) rfl ?_
          exact ⟨rfl, _, hrk, (mem_rot (by omega) (by have := HONE.out; omega)).wide (Nat.le_refl _) hje, FIN.out, hsk⟩
end Go.Proofs.YtccknpdnapoboaaDoor
namespace Go.Proofs.YtccknpdnapoboaaDoor
open Go.RowKit

set_option linter.unusedSimpArgs false in
set_option linter.unusedVariables false in
set_option maxRecDepth 100000 in
set_option maxHeartbeats 4000000 in
theorem Tx_sym2 (es : Nat → El) (p : Nat → Nat) (b off n cap : Nat) (w : World) (hr : Row5 88 w b off es p n) (hn : n ≤ 1099511627776) (ho : ∀ x, (es x).one) (lt : Nat → Nat → Prop) (hlt : Swo lt) (hc : CmpOk Tryd.prog 48 lt es n) (hp : ∀ k, k < n → p k < n) (a m e : Nat) (ham : a < m) (hme : m < e) (hen : e ≤ n) (hs1 : Srt lt p a m) (hs2 : Srt lt p m e) (hidx : ∀ i j, a ≤ i → i < m → m ≤ j → j < e → p i < p j) (hno : a + 1 < m) (hone : e = m + 1) :
    Calls Tryd.prog 73 #[.slice (some ⟨b, off, none⟩) n cap, .int .i64 a, .int .i64 m, .int .i64 e, .func (.func 48) #[] #[]] w
      fun x w' => x = .returned (.tuple #[]) ∧ ∃ p', Row5 88 w' b off es p' n ∧ Mem p p' a e ∧ Srt lt p' a e ∧ Sw b w w' := by
  obtain ⟨d, hd⟩ : ∃ d, m - a = d := ⟨_, rfl⟩
  have w1 : IntKind.i64.wrap ((m : Int) - (a : Int)) = (d : Int) := by rw [IntWalk.i64_in _ (by omega)]; omega
  have w2 : IntKind.i64.wrap ((e : Int) - (m : Int)) = 1 := by rw [IntWalk.i64_in _ (by omega)]; omega
  have hd1 : ((d : Int) == 1) = false := by simp; omega
  have HC := Lib.hid hc
  have HO := Lib.hid ho
  have HP := Lib.hid hp
  have HIDX := Lib.hid hidx
  have HS1 := Lib.hid hs1
  have HONE := Lib.hid hone
  clear hc hp hidx ho hs1 hs2 hone hd
  go_enter Tryd.func73, Tryd.ntmps73
  go_wp2

  go_loopw [14, 15] (fun vi vj wr => ∃ i j : Nat, vi = .int .i64 i ∧ vj = .int .i64 j ∧ a ≤ i ∧ i ≤ j ∧ j ≤ m ∧ (∀ k, a ≤ k → k < i → ¬ lt (p m) (p k)) ∧ (∀ k, j ≤ k → k < m → lt (p m) (p k)) ∧ Row5 88 wr b off es p n ∧ Sw b w wr) (fun vi vj _ => (intOf vj).toNat - (intOf vi).toNat)
  case atStart => exact ⟨a, m, rfl, rfl, Nat.le_refl _, by omega, Nat.le_refl _, fun k h1 h2 => by omega, fun k h1 h2 => by omega, hr, Sw.refl _ _⟩
  case round =>
    obtain ⟨i, j, rfl, rfl, hmi, hij, hje, hlo, hhi, hri, hsw⟩ := hrel
    by_cases hl : i < j
    · have g1 : decide (i < j) = true := by simpa using hl
      obtain ⟨h, hh⟩ : ∃ h, (i + j) / 2 = h := ⟨_, rfl⟩
      obtain ⟨v1, v2⟩ := half_facts i j (by omega)
      obtain ⟨s, hs⟩ : ∃ s, i + j = s := ⟨_, rfl⟩
      rw [hs] at v1 v2
      have v3 : (s : Int) / 2 = (h : Int) := by omega
      have v4 : IntKind.i64.wrap ((h : Int) + 1) = (h : Int) + 1 := IntWalk.i64_in _ (by omega)
      have hhn : h < n := by omega
      have hmn : m < n := by omega
      obtain ⟨c, hc1, hc2⟩ := HC.out (p m) (p h) (HP.out m hmn) (HP.out h hhn)
      have T := (hri.cells hmn).app (hri.cells hhn)
      have st : ∀ w3, Below wr.drew.heap.size wr.drew w3 → Row5 88 w3 b off es p n ∧ Sw b w w3 := fun w3 hB3 =>
        ⟨hri.drew.below hB3, hsw.trans (((Sw.refl b wr).drew).trans (Sw.of_below hB3 (Nat.le_of_lt hri.lt)))⟩
      have i1 : (h : Int) < (n : Int) := by omega
      have i2 : (m : Int) < (n : Int) := by omega
      have hmh : a ≤ h ∧ i ≤ h ∧ h < j := by omega
      have ST := Lib.hid st
      have HC1 := Lib.hid hc1
      have HC2 := Lib.hid hc2
      have HLO := Lib.hid hlo
      have HHI := Lib.hid hhi
      have HMH := Lib.hid hmh
      clear hr st hc1 hc2 hlo hhi hri hsw hh hs hmh
      by_cases hl2 : c < 0
      · have g2 : decide (c < 0) = true := by simpa using hl2
        have hlt2 : lt (p m) (p h) := HC1.out.1 hl2
        go_wp2_with fail
        refine wp_region_held_drew (S := (fun W' : World => Cells W' (blk b (off + m * 5) 0 [(es (p m)).c0, (es (p m)).c1, (es (p m)).c2, (es (p m)).c3, (es (p m)).c4] ++ blk b (off + h * 5) 0 [(es (p h)).c0, (es (p h)).c1, (es (p h)).c2, (es (p h)).c3, (es (p h)).c4]))) (by kernel_rfl) (T.drew) (fun hHeld => ?_)
        refine wpAnyH_take (i := 0) (oi := _) (v := ?_) (by rw [List.getElem?_toArray]; rfl) (by kernel_rfl) (by kernel_rfl) (by kernel_rfl) (by exact fun _ _ _ h => h) (Or.inl ⟨by rfl, ?_⟩) (by assumption) ?_
        rotate_left
        · intro w hSw
          try simp only [Cells, blk, List.cons_append, List.nil_append, and_true, Nat.reduceAdd, Nat.add_zero, Nat.zero_add] at hSw
          go_simp
          try with_reducible rfl
        simp only [Act.put, List.setIfInBounds_toArray, List.set_cons_zero, List.set_cons_succ]
        refine wpAnyH_take (i := 1) (oi := _) (v := ?_) (by rw [List.getElem?_toArray]; rfl) (by kernel_rfl) (by kernel_rfl) (by kernel_rfl) (by exact fun _ _ _ h => h) (Or.inl ⟨by rfl, ?_⟩) (by assumption) ?_
        rotate_left
        · intro w hSw
          try simp only [Cells, blk, List.cons_append, List.nil_append, and_true, Nat.reduceAdd, Nat.add_zero, Nat.zero_add] at hSw
          go_simp
          try with_reducible rfl
        simp only [Act.put, List.setIfInBounds_toArray, List.set_cons_zero, List.set_cons_succ]
        refine wpAnyH_take (i := 2) (oi := _) (v := ?_) (by rw [List.getElem?_toArray]; rfl) (by kernel_rfl) (by kernel_rfl) (by kernel_rfl) (by exact fun _ _ _ h => h) (Or.inl ⟨by rfl, ?_⟩) (by assumption) ?_
        rotate_left
        · intro w hSw
          try simp only [Cells, blk, List.cons_append, List.nil_append, and_true, Nat.reduceAdd, Nat.add_zero, Nat.zero_add] at hSw
          go_simp
          try with_reducible rfl
        simp only [Act.put, List.setIfInBounds_toArray, List.set_cons_zero, List.set_cons_succ]
        refine wpAnyH_take (i := 3) (oi := _) (v := ?_) (by rw [List.getElem?_toArray]; rfl) (by kernel_rfl) (by kernel_rfl) (by kernel_rfl) (by exact fun _ _ _ h => h) (Or.inl ⟨by rfl, ?_⟩) (by assumption) ?_
        rotate_left
        · intro w hSw
          try simp only [Cells, blk, List.cons_append, List.nil_append, and_true, Nat.reduceAdd, Nat.add_zero, Nat.zero_add] at hSw
          go_simp
          try with_reducible rfl
        simp only [Act.put, List.setIfInBounds_toArray, List.set_cons_zero, List.set_cons_succ]
        refine wpAnyH_take (i := 4) (oi := _) (v := ?_) (by rw [List.getElem?_toArray]; rfl) (by kernel_rfl) (by kernel_rfl) (by kernel_rfl) (by exact fun _ _ _ h => h) (Or.inl ⟨by rfl, ?_⟩) (by assumption) ?_
        rotate_left
        · intro w hSw
          try simp only [Cells, blk, List.cons_append, List.nil_append, and_true, Nat.reduceAdd, Nat.add_zero, Nat.zero_add] at hSw
          go_simp
          try with_reducible rfl
        simp only [Act.put, List.setIfInBounds_toArray, List.set_cons_zero, List.set_cons_succ]
        refine wpAnyH_take (i := 5) (oi := _) (v := ?_) (by rw [List.getElem?_toArray]; rfl) (by kernel_rfl) (by kernel_rfl) (by kernel_rfl) (by exact fun _ _ _ h => h) (Or.inl ⟨by rfl, ?_⟩) (by assumption) ?_
        rotate_left
        · intro w hSw
          try simp only [Cells, blk, List.cons_append, List.nil_append, and_true, Nat.reduceAdd, Nat.add_zero, Nat.zero_add] at hSw
          go_simp
          try with_reducible rfl
        simp only [Act.put, List.setIfInBounds_toArray, List.set_cons_zero, List.set_cons_succ]
        refine wpAnyH_take (i := 6) (oi := _) (v := ?_) (by rw [List.getElem?_toArray]; rfl) (by kernel_rfl) (by kernel_rfl) (by kernel_rfl) (by exact fun _ _ _ h => h) (Or.inl ⟨by rfl, ?_⟩) (by assumption) ?_
        rotate_left
        · intro w hSw
          try simp only [Cells, blk, List.cons_append, List.nil_append, and_true, Nat.reduceAdd, Nat.add_zero, Nat.zero_add] at hSw
          go_simp
          try with_reducible rfl
        simp only [Act.put, List.setIfInBounds_toArray, List.set_cons_zero, List.set_cons_succ]
        refine wpAnyH_take (i := 7) (oi := _) (v := ?_) (by rw [List.getElem?_toArray]; rfl) (by kernel_rfl) (by kernel_rfl) (by kernel_rfl) (by exact fun _ _ _ h => h) (Or.inl ⟨by rfl, ?_⟩) (by assumption) ?_
        rotate_left
        · intro w hSw
          try simp only [Cells, blk, List.cons_append, List.nil_append, and_true, Nat.reduceAdd, Nat.add_zero, Nat.zero_add] at hSw
          go_simp
          try with_reducible rfl
        simp only [Act.put, List.setIfInBounds_toArray, List.set_cons_zero, List.set_cons_succ]
        refine wpAnyH_take (i := 8) (oi := _) (v := ?_) (by rw [List.getElem?_toArray]; rfl) (by kernel_rfl) (by kernel_rfl) (by kernel_rfl) (by exact fun _ _ _ h => h) (Or.inl ⟨by rfl, ?_⟩) (by assumption) ?_
        rotate_left
        · intro w hSw
          try simp only [Cells, blk, List.cons_append, List.nil_append, and_true, Nat.reduceAdd, Nat.add_zero, Nat.zero_add] at hSw
          go_simp
          try with_reducible rfl
        simp only [Act.put, List.setIfInBounds_toArray, List.set_cons_zero, List.set_cons_succ]
        refine wpAnyH_ready (rs := [9]) (by kernel_rfl) (by simp) (AllReadyH.cons (o := _) (by rw [List.getElem?_toArray]; rfl) (fun K hK => ?_) AllReadyH.nil)
        go_simp
        go_at_call 48
        refine (HC2.out _).mono ?_
        rintro x w3 ⟨rfl, hB3⟩
        have T3 := Cells.keep (T.drew) hB3
        obtain ⟨hr3, hs3⟩ := ST.out w3 hB3
        clear hHeld
        refine hK.out _ _ (T3) (fun hHeld => ?_)
        clear hK K
        try simp only [Act.put, List.setIfInBounds_toArray, List.set_cons_zero, List.set_cons_succ]
        refine wpAnyH_take (i := 10) (oi := _) (v := ?_) (by rw [List.getElem?_toArray]; rfl) (by kernel_rfl) (by kernel_rfl) (by kernel_rfl) (by exact fun _ _ _ h => h) (Or.inl ⟨by rfl, ?_⟩) (by assumption) ?_
        rotate_left
        · intro w hSw
          try simp only [Cells, blk, List.cons_append, List.nil_append, and_true, Nat.reduceAdd, Nat.add_zero, Nat.zero_add] at hSw
          go_simp
          try with_reducible rfl
        simp only [Act.put, List.setIfInBounds_toArray, List.set_cons_zero, List.set_cons_succ]
        refine wpAnyH_take (i := 11) (oi := _) (v := ?_) (by rw [List.getElem?_toArray]; rfl) (by kernel_rfl) (by kernel_rfl) (by kernel_rfl) (by exact fun _ _ _ h => h) (Or.inl ⟨by rfl, ?_⟩) (by assumption) ?_
        rotate_left
        · intro w hSw
          try simp only [Cells, blk, List.cons_append, List.nil_append, and_true, Nat.reduceAdd, Nat.add_zero, Nat.zero_add] at hSw
          go_simp
          try with_reducible rfl
        simp only [Act.put, List.setIfInBounds_toArray, List.set_cons_zero, List.set_cons_succ]
        refine wpAnyH_done (by kernel_rfl) ?_ _
        clear T T3 hB3
        go_wp2
        have hmh := HMH.out
        refine ⟨⟨i, h, rfl, rfl, hmi, by omega, by omega, HLO.out, fun k h1 h2 => ?_, hr3, hs3⟩, ?_⟩
        · by_cases hk : k = h
          · rw [hk]; exact hlt2
          · exact Lx.lt_right hlt hlt2 (HS1.out h k (by omega) (by omega) h2)
        · simp [intOf]
          omega
      · have g2 : decide (c < 0) = false := by simpa using hl2
        have hnl : ¬ lt (p m) (p h) := fun hx => hl2 (HC1.out.2 hx)
        go_wp2_with fail
        refine wp_region_held_drew (S := (fun W' : World => Cells W' (blk b (off + m * 5) 0 [(es (p m)).c0, (es (p m)).c1, (es (p m)).c2, (es (p m)).c3, (es (p m)).c4] ++ blk b (off + h * 5) 0 [(es (p h)).c0, (es (p h)).c1, (es (p h)).c2, (es (p h)).c3, (es (p h)).c4]))) (by kernel_rfl) (T.drew) (fun hHeld => ?_)
        refine wpAnyH_take (i := 0) (oi := _) (v := ?_) (by rw [List.getElem?_toArray]; rfl) (by kernel_rfl) (by kernel_rfl) (by kernel_rfl) (by exact fun _ _ _ h => h) (Or.inl ⟨by rfl, ?_⟩) (by assumption) ?_
        rotate_left
        · intro w hSw
          try simp only [Cells, blk, List.cons_append, List.nil_append, and_true, Nat.reduceAdd, Nat.add_zero, Nat.zero_add] at hSw
          go_simp
          try with_reducible rfl
        simp only [Act.put, List.setIfInBounds_toArray, List.set_cons_zero, List.set_cons_succ]
        refine wpAnyH_take (i := 1) (oi := _) (v := ?_) (by rw [List.getElem?_toArray]; rfl) (by kernel_rfl) (by kernel_rfl) (by kernel_rfl) (by exact fun _ _ _ h => h) (Or.inl ⟨by rfl, ?_⟩) (by assumption) ?_
        rotate_left
        · intro w hSw
          try simp only [Cells, blk, List.cons_append, List.nil_append, and_true, Nat.reduceAdd, Nat.add_zero, Nat.zero_add] at hSw
          go_simp
          try with_reducible rfl
        simp only [Act.put, List.setIfInBounds_toArray, List.set_cons_zero, List.set_cons_succ]
        refine wpAnyH_take (i := 2) (oi := _) (v := ?_) (by rw [List.getElem?_toArray]; rfl) (by kernel_rfl) (by kernel_rfl) (by kernel_rfl) (by exact fun _ _ _ h => h) (Or.inl ⟨by rfl, ?_⟩) (by assumption) ?_
        rotate_left
        · intro w hSw
          try simp only [Cells, blk, List.cons_append, List.nil_append, and_true, Nat.reduceAdd, Nat.add_zero, Nat.zero_add] at hSw
          go_simp
          try with_reducible rfl
        simp only [Act.put, List.setIfInBounds_toArray, List.set_cons_zero, List.set_cons_succ]
        refine wpAnyH_take (i := 3) (oi := _) (v := ?_) (by rw [List.getElem?_toArray]; rfl) (by kernel_rfl) (by kernel_rfl) (by kernel_rfl) (by exact fun _ _ _ h => h) (Or.inl ⟨by rfl, ?_⟩) (by assumption) ?_
        rotate_left
        · intro w hSw
          try simp only [Cells, blk, List.cons_append, List.nil_append, and_true, Nat.reduceAdd, Nat.add_zero, Nat.zero_add] at hSw
          go_simp
          try with_reducible rfl
        simp only [Act.put, List.setIfInBounds_toArray, List.set_cons_zero, List.set_cons_succ]
        refine wpAnyH_take (i := 4) (oi := _) (v := ?_) (by rw [List.getElem?_toArray]; rfl) (by kernel_rfl) (by kernel_rfl) (by kernel_rfl) (by exact fun _ _ _ h => h) (Or.inl ⟨by rfl, ?_⟩) (by assumption) ?_
        rotate_left
        · intro w hSw
          try simp only [Cells, blk, List.cons_append, List.nil_append, and_true, Nat.reduceAdd, Nat.add_zero, Nat.zero_add] at hSw
          go_simp
          try with_reducible rfl
        simp only [Act.put, List.setIfInBounds_toArray, List.set_cons_zero, List.set_cons_succ]
        refine wpAnyH_take (i := 5) (oi := _) (v := ?_) (by rw [List.getElem?_toArray]; rfl) (by kernel_rfl) (by kernel_rfl) (by kernel_rfl) (by exact fun _ _ _ h => h) (Or.inl ⟨by rfl, ?_⟩) (by assumption) ?_
        rotate_left
        · intro w hSw
          try simp only [Cells, blk, List.cons_append, List.nil_append, and_true, Nat.reduceAdd, Nat.add_zero, Nat.zero_add] at hSw
          go_simp
          try with_reducible rfl
        simp only [Act.put, List.setIfInBounds_toArray, List.set_cons_zero, List.set_cons_succ]
        refine wpAnyH_take (i := 6) (oi := _) (v := ?_) (by rw [List.getElem?_toArray]; rfl) (by kernel_rfl) (by kernel_rfl) (by kernel_rfl) (by exact fun _ _ _ h => h) (Or.inl ⟨by rfl, ?_⟩) (by assumption) ?_
        rotate_left
        · intro w hSw
          try simp only [Cells, blk, List.cons_append, List.nil_append, and_true, Nat.reduceAdd, Nat.add_zero, Nat.zero_add] at hSw
          go_simp
          try with_reducible rfl
        simp only [Act.put, List.setIfInBounds_toArray, List.set_cons_zero, List.set_cons_succ]
        refine wpAnyH_take (i := 7) (oi := _) (v := ?_) (by rw [List.getElem?_toArray]; rfl) (by kernel_rfl) (by kernel_rfl) (by kernel_rfl) (by exact fun _ _ _ h => h) (Or.inl ⟨by rfl, ?_⟩) (by assumption) ?_
        rotate_left
        · intro w hSw
          try simp only [Cells, blk, List.cons_append, List.nil_append, and_true, Nat.reduceAdd, Nat.add_zero, Nat.zero_add] at hSw
          go_simp
          try with_reducible rfl
        simp only [Act.put, List.setIfInBounds_toArray, List.set_cons_zero, List.set_cons_succ]
        refine wpAnyH_take (i := 8) (oi := _) (v := ?_) (by rw [List.getElem?_toArray]; rfl) (by kernel_rfl) (by kernel_rfl) (by kernel_rfl) (by exact fun _ _ _ h => h) (Or.inl ⟨by rfl, ?_⟩) (by assumption) ?_
        rotate_left
        · intro w hSw
          try simp only [Cells, blk, List.cons_append, List.nil_append, and_true, Nat.reduceAdd, Nat.add_zero, Nat.zero_add] at hSw
          go_simp
          try with_reducible rfl
        simp only [Act.put, List.setIfInBounds_toArray, List.set_cons_zero, List.set_cons_succ]
        refine wpAnyH_ready (rs := [9]) (by kernel_rfl) (by simp) (AllReadyH.cons (o := _) (by rw [List.getElem?_toArray]; rfl) (fun K hK => ?_) AllReadyH.nil)
        go_simp
        go_at_call 48
        refine (HC2.out _).mono ?_
        rintro x w3 ⟨rfl, hB3⟩
        have T3 := Cells.keep (T.drew) hB3
        obtain ⟨hr3, hs3⟩ := ST.out w3 hB3
        clear hHeld
        refine hK.out _ _ (T3) (fun hHeld => ?_)
        clear hK K
        try simp only [Act.put, List.setIfInBounds_toArray, List.set_cons_zero, List.set_cons_succ]
        refine wpAnyH_take (i := 10) (oi := _) (v := ?_) (by rw [List.getElem?_toArray]; rfl) (by kernel_rfl) (by kernel_rfl) (by kernel_rfl) (by exact fun _ _ _ h => h) (Or.inl ⟨by rfl, ?_⟩) (by assumption) ?_
        rotate_left
        · intro w hSw
          try simp only [Cells, blk, List.cons_append, List.nil_append, and_true, Nat.reduceAdd, Nat.add_zero, Nat.zero_add] at hSw
          go_simp
          try with_reducible rfl
        simp only [Act.put, List.setIfInBounds_toArray, List.set_cons_zero, List.set_cons_succ]
        refine wpAnyH_take (i := 11) (oi := _) (v := ?_) (by rw [List.getElem?_toArray]; rfl) (by kernel_rfl) (by kernel_rfl) (by kernel_rfl) (by exact fun _ _ _ h => h) (Or.inl ⟨by rfl, ?_⟩) (by assumption) ?_
        rotate_left
        · intro w hSw
          try simp only [Cells, blk, List.cons_append, List.nil_append, and_true, Nat.reduceAdd, Nat.add_zero, Nat.zero_add] at hSw
          go_simp
          try with_reducible rfl
        simp only [Act.put, List.setIfInBounds_toArray, List.set_cons_zero, List.set_cons_succ]
        refine wpAnyH_done (by kernel_rfl) ?_ _
        clear T T3 hB3
        go_wp2
        have hmh := HMH.out
        refine ⟨⟨h + 1, j, by simp, rfl, by omega, by omega, hje, fun k h1 h2 hx => ?_, HHI.out, hr3, hs3⟩, ?_⟩
        · by_cases hk : k = h
          · rw [hk] at hx; exact hnl hx
          · exact hnl (Lx.lt_right hlt hx (HS1.out k h h1 (by omega) (by omega)))
        · simp [intOf]
          omega
    · have e1 : j = i := by omega
      subst e1
      have g1 : decide (j < j) = false := by simp
      have fin : Srt lt (rot p j m (m + 1)) a e := by
        have h1 := HONE.out
        rw [h1]
        exact srt_last hlt HS1.out (fun k h2 h3 => HIDX.out k m h2 h3 (Nat.le_refl _) (by omega)) hmi hje hlo hhi
      have FIN := Lib.hid fin
      have HRI := Lib.hid hri
      have HSW := Lib.hid hsw
      clear hr hlo hhi fin hri hsw
      go_wp2
      go_loopw [17] (fun vk wr => ∃ k : Nat, vk = .int .i64 k ∧ j ≤ k ∧ k ≤ m ∧ Row5 88 wr b off es (rot p k m (m + 1)) n ∧ Sw b w wr) (fun vk _ => (intOf vk).toNat)
      case atStart => exact ⟨m, rfl, hje, Nat.le_refl _, by rw [rot_left]; exact HRI.out, HSW.out⟩
      case round =>
        obtain ⟨k, rfl, hjk, hkm, hrk, hsk⟩ := hrel
        by_cases hl3 : j < k
        · have g3 : decide (j < k) = true := by simpa using hl3
          obtain ⟨k1, hk1⟩ : ∃ k1, k = k1 + 1 := ⟨k - 1, by omega⟩
          have hkn : k < n := by omega
          have hk1n : k1 < n := by omega
          have v2 : IntKind.i64.wrap ((k : Int) - 1) = (k1 : Int) := by rw [IntWalk.i64_in _ (by omega)]; omega
          have hu := rot_down (p := p) (i := m) (j := k) (by omega) hkm
          rw [show k - 1 = k1 by omega] at hu
          have i3 : (k : Int) < (n : Int) := by omega
          have i4 : (k1 : Int) < (n : Int) := by omega
          obtain ⟨q, hq⟩ : ∃ q, rot p k m (m + 1) = q := ⟨_, rfl⟩
          rw [hq] at hu hrk
          obtain ⟨f0, f1, f2, f3, f4⟩ := hrk.get hkn
          obtain ⟨k0, kk1, kk2, k3, k4⟩ := hrk.get hk1n
          have z0 := hrk.fz (off + k * 5)
          have y0 := hrk.fz (off + k1 * 5)
          have z1 := hrk.fz (off + k * 5 + 1)
          have y1 := hrk.fz (off + k1 * 5 + 1)
          have z2 := hrk.fz (off + k * 5 + 2)
          have y2 := hrk.fz (off + k1 * 5 + 2)
          have z3 := hrk.fz (off + k * 5 + 3)
          have y3 := hrk.fz (off + k1 * 5 + 3)
          have z4 := hrk.fz (off + k * 5 + 4)
          have y4 := hrk.fz (off + k1 * 5 + 4)
          obtain ⟨o0, o1, o2, o3, o4⟩ := HO.out (q k)
          obtain ⟨r0, r1, r2, r3, r4⟩ := HO.out (q k1)
          have a0 := fun W a m => run_store Tryd.prog W a _ m o0
          have b0 := fun W a m => run_store Tryd.prog W a _ m r0
          have a1 := fun W a m => run_store Tryd.prog W a _ m o1
          have b1 := fun W a m => run_store Tryd.prog W a _ m r1
          have a2 := fun W a m => run_store Tryd.prog W a _ m o2
          have b2 := fun W a m => run_store Tryd.prog W a _ m r2
          have a3 := fun W a m => run_store Tryd.prog W a _ m o3
          have b3 := fun W a m => run_store Tryd.prog W a _ m r3
          have a4 := fun W a m => run_store Tryd.prog W a _ m o4
          have b4 := fun W a m => run_store Tryd.prog W a _ m r4
          have hne : ¬ k = k1 := by omega
          have hne2 : ¬ k1 = k := by omega
          have HU := Lib.hid hu
          have HRK := Lib.hid hrk
          have HSK := Lib.hid hsk
          have HK1 := Lib.hid hk1
          clear hu hrk hsk hq hk1
          go_wp2
          go_region
          all_goals go_wp2
          obtain ⟨r1, s1⟩ := HRK.out.put hkn (q k1)
          obtain ⟨r2, s2⟩ := r1.put hk1n (q k)
          rw [upd_swp hne, HU.out] at r2
          have hk1 := HK1.out
          refine ⟨⟨k1, rfl, by omega, by omega, r2.drew, (HSK.out.trans (s1.trans s2)).drew⟩, ?_⟩
          simp [intOf]
          omega
        · have g3 : decide (j < k) = false := by simpa using hl3
          have e2 : k = j := by omega
          subst e2
          go_wp2
          refine bodyPost_ret (results_none rfl _ _ _) rfl ?_
          exact ⟨rfl, _, hrk, (mem_rot (by omega) (by omega)).wide hmi (by have := HONE.out; omega), FIN.out, hsk⟩
end Go.Proofs.YtccknpdnapoboaaDoor
namespace Go.Proofs.YtccknpdnapoboaaDoor
open Go.RowKit

theorem sym_done {lt : Nat → Nat → Prop} {p q0 q1 q2 : Nat → Nat} {a mid e : Nat} (h0 : Mem p q0 a e) (hc : ∀ i j, a ≤ i → i < mid → mid ≤ j → j < e → Lx lt (q0 i) (q0 j)) (h1 : Mem q0 q1 a mid) (s1 : Srt lt q1 a mid)
    (h2 : Mem q1 q2 mid e) (s2 : Srt lt q2 mid e) (hm1 : a ≤ mid) (hm2 : mid ≤ e) : Mem p q2 a e ∧ Srt lt q2 a e := by
  refine ⟨(h0.trans (h1.wide (Nat.le_refl _) hm2)).trans (h2.wide hm1 (Nat.le_refl _)), Srt.join (s1.congr fun k l1 l2 => h2.out k (.inl l2)) s2 fun i j l1 l2 l3 l4 => ?_⟩
  rw [h2.out i (.inl l2)]
  obtain ⟨j', m1, m2, e2⟩ := h2.from' j l3 l4
  obtain ⟨i', n1, n2, e1⟩ := h1.from' i l1 l2
  rw [e2, e1, h1.out j' (.inr m1)]
  exact hc i' j' n1 n2 m1 m2
set_option linter.unusedSimpArgs false in
set_option linter.unusedVariables false in
set_option maxRecDepth 100000 in
set_option maxHeartbeats 8000000 in
theorem Tx_sym3 (es : Nat → El) (p : Nat → Nat) (b off n cap : Nat) (w : World) (hr : Row5 88 w b off es p n) (hn : n ≤ 1099511627776) (ho : ∀ x, (es x).one) (lt : Nat → Nat → Prop) (hlt : Swo lt) (hc : CmpOk Tryd.prog 48 lt es n) (hp : ∀ k, k < n → p k < n) (a m e : Nat) (ham : a < m) (hme : m < e) (hen : e ≤ n) (hs1 : Srt lt p a m) (hs2 : Srt lt p m e) (hidx : ∀ i j, a ≤ i → i < m → m ≤ j → j < e → p i < p j) (hno : a + 1 < m) (hno2 : m + 1 < e)
    (ih : ∀ (p : Nat → Nat) (w : World), Row5 88 w b off es p n → (∀ k, k < n → p k < n) → ∀ a' m' e', a' < m' → m' < e' → e' ≤ n → e' - a' < e - a → Srt lt p a' m' → Srt lt p m' e' → (∀ i j, a' ≤ i → i < m' → m' ≤ j → j < e' → p i < p j) →
      Calls Tryd.prog 73 #[.slice (some ⟨b, off, none⟩) n cap, .int .i64 a', .int .i64 m', .int .i64 e', .func (.func 48) #[] #[]] w
        fun x w' => x = .returned (.tuple #[]) ∧ ∃ p', Row5 88 w' b off es p' n ∧ Mem p p' a' e' ∧ Srt lt p' a' e' ∧ Sw b w w') :
    Calls Tryd.prog 73 #[.slice (some ⟨b, off, none⟩) n cap, .int .i64 a, .int .i64 m, .int .i64 e, .func (.func 48) #[] #[]] w
      fun x w' => x = .returned (.tuple #[]) ∧ ∃ p', Row5 88 w' b off es p' n ∧ Mem p p' a e ∧ Srt lt p' a e ∧ Sw b w w' := by
  obtain ⟨d, hd⟩ : ∃ d, m - a = d := ⟨_, rfl⟩
  obtain ⟨d2, hd2⟩ : ∃ d, e - m = d := ⟨_, rfl⟩
  have w1 : IntKind.i64.wrap ((m : Int) - (a : Int)) = (d : Int) := by rw [IntWalk.i64_in _ (by omega)]; omega
  have w2 : IntKind.i64.wrap ((e : Int) - (m : Int)) = (d2 : Int) := by rw [IntWalk.i64_in _ (by omega)]; omega
  have hd1 : ((d : Int) == 1) = false := by simp; omega
  have hd3 : ((d2 : Int) == 1) = false := by simp; omega
  obtain ⟨mid, hmid⟩ : ∃ h, (a + e) / 2 = h := ⟨_, rfl⟩
  obtain ⟨w3, w4⟩ := half_facts a e (by omega)
  obtain ⟨s, hs⟩ : ∃ s, a + e = s := ⟨_, rfl⟩
  rw [hs] at w3 w4
  have w5 : (s : Int) / 2 = (mid : Int) := by omega
  obtain ⟨nn, hnn⟩ : ∃ k, mid + m = k := ⟨_, rfl⟩
  have w6 : IntKind.i64.wrap ((mid : Int) + (m : Int)) = (nn : Int) := by rw [IntWalk.i64_in _ (by omega)]; omega
  obtain ⟨pp, hpp⟩ : ∃ k, nn - 1 = k := ⟨_, rfl⟩
  have w7 : IntKind.i64.wrap ((nn : Int) - 1) = (pp : Int) := by rw [IntWalk.i64_in _ (by omega)]; omega
  have HC := Lib.hid hc
  have HO := Lib.hid ho
  have HP := Lib.hid hp
  have HIDX := Lib.hid hidx
  have HS1 := Lib.hid hs1
  have HS2 := Lib.hid hs2
  have HR := Lib.hid hr
  have IH := Lib.hid ih
  have HNN := Lib.hid hnn
  have hb1 : mid < e := by omega
  have hb2 : nn < 4398046511104 := by omega
  have hb3 : pp < 4398046511104 := by omega
  clear hc hp hidx ho hs1 hs2 ih hr
  go_enter Tryd.func73, Tryd.ntmps73
  by_cases hgt : mid < m
  · have g0 : decide (mid < m) = true := by simpa using hgt
    obtain ⟨s0, hs0⟩ : ∃ k, nn - e = k := ⟨_, rfl⟩
    have w8 : IntKind.i64.wrap ((nn : Int) - (e : Int)) = (s0 : Int) := by rw [IntWalk.i64_in _ (by omega)]; omega
    have H0 := Lib.hid (show a ≤ s0 ∧ s0 ≤ mid ∧ mid ≤ m ∧ mid ≤ mid ∧ (nn = mid + m ∧ pp = nn - 1 ∧ nn - s0 ≤ e ∧ a < mid ∧ mid < e) ∧ (s0 = a ∨ nn - s0 = e) ∧ (mid = m ∨ nn - mid = m) by omega)
    clear hd hd2 hs hnn hpp hs0 hmid
    go_wp2
    go_loopw [20, 21] (fun vs vr wr => ∃ x y : Nat, vs = .int .i64 x ∧ vr = .int .i64 y ∧ s0 ≤ x ∧ x ≤ y ∧ y ≤ mid ∧ (x = s0 ∨ ¬ lt (p (nn - x)) (p (x - 1))) ∧ (y = mid ∨ lt (p (nn - 1 - y)) (p y)) ∧ Row5 88 wr b off es p n ∧ Sw b w wr) (fun vs vr _ => (intOf vr).toNat - (intOf vs).toNat)
    case atStart => exact ⟨s0, mid, rfl, rfl, Nat.le_refl _, by have := H0.out; omega, Nat.le_refl _, .inl rfl, .inl rfl, HR.out, Sw.refl _ _⟩
    case round =>
      obtain ⟨x, y, rfl, rfl, hsx, hxy, hyr, hlo, hhi, hri, hsw⟩ := hrel
      have h0 := H0.out
      by_cases hl : x < y
      · have g1 : decide (x < y) = true := by simpa using hl
        obtain ⟨h, hh⟩ : ∃ h, (x + y) / 2 = h := ⟨_, rfl⟩
        obtain ⟨v1, v2⟩ := half_facts x y (by omega)
        obtain ⟨s, hs⟩ : ∃ s, x + y = s := ⟨_, rfl⟩
        rw [hs] at v1 v2
        have v3 : (s : Int) / 2 = (h : Int) := by omega
        have v4 : IntKind.i64.wrap ((h : Int) + 1) = (h : Int) + 1 := IntWalk.i64_in _ (by omega)
        obtain ⟨pc, hpc⟩ : ∃ pc, nn - 1 - h = pc := ⟨_, rfl⟩
        have v5 : IntKind.i64.wrap ((pp : Int) - (h : Int)) = (pc : Int) := by rw [IntWalk.i64_in _ (by omega)]; omega
        have hhn : h < n := by omega
        have hpn : pc < n := by omega
        obtain ⟨c, hc1, hc2⟩ := HC.out (p pc) (p h) (HP.out pc hpn) (HP.out h hhn)
        have T := (hri.cells hpn).app (hri.cells hhn)
        have st : ∀ w3, Below wr.drew.heap.size wr.drew w3 → Row5 88 w3 b off es p n ∧ Sw b w w3 := fun w3 hB3 =>
          ⟨hri.drew.below hB3, hsw.trans (((Sw.refl b wr).drew).trans (Sw.of_below hB3 (Nat.le_of_lt hri.lt)))⟩
        have i1 : (h : Int) < (n : Int) := by omega
        have i2 : (pc : Int) < (n : Int) := by omega
        have hmh : x ≤ h ∧ h < y ∧ nn - (h + 1) = pc := by omega
        have ST := Lib.hid st
        have HC1 := Lib.hid hc1
        have HC2 := Lib.hid hc2
        have HLO := Lib.hid hlo
        have HHI := Lib.hid hhi
        have HMH := Lib.hid hmh
        have HPC := Lib.hid hpc
        clear st hc1 hc2 hlo hhi hri hsw hh hs hmh h0 hpc
        by_cases hl2 : c < 0
        · have g2 : decide (c < 0) = true := by simpa using hl2
          have hlt2 : lt (p pc) (p h) := HC1.out.1 hl2
          go_wp2_with fail
          refine wp_region_held_drew (S := (fun W' : World => Cells W' (blk b (off + pc * 5) 0 [(es (p pc)).c0, (es (p pc)).c1, (es (p pc)).c2, (es (p pc)).c3, (es (p pc)).c4] ++ blk b (off + h * 5) 0 [(es (p h)).c0, (es (p h)).c1, (es (p h)).c2, (es (p h)).c3, (es (p h)).c4]))) (by kernel_rfl) (T.drew) (fun hHeld => ?_)
          refine wpAnyH_take (i := 0) (oi := _) (v := ?_) (by rw [List.getElem?_toArray]; rfl) (by kernel_rfl) (by kernel_rfl) (by kernel_rfl) (by exact fun _ _ _ h => h) (Or.inl ⟨by rfl, ?_⟩) (by assumption) ?_
          rotate_left
          · intro w hSw
            try simp only [Cells, blk, List.cons_append, List.nil_append, and_true, Nat.reduceAdd, Nat.add_zero, Nat.zero_add] at hSw
            go_simp
            try with_reducible rfl
          simp only [Act.put, List.setIfInBounds_toArray, List.set_cons_zero, List.set_cons_succ]
          refine wpAnyH_take (i := 1) (oi := _) (v := ?_) (by rw [List.getElem?_toArray]; rfl) (by kernel_rfl) (by kernel_rfl) (by kernel_rfl) (by exact fun _ _ _ h => h) (Or.inl ⟨by rfl, ?_⟩) (by assumption) ?_
          rotate_left
          · intro w hSw
            try simp only [Cells, blk, List.cons_append, List.nil_append, and_true, Nat.reduceAdd, Nat.add_zero, Nat.zero_add] at hSw
            go_simp
            try with_reducible rfl
          simp only [Act.put, List.setIfInBounds_toArray, List.set_cons_zero, List.set_cons_succ]
          refine wpAnyH_take (i := 2) (oi := _) (v := ?_) (by rw [List.getElem?_toArray]; rfl) (by kernel_rfl) (by kernel_rfl) (by kernel_rfl) (by exact fun _ _ _ h => h) (Or.inl ⟨by rfl, ?_⟩) (by assumption) ?_
          rotate_left
          · intro w hSw
            try simp only [Cells, blk, List.cons_append, List.nil_append, and_true, Nat.reduceAdd, Nat.add_zero, Nat.zero_add] at hSw
            go_simp
            try with_reducible rfl
          simp only [Act.put, List.setIfInBounds_toArray, List.set_cons_zero, List.set_cons_succ]
          refine wpAnyH_take (i := 3) (oi := _) (v := ?_) (by rw [List.getElem?_toArray]; rfl) (by kernel_rfl) (by kernel_rfl) (by kernel_rfl) (by exact fun _ _ _ h => h) (Or.inl ⟨by rfl, ?_⟩) (by assumption) ?_
          rotate_left
          · intro w hSw
            try simp only [Cells, blk, List.cons_append, List.nil_append, and_true, Nat.reduceAdd, Nat.add_zero, Nat.zero_add] at hSw
            go_simp
            try with_reducible rfl
          simp only [Act.put, List.setIfInBounds_toArray, List.set_cons_zero, List.set_cons_succ]
          refine wpAnyH_take (i := 4) (oi := _) (v := ?_) (by rw [List.getElem?_toArray]; rfl) (by kernel_rfl) (by kernel_rfl) (by kernel_rfl) (by exact fun _ _ _ h => h) (Or.inl ⟨by rfl, ?_⟩) (by assumption) ?_
          rotate_left
          · intro w hSw
            try simp only [Cells, blk, List.cons_append, List.nil_append, and_true, Nat.reduceAdd, Nat.add_zero, Nat.zero_add] at hSw
            go_simp
            try with_reducible rfl
          simp only [Act.put, List.setIfInBounds_toArray, List.set_cons_zero, List.set_cons_succ]
          refine wpAnyH_take (i := 5) (oi := _) (v := ?_) (by rw [List.getElem?_toArray]; rfl) (by kernel_rfl) (by kernel_rfl) (by kernel_rfl) (by exact fun _ _ _ h => h) (Or.inl ⟨by rfl, ?_⟩) (by assumption) ?_
          rotate_left
          · intro w hSw
            try simp only [Cells, blk, List.cons_append, List.nil_append, and_true, Nat.reduceAdd, Nat.add_zero, Nat.zero_add] at hSw
            go_simp
            try with_reducible rfl
          simp only [Act.put, List.setIfInBounds_toArray, List.set_cons_zero, List.set_cons_succ]
          refine wpAnyH_take (i := 6) (oi := _) (v := ?_) (by rw [List.getElem?_toArray]; rfl) (by kernel_rfl) (by kernel_rfl) (by kernel_rfl) (by exact fun _ _ _ h => h) (Or.inl ⟨by rfl, ?_⟩) (by assumption) ?_
          rotate_left
          · intro w hSw
            try simp only [Cells, blk, List.cons_append, List.nil_append, and_true, Nat.reduceAdd, Nat.add_zero, Nat.zero_add] at hSw
            go_simp
            try with_reducible rfl
          simp only [Act.put, List.setIfInBounds_toArray, List.set_cons_zero, List.set_cons_succ]
          refine wpAnyH_take (i := 7) (oi := _) (v := ?_) (by rw [List.getElem?_toArray]; rfl) (by kernel_rfl) (by kernel_rfl) (by kernel_rfl) (by exact fun _ _ _ h => h) (Or.inl ⟨by rfl, ?_⟩) (by assumption) ?_
          rotate_left
          · intro w hSw
            try simp only [Cells, blk, List.cons_append, List.nil_append, and_true, Nat.reduceAdd, Nat.add_zero, Nat.zero_add] at hSw
            go_simp
            try with_reducible rfl
          simp only [Act.put, List.setIfInBounds_toArray, List.set_cons_zero, List.set_cons_succ]
          refine wpAnyH_take (i := 8) (oi := _) (v := ?_) (by rw [List.getElem?_toArray]; rfl) (by kernel_rfl) (by kernel_rfl) (by kernel_rfl) (by exact fun _ _ _ h => h) (Or.inl ⟨by rfl, ?_⟩) (by assumption) ?_
          rotate_left
          · intro w hSw
            try simp only [Cells, blk, List.cons_append, List.nil_append, and_true, Nat.reduceAdd, Nat.add_zero, Nat.zero_add] at hSw
            go_simp
            try with_reducible rfl
          simp only [Act.put, List.setIfInBounds_toArray, List.set_cons_zero, List.set_cons_succ]
          refine wpAnyH_take (i := 9) (oi := _) (v := ?_) (by rw [List.getElem?_toArray]; rfl) (by kernel_rfl) (by kernel_rfl) (by kernel_rfl) (by exact fun _ _ _ h => h) (Or.inl ⟨by rfl, ?_⟩) (by assumption) ?_
          rotate_left
          · intro w hSw
            try simp only [Cells, blk, List.cons_append, List.nil_append, and_true, Nat.reduceAdd, Nat.add_zero, Nat.zero_add] at hSw
            go_simp
            try with_reducible rfl
          simp only [Act.put, List.setIfInBounds_toArray, List.set_cons_zero, List.set_cons_succ]
          refine wpAnyH_take (i := 10) (oi := _) (v := ?_) (by rw [List.getElem?_toArray]; rfl) (by kernel_rfl) (by kernel_rfl) (by kernel_rfl) (by exact fun _ _ _ h => h) (Or.inl ⟨by rfl, ?_⟩) (by assumption) ?_
          rotate_left
          · intro w hSw
            try simp only [Cells, blk, List.cons_append, List.nil_append, and_true, Nat.reduceAdd, Nat.add_zero, Nat.zero_add] at hSw
            go_simp
            try with_reducible rfl
          simp only [Act.put, List.setIfInBounds_toArray, List.set_cons_zero, List.set_cons_succ]
          refine wpAnyH_ready (rs := [11]) (by kernel_rfl) (by simp) (AllReadyH.cons (o := _) (by rw [List.getElem?_toArray]; rfl) (fun K hK => ?_) AllReadyH.nil)
          go_simp
          go_at_call 48
          refine (HC2.out _).mono ?_
          rintro x w3 ⟨rfl, hB3⟩
          have T3 := Cells.keep (T.drew) hB3
          obtain ⟨hr3, hs3⟩ := ST.out w3 hB3
          clear hHeld
          refine hK.out _ _ (T3) (fun hHeld => ?_)
          clear hK K
          try simp only [Act.put, List.setIfInBounds_toArray, List.set_cons_zero, List.set_cons_succ]
          refine wpAnyH_take (i := 12) (oi := _) (v := ?_) (by rw [List.getElem?_toArray]; rfl) (by kernel_rfl) (by kernel_rfl) (by kernel_rfl) (by exact fun _ _ _ h => h) (Or.inl ⟨by rfl, ?_⟩) (by assumption) ?_
          rotate_left
          · intro w hSw
            try simp only [Cells, blk, List.cons_append, List.nil_append, and_true, Nat.reduceAdd, Nat.add_zero, Nat.zero_add] at hSw
            go_simp
            try with_reducible rfl
          simp only [Act.put, List.setIfInBounds_toArray, List.set_cons_zero, List.set_cons_succ]
          refine wpAnyH_take (i := 13) (oi := _) (v := ?_) (by rw [List.getElem?_toArray]; rfl) (by kernel_rfl) (by kernel_rfl) (by kernel_rfl) (by exact fun _ _ _ h => h) (Or.inl ⟨by rfl, ?_⟩) (by assumption) ?_
          rotate_left
          · intro w hSw
            try simp only [Cells, blk, List.cons_append, List.nil_append, and_true, Nat.reduceAdd, Nat.add_zero, Nat.zero_add] at hSw
            go_simp
            try with_reducible rfl
          simp only [Act.put, List.setIfInBounds_toArray, List.set_cons_zero, List.set_cons_succ]
          refine wpAnyH_done (by kernel_rfl) ?_ _
          clear T T3 hB3
          go_wp2
          have hmh := HMH.out
          refine ⟨⟨x, h, rfl, rfl, hsx, by omega, by omega, HLO.out, .inr (by rw [HPC.out]; exact hlt2), hr3, hs3⟩, ?_⟩
          simp [intOf]
          omega
        · have g2 : decide (c < 0) = false := by simpa using hl2
          have hnl : ¬ lt (p pc) (p h) := fun hx => hl2 (HC1.out.2 hx)
          go_wp2_with fail
          refine wp_region_held_drew (S := (fun W' : World => Cells W' (blk b (off + pc * 5) 0 [(es (p pc)).c0, (es (p pc)).c1, (es (p pc)).c2, (es (p pc)).c3, (es (p pc)).c4] ++ blk b (off + h * 5) 0 [(es (p h)).c0, (es (p h)).c1, (es (p h)).c2, (es (p h)).c3, (es (p h)).c4]))) (by kernel_rfl) (T.drew) (fun hHeld => ?_)
          refine wpAnyH_take (i := 0) (oi := _) (v := ?_) (by rw [List.getElem?_toArray]; rfl) (by kernel_rfl) (by kernel_rfl) (by kernel_rfl) (by exact fun _ _ _ h => h) (Or.inl ⟨by rfl, ?_⟩) (by assumption) ?_
          rotate_left
          · intro w hSw
            try simp only [Cells, blk, List.cons_append, List.nil_append, and_true, Nat.reduceAdd, Nat.add_zero, Nat.zero_add] at hSw
            go_simp
            try with_reducible rfl
          simp only [Act.put, List.setIfInBounds_toArray, List.set_cons_zero, List.set_cons_succ]
          refine wpAnyH_take (i := 1) (oi := _) (v := ?_) (by rw [List.getElem?_toArray]; rfl) (by kernel_rfl) (by kernel_rfl) (by kernel_rfl) (by exact fun _ _ _ h => h) (Or.inl ⟨by rfl, ?_⟩) (by assumption) ?_
          rotate_left
          · intro w hSw
            try simp only [Cells, blk, List.cons_append, List.nil_append, and_true, Nat.reduceAdd, Nat.add_zero, Nat.zero_add] at hSw
            go_simp
            try with_reducible rfl
          simp only [Act.put, List.setIfInBounds_toArray, List.set_cons_zero, List.set_cons_succ]
          refine wpAnyH_take (i := 2) (oi := _) (v := ?_) (by rw [List.getElem?_toArray]; rfl) (by kernel_rfl) (by kernel_rfl) (by kernel_rfl) (by exact fun _ _ _ h => h) (Or.inl ⟨by rfl, ?_⟩) (by assumption) ?_
          rotate_left
          · intro w hSw
            try simp only [Cells, blk, List.cons_append, List.nil_append, and_true, Nat.reduceAdd, Nat.add_zero, Nat.zero_add] at hSw
            go_simp
            try with_reducible rfl
          simp only [Act.put, List.setIfInBounds_toArray, List.set_cons_zero, List.set_cons_succ]
          refine wpAnyH_take (i := 3) (oi := _) (v := ?_) (by rw [List.getElem?_toArray]; rfl) (by kernel_rfl) (by kernel_rfl) (by kernel_rfl) (by exact fun _ _ _ h => h) (Or.inl ⟨by rfl, ?_⟩) (by assumption) ?_
          rotate_left
          · intro w hSw
            try simp only [Cells, blk, List.cons_append, List.nil_append, and_true, Nat.reduceAdd, Nat.add_zero, Nat.zero_add] at hSw
            go_simp
            try with_reducible rfl
          simp only [Act.put, List.setIfInBounds_toArray, List.set_cons_zero, List.set_cons_succ]
          refine wpAnyH_take (i := 4) (oi := _) (v := ?_) (by rw [List.getElem?_toArray]; rfl) (by kernel_rfl) (by kernel_rfl) (by kernel_rfl) (by exact fun _ _ _ h => h) (Or.inl ⟨by rfl, ?_⟩) (by assumption) ?_
          rotate_left
          · intro w hSw
            try simp only [Cells, blk, List.cons_append, List.nil_append, and_true, Nat.reduceAdd, Nat.add_zero, Nat.zero_add] at hSw
            go_simp
            try with_reducible rfl
          simp only [Act.put, List.setIfInBounds_toArray, List.set_cons_zero, List.set_cons_succ]
          refine wpAnyH_take (i := 5) (oi := _) (v := ?_) (by rw [List.getElem?_toArray]; rfl) (by kernel_rfl) (by kernel_rfl) (by kernel_rfl) (by exact fun _ _ _ h => h) (Or.inl ⟨by rfl, ?_⟩) (by assumption) ?_
          rotate_left
          · intro w hSw
            try simp only [Cells, blk, List.cons_append, List.nil_append, and_true, Nat.reduceAdd, Nat.add_zero, Nat.zero_add] at hSw
            go_simp
            try with_reducible rfl
          simp only [Act.put, List.setIfInBounds_toArray, List.set_cons_zero, List.set_cons_succ]
          refine wpAnyH_take (i := 6) (oi := _) (v := ?_) (by rw [List.getElem?_toArray]; rfl) (by kernel_rfl) (by kernel_rfl) (by kernel_rfl) (by exact fun _ _ _ h => h) (Or.inl ⟨by rfl, ?_⟩) (by assumption) ?_
          rotate_left
          · intro w hSw
            try simp only [Cells, blk, List.cons_append, List.nil_append, and_true, Nat.reduceAdd, Nat.add_zero, Nat.zero_add] at hSw
            go_simp
            try with_reducible rfl
          simp only [Act.put, List.setIfInBounds_toArray, List.set_cons_zero, List.set_cons_succ]
          refine wpAnyH_take (i := 7) (oi := _) (v := ?_) (by rw [List.getElem?_toArray]; rfl) (by kernel_rfl) (by kernel_rfl) (by kernel_rfl) (by exact fun _ _ _ h => h) (Or.inl ⟨by rfl, ?_⟩) (by assumption) ?_
          rotate_left
          · intro w hSw
            try simp only [Cells, blk, List.cons_append, List.nil_append, and_true, Nat.reduceAdd, Nat.add_zero, Nat.zero_add] at hSw
            go_simp
            try with_reducible rfl
          simp only [Act.put, List.setIfInBounds_toArray, List.set_cons_zero, List.set_cons_succ]
          refine wpAnyH_take (i := 8) (oi := _) (v := ?_) (by rw [List.getElem?_toArray]; rfl) (by kernel_rfl) (by kernel_rfl) (by kernel_rfl) (by exact fun _ _ _ h => h) (Or.inl ⟨by rfl, ?_⟩) (by assumption) ?_
          rotate_left
          · intro w hSw
            try simp only [Cells, blk, List.cons_append, List.nil_append, and_true, Nat.reduceAdd, Nat.add_zero, Nat.zero_add] at hSw
            go_simp
            try with_reducible rfl
          simp only [Act.put, List.setIfInBounds_toArray, List.set_cons_zero, List.set_cons_succ]
          refine wpAnyH_take (i := 9) (oi := _) (v := ?_) (by rw [List.getElem?_toArray]; rfl) (by kernel_rfl) (by kernel_rfl) (by kernel_rfl) (by exact fun _ _ _ h => h) (Or.inl ⟨by rfl, ?_⟩) (by assumption) ?_
          rotate_left
          · intro w hSw
            try simp only [Cells, blk, List.cons_append, List.nil_append, and_true, Nat.reduceAdd, Nat.add_zero, Nat.zero_add] at hSw
            go_simp
            try with_reducible rfl
          simp only [Act.put, List.setIfInBounds_toArray, List.set_cons_zero, List.set_cons_succ]
          refine wpAnyH_take (i := 10) (oi := _) (v := ?_) (by rw [List.getElem?_toArray]; rfl) (by kernel_rfl) (by kernel_rfl) (by kernel_rfl) (by exact fun _ _ _ h => h) (Or.inl ⟨by rfl, ?_⟩) (by assumption) ?_
          rotate_left
          · intro w hSw
            try simp only [Cells, blk, List.cons_append, List.nil_append, and_true, Nat.reduceAdd, Nat.add_zero, Nat.zero_add] at hSw
            go_simp
            try with_reducible rfl
          simp only [Act.put, List.setIfInBounds_toArray, List.set_cons_zero, List.set_cons_succ]
          refine wpAnyH_ready (rs := [11]) (by kernel_rfl) (by simp) (AllReadyH.cons (o := _) (by rw [List.getElem?_toArray]; rfl) (fun K hK => ?_) AllReadyH.nil)
          go_simp
          go_at_call 48
          refine (HC2.out _).mono ?_
          rintro x w3 ⟨rfl, hB3⟩
          have T3 := Cells.keep (T.drew) hB3
          obtain ⟨hr3, hs3⟩ := ST.out w3 hB3
          clear hHeld
          refine hK.out _ _ (T3) (fun hHeld => ?_)
          clear hK K
          try simp only [Act.put, List.setIfInBounds_toArray, List.set_cons_zero, List.set_cons_succ]
          refine wpAnyH_take (i := 12) (oi := _) (v := ?_) (by rw [List.getElem?_toArray]; rfl) (by kernel_rfl) (by kernel_rfl) (by kernel_rfl) (by exact fun _ _ _ h => h) (Or.inl ⟨by rfl, ?_⟩) (by assumption) ?_
          rotate_left
          · intro w hSw
            try simp only [Cells, blk, List.cons_append, List.nil_append, and_true, Nat.reduceAdd, Nat.add_zero, Nat.zero_add] at hSw
            go_simp
            try with_reducible rfl
          simp only [Act.put, List.setIfInBounds_toArray, List.set_cons_zero, List.set_cons_succ]
          refine wpAnyH_take (i := 13) (oi := _) (v := ?_) (by rw [List.getElem?_toArray]; rfl) (by kernel_rfl) (by kernel_rfl) (by kernel_rfl) (by exact fun _ _ _ h => h) (Or.inl ⟨by rfl, ?_⟩) (by assumption) ?_
          rotate_left
          · intro w hSw
            try simp only [Cells, blk, List.cons_append, List.nil_append, and_true, Nat.reduceAdd, Nat.add_zero, Nat.zero_add] at hSw
            go_simp
            try with_reducible rfl
          simp only [Act.put, List.setIfInBounds_toArray, List.set_cons_zero, List.set_cons_succ]
          refine wpAnyH_done (by kernel_rfl) ?_ _
          clear T T3 hB3
          go_wp2
          have hmh := HMH.out
          refine ⟨⟨h + 1, y, by simp, rfl, by omega, by omega, hyr, .inr (by rw [hmh.2.2, Nat.add_sub_cancel]; exact hnl), HHI.out, hr3, hs3⟩, ?_⟩
          simp [intOf]
          omega
      · have e1 : x = y := by omega
        subst e1
        have g1 : decide (x < x) = false := by simp
        obtain ⟨en, hen'⟩ : ∃ en, nn - x = en := ⟨_, rfl⟩
        have v5 : IntKind.i64.wrap ((nn : Int) - (x : Int)) = (en : Int) := by rw [IntWalk.i64_in _ (by omega)]; omega
        have hnn := HNN.out
        have hme' : mid + m - x = en := by omega
        have cr := sym_cross hlt ham hme HS1.out HS2.out HIDX.out (mid := mid) (s := x) (by omega) (by omega) (by omega) (by omega) (by omega) (by omega)
          (by
            rcases hlo with h | h
            · rcases h0.2.2.2.2.2.1 with h1 | h1
              · exact .inl (by omega)
              · exact .inr (.inl (by omega))
            · exact .inr (.inr (by rw [show mid + m - x = nn - x by omega]; exact h)))
          (by
            rcases hhi with h | h
            · rcases h0.2.2.2.2.2.2 with h1 | h1
              · exact .inl (by omega)
              · exact .inr (.inl (by omega))
            · exact .inr (.inr (by rw [show mid + m - x - 1 = nn - 1 - x by omega]; exact h)))
        rw [hme'] at cr
        have CR := Lib.hid cr
        have hqm := (mem_rot (p := p) (a := x) (m := m) (b := en) (by omega) (by omega)).wide (show a ≤ x by omega) (show en ≤ e by omega)
        have HQN := Lib.hid (Tx_mlt hqm hen HP.out)
        have HQM := Lib.hid hqm
        have HE := Lib.hid (show mid + m - x = en ∧ x ≤ m ∧ x ≤ mid ∧ en ≤ e ∧ a ≤ x ∧ m ≤ en by omega)
        clear cr hqm hlo hhi
        have al : x < m := by omega
        by_cases be : x < mid
        · by_cases ga : a < x
          · by_cases de : en < e
            · have t0 : decide (x < m) = true := by simp only [decide_eq_true_eq]; omega
              have t1 : decide (m < en) = true := by simp only [decide_eq_true_eq]; omega
              have t2 : decide (a < x) = true := by simp only [decide_eq_true_eq]; omega
              have t3 : decide (x < mid) = true := by simp only [decide_eq_true_eq]; omega
              have t4 : decide (mid < en) = true := by simp only [decide_eq_true_eq]; omega
              have t5 : decide (en < e) = true := by simp only [decide_eq_true_eq]; omega
              have ROT := Lib.hid (Tx_rot es p b off n cap wr hri hn HO.out x m en (by omega) (by omega) (by omega) (.func (.func 48) #[] #[]))
              have I1 := Lib.hid (fun (W : World) hW => IH.out (rot p x m en) W hW HQN.out a x mid (by omega) (by omega) (by omega) (by omega) CR.out.1 CR.out.2.1 CR.out.2.2.2.2.1)
              have I2 := Lib.hid (fun (W : World) (q1 : Nat → Nat) hW (hm : Mem (rot p x m en) q1 a mid) => IH.out q1 W hW (Tx_mlt hm (by omega) HQN.out) mid en e (by omega) (by omega) (by omega) (by omega)
                (CR.out.2.2.1.congr fun k h1 h2 => hm.out k (.inr h1)) (CR.out.2.2.2.1.congr fun k h1 h2 => hm.out k (by omega)) (fun i j h1 h2 h3 h4 => by rw [hm.out i (.inr h1), hm.out j (by omega)]; exact CR.out.2.2.2.2.2.1 i j h1 h2 h3 h4))
              have HSW := Lib.hid hsw
              clear hri hsw h0 hnn hme' hen'
              go_wp2_with fail
              go_at_call 80
              refine ROT.out.mono ?_
              rintro y w4 ⟨rfl, hr4, hs4⟩
              have hs4 := HSW.out.trans hs4
              go_wp2_with fail
              go_at_call 73
              refine (I1.out _ hr4).mono ?_
              rintro y w5 ⟨rfl, q1, hr5, hm5, ht5, hs5⟩
              have hs5 := hs4.trans hs5
              clear I1
              go_wp2_with fail
              go_at_call 73
              refine (I2.out _ q1 hr5 hm5).mono ?_
              rintro y w6 ⟨rfl, q2, hr6, hm6, ht6, hs6⟩
              have hs6 := hs5.trans hs6
              go_wp2
              go_end0
              obtain ⟨z1, z2⟩ := sym_done HQM.out CR.out.2.2.2.2.2.2 hm5 ht5 hm6 ht6 (by have := H0.out; omega) (by have := H0.out; omega)
              exact ⟨rfl, q2, hr6, z1, z2, hs6⟩
            · have t0 : decide (x < m) = true := by simp only [decide_eq_true_eq]; omega
              have t1 : decide (m < en) = true := by simp only [decide_eq_true_eq]; omega
              have t2 : decide (a < x) = true := by simp only [decide_eq_true_eq]; omega
              have t3 : decide (x < mid) = true := by simp only [decide_eq_true_eq]; omega
              have t4 : decide (mid < en) = true := by simp only [decide_eq_true_eq]; omega
              have t5 : decide (en < e) = false := by simp only [decide_eq_false_iff_not]; omega
              have ROT := Lib.hid (Tx_rot es p b off n cap wr hri hn HO.out x m en (by omega) (by omega) (by omega) (.func (.func 48) #[] #[]))
              have I1 := Lib.hid (fun (W : World) hW => IH.out (rot p x m en) W hW HQN.out a x mid (by omega) (by omega) (by omega) (by omega) CR.out.1 CR.out.2.1 CR.out.2.2.2.2.1)
              have HSW := Lib.hid hsw
              clear hri hsw h0 hnn hme' hen'
              go_wp2_with fail
              go_at_call 80
              refine ROT.out.mono ?_
              rintro y w4 ⟨rfl, hr4, hs4⟩
              have hs4 := HSW.out.trans hs4
              go_wp2_with fail
              go_at_call 73
              refine (I1.out _ hr4).mono ?_
              rintro y w5 ⟨rfl, q1, hr5, hm5, ht5, hs5⟩
              have hs5 := hs4.trans hs5
              clear I1
              obtain ⟨q2, hr6, hm6, ht6⟩ : ∃ q2, Row5 88 _ b off es q2 n ∧ Mem q1 q2 mid e ∧ Srt lt q2 mid e := ⟨_, hr5, Mem.refl _ _ _, by have h := CR.out.2.2.1; rw [show en = e by have := HE.out; omega] at h hm5; exact h.congr fun k h1 h2 => hm5.out k (.inr h1)⟩
              have hs6 := hs5
              go_wp2
              go_end0
              obtain ⟨z1, z2⟩ := sym_done HQM.out CR.out.2.2.2.2.2.2 hm5 ht5 hm6 ht6 (by have := H0.out; omega) (by have := H0.out; omega)
              exact ⟨rfl, q2, hr6, z1, z2, hs6⟩
          · by_cases de : en < e
            · have t0 : decide (x < m) = true := by simp only [decide_eq_true_eq]; omega
              have t1 : decide (m < en) = true := by simp only [decide_eq_true_eq]; omega
              have t2 : decide (a < x) = false := by simp only [decide_eq_false_iff_not]; omega
              have t3 : decide (x < mid) = true := by simp only [decide_eq_true_eq]; omega
              have t4 : decide (mid < en) = true := by simp only [decide_eq_true_eq]; omega
              have t5 : decide (en < e) = true := by simp only [decide_eq_true_eq]; omega
              have ROT := Lib.hid (Tx_rot es p b off n cap wr hri hn HO.out x m en (by omega) (by omega) (by omega) (.func (.func 48) #[] #[]))
              have I2 := Lib.hid (fun (W : World) (q1 : Nat → Nat) hW (hm : Mem (rot p x m en) q1 a mid) => IH.out q1 W hW (Tx_mlt hm (by omega) HQN.out) mid en e (by omega) (by omega) (by omega) (by omega)
                (CR.out.2.2.1.congr fun k h1 h2 => hm.out k (.inr h1)) (CR.out.2.2.2.1.congr fun k h1 h2 => hm.out k (by omega)) (fun i j h1 h2 h3 h4 => by rw [hm.out i (.inr h1), hm.out j (by omega)]; exact CR.out.2.2.2.2.2.1 i j h1 h2 h3 h4))
              have HSW := Lib.hid hsw
              clear hri hsw h0 hnn hme' hen'
              go_wp2_with fail
              go_at_call 80
              refine ROT.out.mono ?_
              rintro y w4 ⟨rfl, hr4, hs4⟩
              have hs4 := HSW.out.trans hs4
              obtain ⟨q1, hr5, hm5, ht5⟩ : ∃ q1, Row5 88 _ b off es q1 n ∧ Mem (rot p x m en) q1 a mid ∧ Srt lt q1 a mid := ⟨_, hr4, Mem.refl _ _ _, by have h := CR.out.2.1; have he := HE.out; rw [show x = a by omega] at h ⊢; exact h⟩
              have hs5 := hs4
              go_wp2_with fail
              go_at_call 73
              refine (I2.out _ q1 hr5 hm5).mono ?_
              rintro y w6 ⟨rfl, q2, hr6, hm6, ht6, hs6⟩
              have hs6 := hs5.trans hs6
              go_wp2
              go_end0
              obtain ⟨z1, z2⟩ := sym_done HQM.out CR.out.2.2.2.2.2.2 hm5 ht5 hm6 ht6 (by have := H0.out; omega) (by have := H0.out; omega)
              exact ⟨rfl, q2, hr6, z1, z2, hs6⟩
            · have t0 : decide (x < m) = true := by simp only [decide_eq_true_eq]; omega
              have t1 : decide (m < en) = true := by simp only [decide_eq_true_eq]; omega
              have t2 : decide (a < x) = false := by simp only [decide_eq_false_iff_not]; omega
              have t3 : decide (x < mid) = true := by simp only [decide_eq_true_eq]; omega
              have t4 : decide (mid < en) = true := by simp only [decide_eq_true_eq]; omega
              have t5 : decide (en < e) = false := by simp only [decide_eq_false_iff_not]; omega
              have ROT := Lib.hid (Tx_rot es p b off n cap wr hri hn HO.out x m en (by omega) (by omega) (by omega) (.func (.func 48) #[] #[]))
              have HSW := Lib.hid hsw
              clear hri hsw h0 hnn hme' hen'
              go_wp2_with fail
              go_at_call 80
              refine ROT.out.mono ?_
              rintro y w4 ⟨rfl, hr4, hs4⟩
              have hs4 := HSW.out.trans hs4
              obtain ⟨q1, hr5, hm5, ht5⟩ : ∃ q1, Row5 88 _ b off es q1 n ∧ Mem (rot p x m en) q1 a mid ∧ Srt lt q1 a mid := ⟨_, hr4, Mem.refl _ _ _, by have h := CR.out.2.1; have he := HE.out; rw [show x = a by omega] at h ⊢; exact h⟩
              have hs5 := hs4
              obtain ⟨q2, hr6, hm6, ht6⟩ : ∃ q2, Row5 88 _ b off es q2 n ∧ Mem q1 q2 mid e ∧ Srt lt q2 mid e := ⟨_, hr5, Mem.refl _ _ _, by have h := CR.out.2.2.1; rw [show en = e by have := HE.out; omega] at h hm5; exact h.congr fun k h1 h2 => hm5.out k (.inr h1)⟩
              have hs6 := hs5
              go_wp2
              go_end0
              obtain ⟨z1, z2⟩ := sym_done HQM.out CR.out.2.2.2.2.2.2 hm5 ht5 hm6 ht6 (by have := H0.out; omega) (by have := H0.out; omega)
              exact ⟨rfl, q2, hr6, z1, z2, hs6⟩
        · have ga : a < x := by omega
          have de : en < e := by omega
          have t0 : decide (x < m) = true := by simp only [decide_eq_true_eq]; omega
          have t1 : decide (m < en) = false := by simp only [decide_eq_false_iff_not]; omega
          have t2 : decide (a < x) = true := by simp only [decide_eq_true_eq]; omega
          have t3 : decide (x < mid) = false := by simp only [decide_eq_false_iff_not]; omega
          have t4 : decide (mid < en) = true := by simp only [decide_eq_true_eq]; omega
          have t5 : decide (en < e) = true := by simp only [decide_eq_true_eq]; omega
          have hr4 : Row5 88 wr b off es (rot p x m en) n := by rw [show rot p x m en = p from by rw [show en = m by omega]; exact rot_right]; exact hri
          have HR4 := Lib.hid hr4
          clear hr4
          have I2 := Lib.hid (fun (W : World) (q1 : Nat → Nat) hW (hm : Mem (rot p x m en) q1 a mid) => IH.out q1 W hW (Tx_mlt hm (by omega) HQN.out) mid en e (by omega) (by omega) (by omega) (by omega)
            (CR.out.2.2.1.congr fun k h1 h2 => hm.out k (.inr h1)) (CR.out.2.2.2.1.congr fun k h1 h2 => hm.out k (by omega)) (fun i j h1 h2 h3 h4 => by rw [hm.out i (.inr h1), hm.out j (by omega)]; exact CR.out.2.2.2.2.2.1 i j h1 h2 h3 h4))
          have HSW := Lib.hid hsw
          clear hri hsw h0 hnn hme' hen'
          have hr4 := HR4.out
          have hs4 := HSW.out
          obtain ⟨q1, hr5, hm5, ht5⟩ : ∃ q1, Row5 88 _ b off es q1 n ∧ Mem (rot p x m en) q1 a mid ∧ Srt lt q1 a mid := ⟨_, hr4, Mem.refl _ _ _, by have h := CR.out.1; have h0 := H0.out; rw [show x = mid by omega] at h ⊢; exact h⟩
          have hs5 := hs4
          go_wp2_with fail
          go_at_call 73
          refine (I2.out _ q1 hr5 hm5).mono ?_
          rintro y w6 ⟨rfl, q2, hr6, hm6, ht6, hs6⟩
          have hs6 := hs5.trans hs6
          go_wp2
          go_end0
          obtain ⟨z1, z2⟩ := sym_done HQM.out CR.out.2.2.2.2.2.2 hm5 ht5 hm6 ht6 (by have := H0.out; omega) (by have := H0.out; omega)
          exact ⟨rfl, q2, hr6, z1, z2, hs6⟩
  · have g0 : decide (mid < m) = false := by simpa using hgt
    have H0 := Lib.hid (show a ≤ a ∧ a ≤ m ∧ m ≤ m ∧ m ≤ mid ∧ (nn = mid + m ∧ pp = nn - 1 ∧ nn - a ≤ e ∧ a < mid ∧ mid < e) ∧ (a = a ∨ nn - a = e) ∧ (m = m ∨ nn - m = m) by omega)
    clear hd hd2 hs hnn hpp hmid
    go_wp2
    go_loopw [20, 21] (fun vs vr wr => ∃ x y : Nat, vs = .int .i64 x ∧ vr = .int .i64 y ∧ a ≤ x ∧ x ≤ y ∧ y ≤ m ∧ (x = a ∨ ¬ lt (p (nn - x)) (p (x - 1))) ∧ (y = m ∨ lt (p (nn - 1 - y)) (p y)) ∧ Row5 88 wr b off es p n ∧ Sw b w wr) (fun vs vr _ => (intOf vr).toNat - (intOf vs).toNat)
    case atStart => exact ⟨a, m, rfl, rfl, Nat.le_refl _, by have := H0.out; omega, Nat.le_refl _, .inl rfl, .inl rfl, HR.out, Sw.refl _ _⟩
    case round =>
      obtain ⟨x, y, rfl, rfl, hsx, hxy, hyr, hlo, hhi, hri, hsw⟩ := hrel
      have h0 := H0.out
      by_cases hl : x < y
      · have g1 : decide (x < y) = true := by simpa using hl
        obtain ⟨h, hh⟩ : ∃ h, (x + y) / 2 = h := ⟨_, rfl⟩
        obtain ⟨v1, v2⟩ := half_facts x y (by omega)
        obtain ⟨s, hs⟩ : ∃ s, x + y = s := ⟨_, rfl⟩
        rw [hs] at v1 v2
        have v3 : (s : Int) / 2 = (h : Int) := by omega
        have v4 : IntKind.i64.wrap ((h : Int) + 1) = (h : Int) + 1 := IntWalk.i64_in _ (by omega)
        obtain ⟨pc, hpc⟩ : ∃ pc, nn - 1 - h = pc := ⟨_, rfl⟩
        have v5 : IntKind.i64.wrap ((pp : Int) - (h : Int)) = (pc : Int) := by rw [IntWalk.i64_in _ (by omega)]; omega
        have hhn : h < n := by omega
        have hpn : pc < n := by omega
        obtain ⟨c, hc1, hc2⟩ := HC.out (p pc) (p h) (HP.out pc hpn) (HP.out h hhn)
        have T := (hri.cells hpn).app (hri.cells hhn)
        have st : ∀ w3, Below wr.drew.heap.size wr.drew w3 → Row5 88 w3 b off es p n ∧ Sw b w w3 := fun w3 hB3 =>
          ⟨hri.drew.below hB3, hsw.trans (((Sw.refl b wr).drew).trans (Sw.of_below hB3 (Nat.le_of_lt hri.lt)))⟩
        have i1 : (h : Int) < (n : Int) := by omega
        have i2 : (pc : Int) < (n : Int) := by omega
        have hmh : x ≤ h ∧ h < y ∧ nn - (h + 1) = pc := by omega
        have ST := Lib.hid st
        have HC1 := Lib.hid hc1
        have HC2 := Lib.hid hc2
        have HLO := Lib.hid hlo
        have HHI := Lib.hid hhi
        have HMH := Lib.hid hmh
        have HPC := Lib.hid hpc
        clear st hc1 hc2 hlo hhi hri hsw hh hs hmh h0 hpc
        by_cases hl2 : c < 0
        · have g2 : decide (c < 0) = true := by simpa using hl2
          have hlt2 : lt (p pc) (p h) := HC1.out.1 hl2
          go_wp2_with fail
          refine wp_region_held_drew (S := (fun W' : World => Cells W' (blk b (off + pc * 5) 0 [(es (p pc)).c0, (es (p pc)).c1, (es (p pc)).c2, (es (p pc)).c3, (es (p pc)).c4] ++ blk b (off + h * 5) 0 [(es (p h)).c0, (es (p h)).c1, (es (p h)).c2, (es (p h)).c3, (es (p h)).c4]))) (by kernel_rfl) (T.drew) (fun hHeld => ?_)
          refine wpAnyH_take (i := 0) (oi := _) (v := ?_) (by rw [List.getElem?_toArray]; rfl) (by kernel_rfl) (by kernel_rfl) (by kernel_rfl) (by exact fun _ _ _ h => h) (Or.inl ⟨by rfl, ?_⟩) (by assumption) ?_
          rotate_left
          · intro w hSw
            try simp only [Cells, blk, List.cons_append, List.nil_append, and_true, Nat.reduceAdd, Nat.add_zero, Nat.zero_add] at hSw
            go_simp
            try with_reducible rfl
          simp only [Act.put, List.setIfInBounds_toArray, List.set_cons_zero, List.set_cons_succ]
          refine wpAnyH_take (i := 1) (oi := _) (v := ?_) (by rw [List.getElem?_toArray]; rfl) (by kernel_rfl) (by kernel_rfl) (by kernel_rfl) (by exact fun _ _ _ h => h) (Or.inl ⟨by rfl, ?_⟩) (by assumption) ?_
          rotate_left
          · intro w hSw
            try simp only [Cells, blk, List.cons_append, List.nil_append, and_true, Nat.reduceAdd, Nat.add_zero, Nat.zero_add] at hSw
            go_simp
            try with_reducible rfl
          simp only [Act.put, List.setIfInBounds_toArray, List.set_cons_zero, List.set_cons_succ]
          refine wpAnyH_take (i := 2) (oi := _) (v := ?_) (by rw [List.getElem?_toArray]; rfl) (by kernel_rfl) (by kernel_rfl) (by kernel_rfl) (by exact fun _ _ _ h => h) (Or.inl ⟨by rfl, ?_⟩) (by assumption) ?_
          rotate_left
          · intro w hSw
            try simp only [Cells, blk, List.cons_append, List.nil_append, and_true, Nat.reduceAdd, Nat.add_zero, Nat.zero_add] at hSw
            go_simp
            try with_reducible rfl
          simp only [Act.put, List.setIfInBounds_toArray, List.set_cons_zero, List.set_cons_succ]
          refine wpAnyH_take (i := 3) (oi := _) (v := ?_) (by rw [List.getElem?_toArray]; rfl) (by kernel_rfl) (by kernel_rfl) (by kernel_rfl) (by exact fun _ _ _ h => h) (Or.inl ⟨by rfl, ?_⟩) (by assumption) ?_
          rotate_left
          · intro w hSw
            try simp only [Cells, blk, List.cons_append, List.nil_append, and_true, Nat.reduceAdd, Nat.add_zero, Nat.zero_add] at hSw
            go_simp
            try with_reducible rfl
          simp only [Act.put, List.setIfInBounds_toArray, List.set_cons_zero, List.set_cons_succ]
          refine wpAnyH_take (i := 4) (oi := _) (v := ?_) (by rw [List.getElem?_toArray]; rfl) (by kernel_rfl) (by kernel_rfl) (by kernel_rfl) (by exact fun _ _ _ h => h) (Or.inl ⟨by rfl, ?_⟩) (by assumption) ?_
          rotate_left
          · intro w hSw
            try simp only [Cells, blk, List.cons_append, List.nil_append, and_true, Nat.reduceAdd, Nat.add_zero, Nat.zero_add] at hSw
            go_simp
            try with_reducible rfl
          simp only [Act.put, List.setIfInBounds_toArray, List.set_cons_zero, List.set_cons_succ]
          refine wpAnyH_take (i := 5) (oi := _) (v := ?_) (by rw [List.getElem?_toArray]; rfl) (by kernel_rfl) (by kernel_rfl) (by kernel_rfl) (by exact fun _ _ _ h => h) (Or.inl ⟨by rfl, ?_⟩) (by assumption) ?_
          rotate_left
          · intro w hSw
            try simp only [Cells, blk, List.cons_append, List.nil_append, and_true, Nat.reduceAdd, Nat.add_zero, Nat.zero_add] at hSw
            go_simp
            try with_reducible rfl
          simp only [Act.put, List.setIfInBounds_toArray, List.set_cons_zero, List.set_cons_succ]
          refine wpAnyH_take (i := 6) (oi := _) (v := ?_) (by rw [List.getElem?_toArray]; rfl) (by kernel_rfl) (by kernel_rfl) (by kernel_rfl) (by exact fun _ _ _ h => h) (Or.inl ⟨by rfl, ?_⟩) (by assumption) ?_
          rotate_left
          · intro w hSw
            try simp only [Cells, blk, List.cons_append, List.nil_append, and_true, Nat.reduceAdd, Nat.add_zero, Nat.zero_add] at hSw
            go_simp
            try with_reducible rfl
          simp only [Act.put, List.setIfInBounds_toArray, List.set_cons_zero, List.set_cons_succ]
          refine wpAnyH_take (i := 7) (oi := _) (v := ?_) (by rw [List.getElem?_toArray]; rfl) (by kernel_rfl) (by kernel_rfl) (by kernel_rfl) (by exact fun _ _ _ h => h) (Or.inl ⟨by rfl, ?_⟩) (by assumption) ?_
          rotate_left
          · intro w hSw
            try simp only [Cells, blk, List.cons_append, List.nil_append, and_true, Nat.reduceAdd, Nat.add_zero, Nat.zero_add] at hSw
            go_simp
            try with_reducible rfl
          simp only [Act.put, List.setIfInBounds_toArray, List.set_cons_zero, List.set_cons_succ]
          refine wpAnyH_take (i := 8) (oi := _) (v := ?_) (by rw [List.getElem?_toArray]; rfl) (by kernel_rfl) (by kernel_rfl) (by kernel_rfl) (by exact fun _ _ _ h => h) (Or.inl ⟨by rfl, ?_⟩) (by assumption) ?_
          rotate_left
          · intro w hSw
            try simp only [Cells, blk, List.cons_append, List.nil_append, and_true, Nat.reduceAdd, Nat.add_zero, Nat.zero_add] at hSw
            go_simp
            try with_reducible rfl
          simp only [Act.put, List.setIfInBounds_toArray, List.set_cons_zero, List.set_cons_succ]
          refine wpAnyH_take (i := 9) (oi := _) (v := ?_) (by rw [List.getElem?_toArray]; rfl) (by kernel_rfl) (by kernel_rfl) (by kernel_rfl) (by exact fun _ _ _ h => h) (Or.inl ⟨by rfl, ?_⟩) (by assumption) ?_
          rotate_left
          · intro w hSw
            try simp only [Cells, blk, List.cons_append, List.nil_append, and_true, Nat.reduceAdd, Nat.add_zero, Nat.zero_add] at hSw
            go_simp
            try with_reducible rfl
          simp only [Act.put, List.setIfInBounds_toArray, List.set_cons_zero, List.set_cons_succ]
          refine wpAnyH_take (i := 10) (oi := _) (v := ?_) (by rw [List.getElem?_toArray]; rfl) (by kernel_rfl) (by kernel_rfl) (by kernel_rfl) (by exact fun _ _ _ h => h) (Or.inl ⟨by rfl, ?_⟩) (by assumption) ?_
          rotate_left
          · intro w hSw
            try simp only [Cells, blk, List.cons_append, List.nil_append, and_true, Nat.reduceAdd, Nat.add_zero, Nat.zero_add] at hSw
            go_simp
            try with_reducible rfl
          simp only [Act.put, List.setIfInBounds_toArray, List.set_cons_zero, List.set_cons_succ]
          refine wpAnyH_ready (rs := [11]) (by kernel_rfl) (by simp) (AllReadyH.cons (o := _) (by rw [List.getElem?_toArray]; rfl) (fun K hK => ?_) AllReadyH.nil)
          go_simp
          go_at_call 48
          refine (HC2.out _).mono ?_
          rintro x w3 ⟨rfl, hB3⟩
          have T3 := Cells.keep (T.drew) hB3
          obtain ⟨hr3, hs3⟩ := ST.out w3 hB3
          clear hHeld
          refine hK.out _ _ (T3) (fun hHeld => ?_)
          clear hK K
          try simp only [Act.put, List.setIfInBounds_toArray, List.set_cons_zero, List.set_cons_succ]
          refine wpAnyH_take (i := 12) (oi := _) (v := ?_) (by rw [List.getElem?_toArray]; rfl) (by kernel_rfl) (by kernel_rfl) (by kernel_rfl) (by exact fun _ _ _ h => h) (Or.inl ⟨by rfl, ?_⟩) (by assumption) ?_
          rotate_left
          · intro w hSw
            try simp only [Cells, blk, List.cons_append, List.nil_append, and_true, Nat.reduceAdd, Nat.add_zero, Nat.zero_add] at hSw
            go_simp
            try with_reducible rfl
          simp only [Act.put, List.setIfInBounds_toArray, List.set_cons_zero, List.set_cons_succ]
          refine wpAnyH_take (i := 13) (oi := _) (v := ?_) (by rw [List.getElem?_toArray]; rfl) (by kernel_rfl) (by kernel_rfl) (by kernel_rfl) (by exact fun _ _ _ h => h) (Or.inl ⟨by rfl, ?_⟩) (by assumption) ?_
          rotate_left
          · intro w hSw
            try simp only [Cells, blk, List.cons_append, List.nil_append, and_true, Nat.reduceAdd, Nat.add_zero, Nat.zero_add] at hSw
            go_simp
            try with_reducible rfl
          simp only [Act.put, List.setIfInBounds_toArray, List.set_cons_zero, List.set_cons_succ]
          refine wpAnyH_done (by kernel_rfl) ?_ _
          clear T T3 hB3
          go_wp2
          have hmh := HMH.out
          refine ⟨⟨x, h, rfl, rfl, hsx, by omega, by omega, HLO.out, .inr (by rw [HPC.out]; exact hlt2), hr3, hs3⟩, ?_⟩
          simp [intOf]
          omega
        · have g2 : decide (c < 0) = false := by simpa using hl2
          have hnl : ¬ lt (p pc) (p h) := fun hx => hl2 (HC1.out.2 hx)
          go_wp2_with fail
          refine wp_region_held_drew (S := (fun W' : World => Cells W' (blk b (off + pc * 5) 0 [(es (p pc)).c0, (es (p pc)).c1, (es (p pc)).c2, (es (p pc)).c3, (es (p pc)).c4] ++ blk b (off + h * 5) 0 [(es (p h)).c0, (es (p h)).c1, (es (p h)).c2, (es (p h)).c3, (es (p h)).c4]))) (by kernel_rfl) (T.drew) (fun hHeld => ?_)
          refine wpAnyH_take (i := 0) (oi := _) (v := ?_) (by rw [List.getElem?_toArray]; rfl) (by kernel_rfl) (by kernel_rfl) (by kernel_rfl) (by exact fun _ _ _ h => h) (Or.inl ⟨by rfl, ?_⟩) (by assumption) ?_
          rotate_left
          · intro w hSw
            try simp only [Cells, blk, List.cons_append, List.nil_append, and_true, Nat.reduceAdd, Nat.add_zero, Nat.zero_add] at hSw
            go_simp
            try with_reducible rfl
          simp only [Act.put, List.setIfInBounds_toArray, List.set_cons_zero, List.set_cons_succ]
          refine wpAnyH_take (i := 1) (oi := _) (v := ?_) (by rw [List.getElem?_toArray]; rfl) (by kernel_rfl) (by kernel_rfl) (by kernel_rfl) (by exact fun _ _ _ h => h) (Or.inl ⟨by rfl, ?_⟩) (by assumption) ?_
          rotate_left
          · intro w hSw
            try simp only [Cells, blk, List.cons_append, List.nil_append, and_true, Nat.reduceAdd, Nat.add_zero, Nat.zero_add] at hSw
            go_simp
            try with_reducible rfl
          simp only [Act.put, List.setIfInBounds_toArray, List.set_cons_zero, List.set_cons_succ]
          refine wpAnyH_take (i := 2) (oi := _) (v := ?_) (by rw [List.getElem?_toArray]; rfl) (by kernel_rfl) (by kernel_rfl) (by kernel_rfl) (by exact fun _ _ _ h => h) (Or.inl ⟨by rfl, ?_⟩) (by assumption) ?_
          rotate_left
          · intro w hSw
            try simp only [Cells, blk, List.cons_append, List.nil_append, and_true, Nat.reduceAdd, Nat.add_zero, Nat.zero_add] at hSw
            go_simp
            try with_reducible rfl
          simp only [Act.put, List.setIfInBounds_toArray, List.set_cons_zero, List.set_cons_succ]
          refine wpAnyH_take (i := 3) (oi := _) (v := ?_) (by rw [List.getElem?_toArray]; rfl) (by kernel_rfl) (by kernel_rfl) (by kernel_rfl) (by exact fun _ _ _ h => h) (Or.inl ⟨by rfl, ?_⟩) (by assumption) ?_
          rotate_left
          · intro w hSw
            try simp only [Cells, blk, List.cons_append, List.nil_append, and_true, Nat.reduceAdd, Nat.add_zero, Nat.zero_add] at hSw
            go_simp
            try with_reducible rfl
          simp only [Act.put, List.setIfInBounds_toArray, List.set_cons_zero, List.set_cons_succ]
          refine wpAnyH_take (i := 4) (oi := _) (v := ?_) (by rw [List.getElem?_toArray]; rfl) (by kernel_rfl) (by kernel_rfl) (by kernel_rfl) (by exact fun _ _ _ h => h) (Or.inl ⟨by rfl, ?_⟩) (by assumption) ?_
          rotate_left
          · intro w hSw
            try simp only [Cells, blk, List.cons_append, List.nil_append, and_true, Nat.reduceAdd, Nat.add_zero, Nat.zero_add] at hSw
            go_simp
            try with_reducible rfl
          simp only [Act.put, List.setIfInBounds_toArray, List.set_cons_zero, List.set_cons_succ]
          refine wpAnyH_take (i := 5) (oi := _) (v := ?_) (by rw [List.getElem?_toArray]; rfl) (by kernel_rfl) (by kernel_rfl) (by kernel_rfl) (by exact fun _ _ _ h => h) (Or.inl ⟨by rfl, ?_⟩) (by assumption) ?_
          rotate_left
          · intro w hSw
            try simp only [Cells, blk, List.cons_append, List.nil_append, and_true, Nat.reduceAdd, Nat.add_zero, Nat.zero_add] at hSw
            go_simp
            try with_reducible rfl
          simp only [Act.put, List.setIfInBounds_toArray, List.set_cons_zero, List.set_cons_succ]
          refine wpAnyH_take (i := 6) (oi := _) (v := ?_) (by rw [List.getElem?_toArray]; rfl) (by kernel_rfl) (by kernel_rfl) (by kernel_rfl) (by exact fun _ _ _ h => h) (Or.inl ⟨by rfl, ?_⟩) (by assumption) ?_
          rotate_left
          · intro w hSw
            try simp only [Cells, blk, List.cons_append, List.nil_append, and_true, Nat.reduceAdd, Nat.add_zero, Nat.zero_add] at hSw
            go_simp
            try with_reducible rfl
          simp only [Act.put, List.setIfInBounds_toArray, List.set_cons_zero, List.set_cons_succ]
          refine wpAnyH_take (i := 7) (oi := _) (v := ?_) (by rw [List.getElem?_toArray]; rfl) (by kernel_rfl) (by kernel_rfl) (by kernel_rfl) (by exact fun _ _ _ h => h) (Or.inl ⟨by rfl, ?_⟩) (by assumption) ?_
          rotate_left
          · intro w hSw
            try simp only [Cells, blk, List.cons_append, List.nil_append, and_true, Nat.reduceAdd, Nat.add_zero, Nat.zero_add] at hSw
            go_simp
            try with_reducible rfl
          simp only [Act.put, List.setIfInBounds_toArray, List.set_cons_zero, List.set_cons_succ]
          refine wpAnyH_take (i := 8) (oi := _) (v := ?_) (by rw [List.getElem?_toArray]; rfl) (by kernel_rfl) (by kernel_rfl) (by kernel_rfl) (by exact fun _ _ _ h => h) (Or.inl ⟨by rfl, ?_⟩) (by assumption) ?_
          rotate_left
          · intro w hSw
            try simp only [Cells, blk, List.cons_append, List.nil_append, and_true, Nat.reduceAdd, Nat.add_zero, Nat.zero_add] at hSw
            go_simp
            try with_reducible rfl
          simp only [Act.put, List.setIfInBounds_toArray, List.set_cons_zero, List.set_cons_succ]
          refine wpAnyH_take (i := 9) (oi := _) (v := ?_) (by rw [List.getElem?_toArray]; rfl) (by kernel_rfl) (by kernel_rfl) (by kernel_rfl) (by exact fun _ _ _ h => h) (Or.inl ⟨by rfl, ?_⟩) (by assumption) ?_
          rotate_left
          · intro w hSw
            try simp only [Cells, blk, List.cons_append, List.nil_append, and_true, Nat.reduceAdd, Nat.add_zero, Nat.zero_add] at hSw
            go_simp
            try with_reducible rfl
          simp only [Act.put, List.setIfInBounds_toArray, List.set_cons_zero, List.set_cons_succ]
          refine wpAnyH_take (i := 10) (oi := _) (v := ?_) (by rw [List.getElem?_toArray]; rfl) (by kernel_rfl) (by kernel_rfl) (by kernel_rfl) (by exact fun _ _ _ h => h) (Or.inl ⟨by rfl, ?_⟩) (by assumption) ?_
          rotate_left
          · intro w hSw
            try simp only [Cells, blk, List.cons_append, List.nil_append, and_true, Nat.reduceAdd, Nat.add_zero, Nat.zero_add] at hSw
            go_simp
            try with_reducible rfl
          simp only [Act.put, List.setIfInBounds_toArray, List.set_cons_zero, List.set_cons_succ]
          refine wpAnyH_ready (rs := [11]) (by kernel_rfl) (by simp) (AllReadyH.cons (o := _) (by rw [List.getElem?_toArray]; rfl) (fun K hK => ?_) AllReadyH.nil)
          go_simp
          go_at_call 48
          refine (HC2.out _).mono ?_
          rintro x w3 ⟨rfl, hB3⟩
          have T3 := Cells.keep (T.drew) hB3
          obtain ⟨hr3, hs3⟩ := ST.out w3 hB3
          clear hHeld
          refine hK.out _ _ (T3) (fun hHeld => ?_)
          clear hK K
          try simp only [Act.put, List.setIfInBounds_toArray, List.set_cons_zero, List.set_cons_succ]
          refine wpAnyH_take (i := 12) (oi := _) (v := ?_) (by rw [List.getElem?_toArray]; rfl) (by kernel_rfl) (by kernel_rfl) (by kernel_rfl) (by exact fun _ _ _ h => h) (Or.inl ⟨by rfl, ?_⟩) (by assumption) ?_
          rotate_left
          · intro w hSw
            try simp only [Cells, blk, List.cons_append, List.nil_append, and_true, Nat.reduceAdd, Nat.add_zero, Nat.zero_add] at hSw
            go_simp
            try with_reducible rfl
          simp only [Act.put, List.setIfInBounds_toArray, List.set_cons_zero, List.set_cons_succ]
          refine wpAnyH_take (i := 13) (oi := _) (v := ?_) (by rw [List.getElem?_toArray]; rfl) (by kernel_rfl) (by kernel_rfl) (by kernel_rfl) (by exact fun _ _ _ h => h) (Or.inl ⟨by rfl, ?_⟩) (by assumption) ?_
          rotate_left
          · intro w hSw
            try simp only [Cells, blk, List.cons_append, List.nil_append, and_true, Nat.reduceAdd, Nat.add_zero, Nat.zero_add] at hSw
            go_simp
            try with_reducible rfl
          simp only [Act.put, List.setIfInBounds_toArray, List.set_cons_zero, List.set_cons_succ]
          refine wpAnyH_done (by kernel_rfl) ?_ _
          clear T T3 hB3
          go_wp2
          have hmh := HMH.out
          refine ⟨⟨h + 1, y, by simp, rfl, by omega, by omega, hyr, .inr (by rw [hmh.2.2, Nat.add_sub_cancel]; exact hnl), HHI.out, hr3, hs3⟩, ?_⟩
          simp [intOf]
          omega
      · have e1 : x = y := by omega
        subst e1
        have g1 : decide (x < x) = false := by simp
        obtain ⟨en, hen'⟩ : ∃ en, nn - x = en := ⟨_, rfl⟩
        have v5 : IntKind.i64.wrap ((nn : Int) - (x : Int)) = (en : Int) := by rw [IntWalk.i64_in _ (by omega)]; omega
        have hnn := HNN.out
        have hme' : mid + m - x = en := by omega
        have cr := sym_cross hlt ham hme HS1.out HS2.out HIDX.out (mid := mid) (s := x) (by omega) (by omega) (by omega) (by omega) (by omega) (by omega)
          (by
            rcases hlo with h | h
            · rcases h0.2.2.2.2.2.1 with h1 | h1
              · exact .inl (by omega)
              · exact .inr (.inl (by omega))
            · exact .inr (.inr (by rw [show mid + m - x = nn - x by omega]; exact h)))
          (by
            rcases hhi with h | h
            · rcases h0.2.2.2.2.2.2 with h1 | h1
              · exact .inl (by omega)
              · exact .inr (.inl (by omega))
            · exact .inr (.inr (by rw [show mid + m - x - 1 = nn - 1 - x by omega]; exact h)))
        rw [hme'] at cr
        have CR := Lib.hid cr
        have hqm := (mem_rot (p := p) (a := x) (m := m) (b := en) (by omega) (by omega)).wide (show a ≤ x by omega) (show en ≤ e by omega)
        have HQN := Lib.hid (Tx_mlt hqm hen HP.out)
        have HQM := Lib.hid hqm
        have HE := Lib.hid (show mid + m - x = en ∧ x ≤ m ∧ x ≤ mid ∧ en ≤ e ∧ a ≤ x ∧ m ≤ en by omega)
        clear cr hqm hlo hhi
        by_cases al : x < m
        · have be : x < mid := by omega
          by_cases ga : a < x
          · by_cases de : en < e
            · have t0 : decide (x < m) = true := by simp only [decide_eq_true_eq]; omega
              have t1 : decide (m < en) = true := by simp only [decide_eq_true_eq]; omega
              have t2 : decide (a < x) = true := by simp only [decide_eq_true_eq]; omega
              have t3 : decide (x < mid) = true := by simp only [decide_eq_true_eq]; omega
              have t4 : decide (mid < en) = true := by simp only [decide_eq_true_eq]; omega
              have t5 : decide (en < e) = true := by simp only [decide_eq_true_eq]; omega
              have ROT := Lib.hid (Tx_rot es p b off n cap wr hri hn HO.out x m en (by omega) (by omega) (by omega) (.func (.func 48) #[] #[]))
              have I1 := Lib.hid (fun (W : World) hW => IH.out (rot p x m en) W hW HQN.out a x mid (by omega) (by omega) (by omega) (by omega) CR.out.1 CR.out.2.1 CR.out.2.2.2.2.1)
              have I2 := Lib.hid (fun (W : World) (q1 : Nat → Nat) hW (hm : Mem (rot p x m en) q1 a mid) => IH.out q1 W hW (Tx_mlt hm (by omega) HQN.out) mid en e (by omega) (by omega) (by omega) (by omega)
                (CR.out.2.2.1.congr fun k h1 h2 => hm.out k (.inr h1)) (CR.out.2.2.2.1.congr fun k h1 h2 => hm.out k (by omega)) (fun i j h1 h2 h3 h4 => by rw [hm.out i (.inr h1), hm.out j (by omega)]; exact CR.out.2.2.2.2.2.1 i j h1 h2 h3 h4))
              have HSW := Lib.hid hsw
              clear hri hsw h0 hnn hme' hen'
              go_wp2_with fail
              go_at_call 80
              refine ROT.out.mono ?_
              rintro y w4 ⟨rfl, hr4, hs4⟩
              have hs4 := HSW.out.trans hs4
              go_wp2_with fail
              go_at_call 73
              refine (I1.out _ hr4).mono ?_
              rintro y w5 ⟨rfl, q1, hr5, hm5, ht5, hs5⟩
              have hs5 := hs4.trans hs5
              clear I1
              go_wp2_with fail
              go_at_call 73
              refine (I2.out _ q1 hr5 hm5).mono ?_
              rintro y w6 ⟨rfl, q2, hr6, hm6, ht6, hs6⟩
              have hs6 := hs5.trans hs6
              go_wp2
              go_end0
              obtain ⟨z1, z2⟩ := sym_done HQM.out CR.out.2.2.2.2.2.2 hm5 ht5 hm6 ht6 (by have := H0.out; omega) (by have := H0.out; omega)
              exact ⟨rfl, q2, hr6, z1, z2, hs6⟩
            · have t0 : decide (x < m) = true := by simp only [decide_eq_true_eq]; omega
              have t1 : decide (m < en) = true := by simp only [decide_eq_true_eq]; omega
              have t2 : decide (a < x) = true := by simp only [decide_eq_true_eq]; omega
              have t3 : decide (x < mid) = true := by simp only [decide_eq_true_eq]; omega
              have t4 : decide (mid < en) = true := by simp only [decide_eq_true_eq]; omega
              have t5 : decide (en < e) = false := by simp only [decide_eq_false_iff_not]; omega
              have ROT := Lib.hid (Tx_rot es p b off n cap wr hri hn HO.out x m en (by omega) (by omega) (by omega) (.func (.func 48) #[] #[]))
              have I1 := Lib.hid (fun (W : World) hW => IH.out (rot p x m en) W hW HQN.out a x mid (by omega) (by omega) (by omega) (by omega) CR.out.1 CR.out.2.1 CR.out.2.2.2.2.1)
              have HSW := Lib.hid hsw
              clear hri hsw h0 hnn hme' hen'
              go_wp2_with fail
              go_at_call 80
              refine ROT.out.mono ?_
              rintro y w4 ⟨rfl, hr4, hs4⟩
              have hs4 := HSW.out.trans hs4
              go_wp2_with fail
              go_at_call 73
              refine (I1.out _ hr4).mono ?_
              rintro y w5 ⟨rfl, q1, hr5, hm5, ht5, hs5⟩
              have hs5 := hs4.trans hs5
              clear I1
              obtain ⟨q2, hr6, hm6, ht6⟩ : ∃ q2, Row5 88 _ b off es q2 n ∧ Mem q1 q2 mid e ∧ Srt lt q2 mid e := ⟨_, hr5, Mem.refl _ _ _, by have h := CR.out.2.2.1; rw [show en = e by have := HE.out; omega] at h hm5; exact h.congr fun k h1 h2 => hm5.out k (.inr h1)⟩
              have hs6 := hs5
              go_wp2
              go_end0
              obtain ⟨z1, z2⟩ := sym_done HQM.out CR.out.2.2.2.2.2.2 hm5 ht5 hm6 ht6 (by have := H0.out; omega) (by have := H0.out; omega)
              exact ⟨rfl, q2, hr6, z1, z2, hs6⟩
          · by_cases de : en < e
            · have t0 : decide (x < m) = true := by simp only [decide_eq_true_eq]; omega
              have t1 : decide (m < en) = true := by simp only [decide_eq_true_eq]; omega
              have t2 : decide (a < x) = false := by simp only [decide_eq_false_iff_not]; omega
              have t3 : decide (x < mid) = true := by simp only [decide_eq_true_eq]; omega
              have t4 : decide (mid < en) = true := by simp only [decide_eq_true_eq]; omega
              have t5 : decide (en < e) = true := by simp only [decide_eq_true_eq]; omega
              have ROT := Lib.hid (Tx_rot es p b off n cap wr hri hn HO.out x m en (by omega) (by omega) (by omega) (.func (.func 48) #[] #[]))
              have I2 := Lib.hid (fun (W : World) (q1 : Nat → Nat) hW (hm : Mem (rot p x m en) q1 a mid) => IH.out q1 W hW (Tx_mlt hm (by omega) HQN.out) mid en e (by omega) (by omega) (by omega) (by omega)
                (CR.out.2.2.1.congr fun k h1 h2 => hm.out k (.inr h1)) (CR.out.2.2.2.1.congr fun k h1 h2 => hm.out k (by omega)) (fun i j h1 h2 h3 h4 => by rw [hm.out i (.inr h1), hm.out j (by omega)]; exact CR.out.2.2.2.2.2.1 i j h1 h2 h3 h4))
              have HSW := Lib.hid hsw
              clear hri hsw h0 hnn hme' hen'
              go_wp2_with fail
              go_at_call 80
              refine ROT.out.mono ?_
              rintro y w4 ⟨rfl, hr4, hs4⟩
              have hs4 := HSW.out.trans hs4
              obtain ⟨q1, hr5, hm5, ht5⟩ : ∃ q1, Row5 88 _ b off es q1 n ∧ Mem (rot p x m en) q1 a mid ∧ Srt lt q1 a mid := ⟨_, hr4, Mem.refl _ _ _, by have h := CR.out.2.1; have he := HE.out; rw [show x = a by omega] at h ⊢; exact h⟩
              have hs5 := hs4
              go_wp2_with fail
              go_at_call 73
              refine (I2.out _ q1 hr5 hm5).mono ?_
              rintro y w6 ⟨rfl, q2, hr6, hm6, ht6, hs6⟩
              have hs6 := hs5.trans hs6
              go_wp2
              go_end0
              obtain ⟨z1, z2⟩ := sym_done HQM.out CR.out.2.2.2.2.2.2 hm5 ht5 hm6 ht6 (by have := H0.out; omega) (by have := H0.out; omega)
              exact ⟨rfl, q2, hr6, z1, z2, hs6⟩
            · have t0 : decide (x < m) = true := by simp only [decide_eq_true_eq]; omega
              have t1 : decide (m < en) = true := by simp only [decide_eq_true_eq]; omega
              have t2 : decide (a < x) = false := by simp only [decide_eq_false_iff_not]; omega
              have t3 : decide (x < mid) = true := by simp only [decide_eq_true_eq]; omega
              have t4 : decide (mid < en) = true := by simp only [decide_eq_true_eq]; omega
              have t5 : decide (en < e) = false := by simp only [decide_eq_false_iff_not]; omega
              have ROT := Lib.hid (Tx_rot es p b off n cap wr hri hn HO.out x m en (by omega) (by omega) (by omega) (.func (.func 48) #[] #[]))
              have HSW := Lib.hid hsw
              clear hri hsw h0 hnn hme' hen'
              go_wp2_with fail
              go_at_call 80
              refine ROT.out.mono ?_
              rintro y w4 ⟨rfl, hr4, hs4⟩
              have hs4 := HSW.out.trans hs4
              obtain ⟨q1, hr5, hm5, ht5⟩ : ∃ q1, Row5 88 _ b off es q1 n ∧ Mem (rot p x m en) q1 a mid ∧ Srt lt q1 a mid := ⟨_, hr4, Mem.refl _ _ _, by have h := CR.out.2.1; have he := HE.out; rw [show x = a by omega] at h ⊢; exact h⟩
              have hs5 := hs4
              obtain ⟨q2, hr6, hm6, ht6⟩ : ∃ q2, Row5 88 _ b off es q2 n ∧ Mem q1 q2 mid e ∧ Srt lt q2 mid e := ⟨_, hr5, Mem.refl _ _ _, by have h := CR.out.2.2.1; rw [show en = e by have := HE.out; omega] at h hm5; exact h.congr fun k h1 h2 => hm5.out k (.inr h1)⟩
              have hs6 := hs5
              go_wp2
              go_end0
              obtain ⟨z1, z2⟩ := sym_done HQM.out CR.out.2.2.2.2.2.2 hm5 ht5 hm6 ht6 (by have := H0.out; omega) (by have := H0.out; omega)
              exact ⟨rfl, q2, hr6, z1, z2, hs6⟩
        · have ga : a < x := by omega
          by_cases de : en < e
          · by_cases be : x < mid
            · have t0 : decide (x < m) = false := by simp only [decide_eq_false_iff_not]; omega
              have t1 : decide (m < en) = true := by simp only [decide_eq_true_eq]; omega
              have t2 : decide (a < x) = true := by simp only [decide_eq_true_eq]; omega
              have t3 : decide (x < mid) = true := by simp only [decide_eq_true_eq]; omega
              have t4 : decide (mid < en) = false := by simp only [decide_eq_false_iff_not]; omega
              have t5 : decide (en < e) = true := by simp only [decide_eq_true_eq]; omega
              have hr4 : Row5 88 wr b off es (rot p x m en) n := by rw [show rot p x m en = p from by rw [show x = m by omega]; exact rot_left]; exact hri
              have HR4 := Lib.hid hr4
              clear hr4
              have I1 := Lib.hid (fun (W : World) hW => IH.out (rot p x m en) W hW HQN.out a x mid (by omega) (by omega) (by omega) (by omega) CR.out.1 CR.out.2.1 CR.out.2.2.2.2.1)
              have HSW := Lib.hid hsw
              clear hri hsw h0 hnn hme' hen'
              have hr4 := HR4.out
              have hs4 := HSW.out
              go_wp2_with fail
              go_at_call 73
              refine (I1.out _ hr4).mono ?_
              rintro y w5 ⟨rfl, q1, hr5, hm5, ht5, hs5⟩
              have hs5 := hs4.trans hs5
              clear I1
              obtain ⟨q2, hr6, hm6, ht6⟩ : ∃ q2, Row5 88 _ b off es q2 n ∧ Mem q1 q2 mid e ∧ Srt lt q2 mid e := ⟨_, hr5, Mem.refl _ _ _, by have h := CR.out.2.2.2.1; rw [show en = mid by have := HE.out; omega] at h hm5; exact h.congr fun k h1 h2 => hm5.out k (.inr h1)⟩
              have hs6 := hs5
              go_wp2
              go_end0
              obtain ⟨z1, z2⟩ := sym_done HQM.out CR.out.2.2.2.2.2.2 hm5 ht5 hm6 ht6 (by have := H0.out; omega) (by have := H0.out; omega)
              exact ⟨rfl, q2, hr6, z1, z2, hs6⟩
            · have t0 : decide (x < m) = false := by simp only [decide_eq_false_iff_not]; omega
              have t1 : decide (m < en) = false := by simp only [decide_eq_false_iff_not]; omega
              have t2 : decide (a < x) = true := by simp only [decide_eq_true_eq]; omega
              have t3 : decide (x < mid) = false := by simp only [decide_eq_false_iff_not]; omega
              have t4 : decide (mid < en) = false := by simp only [decide_eq_false_iff_not]; omega
              have t5 : decide (en < e) = true := by simp only [decide_eq_true_eq]; omega
              have hr4 : Row5 88 wr b off es (rot p x m en) n := by rw [show rot p x m en = p from by rw [show en = m by omega]; exact rot_right]; exact hri
              have HR4 := Lib.hid hr4
              clear hr4
              have HSW := Lib.hid hsw
              clear hri hsw h0 hnn hme' hen'
              have hr4 := HR4.out
              have hs4 := HSW.out
              obtain ⟨q1, hr5, hm5, ht5⟩ : ∃ q1, Row5 88 _ b off es q1 n ∧ Mem (rot p x m en) q1 a mid ∧ Srt lt q1 a mid := ⟨_, hr4, Mem.refl _ _ _, by have h := CR.out.1; have h0 := H0.out; rw [show x = mid by omega] at h ⊢; exact h⟩
              have hs5 := hs4
              obtain ⟨q2, hr6, hm6, ht6⟩ : ∃ q2, Row5 88 _ b off es q2 n ∧ Mem q1 q2 mid e ∧ Srt lt q2 mid e := ⟨_, hr5, Mem.refl _ _ _, by have h := CR.out.2.2.2.1; rw [show en = mid by have := HE.out; omega] at h hm5; exact h.congr fun k h1 h2 => hm5.out k (.inr h1)⟩
              have hs6 := hs5
              go_wp2
              go_end0
              obtain ⟨z1, z2⟩ := sym_done HQM.out CR.out.2.2.2.2.2.2 hm5 ht5 hm6 ht6 (by have := H0.out; omega) (by have := H0.out; omega)
              exact ⟨rfl, q2, hr6, z1, z2, hs6⟩
          · by_cases be : x < mid
            · have t0 : decide (x < m) = false := by simp only [decide_eq_false_iff_not]; omega
              have t1 : decide (m < en) = true := by simp only [decide_eq_true_eq]; omega
              have t2 : decide (a < x) = true := by simp only [decide_eq_true_eq]; omega
              have t3 : decide (x < mid) = true := by simp only [decide_eq_true_eq]; omega
              have t4 : decide (mid < en) = false := by simp only [decide_eq_false_iff_not]; omega
              have t5 : decide (en < e) = false := by simp only [decide_eq_false_iff_not]; omega
              have hr4 : Row5 88 wr b off es (rot p x m en) n := by rw [show rot p x m en = p from by rw [show x = m by omega]; exact rot_left]; exact hri
              have HR4 := Lib.hid hr4
              clear hr4
              have I1 := Lib.hid (fun (W : World) hW => IH.out (rot p x m en) W hW HQN.out a x mid (by omega) (by omega) (by omega) (by omega) CR.out.1 CR.out.2.1 CR.out.2.2.2.2.1)
              have HSW := Lib.hid hsw
              clear hri hsw h0 hnn hme' hen'
              have hr4 := HR4.out
              have hs4 := HSW.out
              go_wp2_with fail
              go_at_call 73
              refine (I1.out _ hr4).mono ?_
              rintro y w5 ⟨rfl, q1, hr5, hm5, ht5, hs5⟩
              have hs5 := hs4.trans hs5
              clear I1
              obtain ⟨q2, hr6, hm6, ht6⟩ : ∃ q2, Row5 88 _ b off es q2 n ∧ Mem q1 q2 mid e ∧ Srt lt q2 mid e := ⟨_, hr5, Mem.refl _ _ _, by have h := CR.out.2.2.2.1; rw [show en = mid by have := HE.out; omega] at h hm5; exact h.congr fun k h1 h2 => hm5.out k (.inr h1)⟩
              have hs6 := hs5
              go_wp2
              go_end0
              obtain ⟨z1, z2⟩ := sym_done HQM.out CR.out.2.2.2.2.2.2 hm5 ht5 hm6 ht6 (by have := H0.out; omega) (by have := H0.out; omega)
              exact ⟨rfl, q2, hr6, z1, z2, hs6⟩
            · have t0 : decide (x < m) = false := by simp only [decide_eq_false_iff_not]; omega
              have t1 : decide (m < en) = false := by simp only [decide_eq_false_iff_not]; omega
              have t2 : decide (a < x) = true := by simp only [decide_eq_true_eq]; omega
              have t3 : decide (x < mid) = false := by simp only [decide_eq_false_iff_not]; omega
              have t4 : decide (mid < en) = false := by simp only [decide_eq_false_iff_not]; omega
              have t5 : decide (en < e) = false := by simp only [decide_eq_false_iff_not]; omega
              have hr4 : Row5 88 wr b off es (rot p x m en) n := by rw [show rot p x m en = p from by rw [show en = m by omega]; exact rot_right]; exact hri
              have HR4 := Lib.hid hr4
              clear hr4
              have HSW := Lib.hid hsw
              clear hri hsw h0 hnn hme' hen'
              have hr4 := HR4.out
              have hs4 := HSW.out
              obtain ⟨q1, hr5, hm5, ht5⟩ : ∃ q1, Row5 88 _ b off es q1 n ∧ Mem (rot p x m en) q1 a mid ∧ Srt lt q1 a mid := ⟨_, hr4, Mem.refl _ _ _, by have h := CR.out.1; have h0 := H0.out; rw [show x = mid by omega] at h ⊢; exact h⟩
              have hs5 := hs4
              obtain ⟨q2, hr6, hm6, ht6⟩ : ∃ q2, Row5 88 _ b off es q2 n ∧ Mem q1 q2 mid e ∧ Srt lt q2 mid e := ⟨_, hr5, Mem.refl _ _ _, by have h := CR.out.2.2.2.1; rw [show en = mid by have := HE.out; omega] at h hm5; exact h.congr fun k h1 h2 => hm5.out k (.inr h1)⟩
              have hs6 := hs5
              go_wp2
              go_end0
              obtain ⟨z1, z2⟩ := sym_done HQM.out CR.out.2.2.2.2.2.2 hm5 ht5 hm6 ht6 (by have := H0.out; omega) (by have := H0.out; omega)
              exact ⟨rfl, q2, hr6, z1, z2, hs6⟩
end Go.Proofs.YtccknpdnapoboaaDoor
namespace Go.Proofs.YtccknpdnapoboaaDoor
open Go.RowKit

theorem Tx_sym (es : Nat → El) (b off n cap : Nat) (hn : n ≤ 1099511627776) (ho : ∀ x, (es x).one) (lt : Nat → Nat → Prop) (hlt : Swo lt) (hc : CmpOk Tryd.prog 48 lt es n) : ∀ (N : Nat) (p : Nat → Nat) (w : World), Row5 88 w b off es p n → (∀ k, k < n → p k < n) →
    ∀ a m e, a < m → m < e → e ≤ n → e - a ≤ N → Srt lt p a m → Srt lt p m e → (∀ i j, a ≤ i → i < m → m ≤ j → j < e → p i < p j) → Calls Tryd.prog 73 #[.slice (some ⟨b, off, none⟩) n cap, .int .i64 a, .int .i64 m, .int .i64 e, .func (.func 48) #[] #[]] w
      fun x w' => x = .returned (.tuple #[]) ∧ ∃ p', Row5 88 w' b off es p' n ∧ Mem p p' a e ∧ Srt lt p' a e ∧ Sw b w w'  := by
  intro N
  induction N with
  | zero => intro p w hr hp a m e h1 h2 h3 h4; omega
  | succ N ih =>
    intro p w hr hp a m e h1 h2 h3 h4 hs1 hs2 hidx
    by_cases c1 : m = a + 1
    · exact Tx_sym1 es p b off n cap w hr hn ho lt hlt hc hp a m e h1 h2 h3 hs1 hs2 hidx c1
    · by_cases c2 : e = m + 1
      · exact Tx_sym2 es p b off n cap w hr hn ho lt hlt hc hp a m e h1 h2 h3 hs1 hs2 hidx (by omega) c2
      · exact Tx_sym3 es p b off n cap w hr hn ho lt hlt hc hp a m e h1 h2 h3 hs1 hs2 hidx (by omega) (by omega) (fun p' w' hr' hp' a' m' e' k1 k2 k3 k4 => ih p' w' hr' hp' a' m' e' k1 k2 k3 (by omega))
theorem good_idx {lt : Nat → Nat → Prop} {q : Nat → Nat} {a m e : Nat} (h1 : Good lt q a m) (h2 : Good lt q m e) : ∀ i j, a ≤ i → i < m → m ≤ j → j < e → q i < q j := fun i j l1 l2 l3 l4 => by
  have := h1.own i l1 l2
  have := h2.own j l3 l4
  omega
set_option linter.unusedSimpArgs false in
set_option linter.unusedVariables false in
set_option maxRecDepth 100000 in
set_option maxHeartbeats 4000000 in
theorem Tx_stable (es : Nat → El) (b off n cap : Nat) (w : World) (hr : Row5 88 w b off es (fun k => k) n) (hn : n ≤ 1099511627776) (ho : ∀ x, (es x).one) (lt : Nat → Nat → Prop) (hlt : Swo lt) (hc : CmpOk Tryd.prog 48 lt es n) :
    Calls Tryd.prog 64 #[.slice (some ⟨b, off, none⟩) n cap, .int .i64 n, .func (.func 48) #[] #[]] w
      fun x w' => x = .returned (.tuple #[]) ∧ ∃ p', Row5 88 w' b off es p' n ∧ Mem (fun k => k) p' 0 n ∧ Srt lt p' 0 n ∧ Sw b w w' := by
  have SYM := Lib.hid (Tx_sym es b off n cap hn ho lt hlt hc)
  have INS := Lib.hid (fun (p : Nat → Nat) (w : World) hr hp a e hae hen hid => Tx_ins es p b off n cap w hr hn ho lt hlt hc hp a e hae hen hid)
  have hmi : ∀ k, k < n → (fun k : Nat => k) k < n := fun k h => h
  have HMI := Lib.hid hmi
  clear hc ho hmi
  go_enter Tryd.func64, Tryd.ntmps64
  go_wp2
  go_loopw [7, 8] (fun vi vj wr => ∃ (a c : Nat) (q : Nat → Nat), vi = .int .i64 a ∧ vj = .int .i64 c ∧ c = a + 20 ∧ a ≤ n ∧ Row5 88 wr b off es q n ∧ Sw b w wr ∧ Mem (fun k => k) q 0 n ∧ Pre lt q 20 a ∧ (∀ k, a ≤ k → q k = k)) (fun vi _ _ => n - (intOf vi).toNat)
  case atStart => exact ⟨0, 20, _, rfl, rfl, rfl, Nat.zero_le _, hr, Sw.refl _ _, Mem.refl _ _ _, .nil, fun _ _ => rfl⟩
  case round =>
    obtain ⟨a, c, q, rfl, rfl, hca, han, hri, hsw, hm, hpre, hid⟩ := hrel
    have hqn := Tx_mlt hm (Nat.le_refl _) HMI.out
    by_cases hcn : c ≤ n
    · have g1 : decide (c ≤ n) = true := by simpa using hcn
      obtain ⟨c2, hc2⟩ : ∃ c2, c + 20 = c2 := ⟨_, rfl⟩
      have w1 : IntKind.i64.wrap ((c : Int) + 20) = (c2 : Int) := by rw [IntWalk.i64_in _ (by omega)]; omega
      have CALL := Lib.hid (INS.out q wr hri hqn a c (by omega) hcn (fun k h1 h2 => hid k h1))
      have HM := Lib.hid hm
      have HPRE := Lib.hid hpre
      have HID := Lib.hid hid
      have HSW := Lib.hid hsw
      have HCA := Lib.hid hca
      have HC2 := Lib.hid hc2
      clear hri hsw hm hpre hid hqn hr hca hc2
      go_wp2_with (go_at_call 72; refine CALL.out.mono ?_; rintro y w3 ⟨rfl, q', hr3, hm3, ht3, hs3⟩)
      have hca := HCA.out
      have hc2 := HC2.out
      refine ⟨⟨c, c2, q', rfl, rfl, by omega, hcn, hr3, HSW.out.trans hs3, HM.out.trans (hm3.wide (Nat.zero_le _) hcn), ?_, fun k h1 => ?_⟩, ?_⟩
      · rw [hca]
        refine .snoc a (HPRE.out.congr fun k h1 => hm3.out k (.inl h1)) ⟨by rw [hca] at ht3; exact ht3, fun i h1 h2 => ?_⟩
        obtain ⟨j, m1, m2, e1⟩ := hm3.from' i h1 (by omega)
        rw [e1, HID.out j m1]
        omega
      · rw [hm3.out k (.inr h1)]
        exact HID.out k (by omega)
      · simp [intOf]
        omega
    · have g1 : decide (c ≤ n) = false := by simpa using hcn
      have CALL := Lib.hid (INS.out q wr hri hqn a n han (Nat.le_refl _) (fun k h1 h2 => hid k h1))
      have HM := Lib.hid hm
      have HPRE := Lib.hid hpre
      have HID := Lib.hid hid
      have HSW := Lib.hid hsw
      clear hri hsw hm hpre hid hqn hr
      go_wp2_with (go_at_call 72; refine CALL.out.mono ?_; rintro y w3 ⟨rfl, q', hr3, hm3, ht3, hs3⟩)
      have hb0 : Blocks lt q' 20 n 0 := by
        refine (HPRE.out.congr fun k h1 => hm3.out k (.inl h1)).all (by decide) (.last a han (by omega) ⟨ht3, fun i h1 h2 => ?_⟩)
        obtain ⟨j, m1, m2, e1⟩ := hm3.from' i h1 h2
        rw [e1, HID.out j m1]
        omega
      have hm0 := HM.out.trans (hm3.wide (Nat.zero_le _) (Nat.le_refl _))
      have hs0 := HSW.out.trans hs3
      go_loopw [6, 7, 8, 9] (fun v6 v7 v8 v9 wr => ∃ (s : Nat) (q : Nat → Nat), v6 = .int .i64 s ∧ 0 < s ∧ s ≤ 2 * n + 20 ∧ Row5 88 wr b off es q n ∧ Sw b w wr ∧ Mem (fun k => k) q 0 n ∧ Blocks lt q s n 0) (fun v6 _ _ _ _ => n - (intOf v6).toNat)
      case atStart => exact ⟨20, q', rfl, by decide, by omega, hr3, hs0, hm0, hb0⟩
      case round =>
        clear hr3 hs0 hm0 hb0 hm3 ht3 hs3 HM HPRE HID HSW CALL
        obtain ⟨s, q, rfl, hsp, hsn, hri, hsw, hm, hb⟩ := hrel
        by_cases hlt1 : s < n
        · have g2 : decide (s < n) = true := by simpa using hlt1
          obtain ⟨s2, hs2⟩ : ∃ s2, 2 * s = s2 := ⟨_, rfl⟩
          have w2 : IntKind.i64.wrap (2 * (s : Int)) = (s2 : Int) := by rw [IntWalk.i64_in _ (by omega)]; omega
          have w3 : IntKind.i64.wrap ((s : Int) * 2) = (s2 : Int) := by rw [IntWalk.i64_in _ (by omega)]; omega
          have HRI := Lib.hid hri
          have HSW := Lib.hid hsw
          have HM := Lib.hid hm
          have HB := Lib.hid hb
          have HS2 := Lib.hid hs2
          clear hri hsw hm hb hs2
          go_wp2
          go_loopw [7, 8] (fun vi vj wr => ∃ (a c : Nat) (q : Nat → Nat), vi = .int .i64 a ∧ vj = .int .i64 c ∧ c = a + s2 ∧ a ≤ n ∧ Row5 88 wr b off es q n ∧ Sw b w wr ∧ Mem (fun k => k) q 0 n ∧ Pre lt q s2 a ∧ Blocks lt q s n a) (fun vi _ _ => n - (intOf vi).toNat)
          case atStart => exact ⟨0, s2, q, rfl, rfl, by omega, Nat.zero_le _, HRI.out, HSW.out, HM.out, .nil, HB.out⟩
          case round =>
            clear HRI HSW HM HB
            obtain ⟨a, c, q, rfl, rfl, hca, han, hri, hsw, hm, hpre, hb⟩ := hrel
            have hs2 := HS2.out
            have hqn := Tx_mlt hm (Nat.le_refl _) HMI.out
            obtain ⟨mm, hmm⟩ : ∃ k, a + s = k := ⟨_, rfl⟩
            have w4 : IntKind.i64.wrap ((a : Int) + (s : Int)) = (mm : Int) := by rw [IntWalk.i64_in _ (by omega)]; omega
            by_cases hcn : c ≤ n
            · have g3 : decide (c ≤ n) = true := by simpa using hcn
              obtain ⟨c2, hc2⟩ : ∃ c2, c + s2 = c2 := ⟨_, rfl⟩
              have w5 : IntKind.i64.wrap ((c : Int) + (s2 : Int)) = (c2 : Int) := by rw [IntWalk.i64_in _ (by omega)]; omega
              obtain ⟨b1, b2, b3⟩ := hb.two hsp (by omega)
              rw [show a + 2 * s = c by omega] at b2 b3
              rw [hmm] at b1 b2
              have CALL := Lib.hid (SYM.out (c - a) q wr hri hqn a mm c (by omega) (by omega) hcn (Nat.le_refl _) b1.srt b2.srt (good_idx b1 b2))
              have B1 := Lib.hid b1
              have B2 := Lib.hid b2
              have B3 := Lib.hid b3
              have HM := Lib.hid hm
              have HPRE := Lib.hid hpre
              have HSW := Lib.hid hsw
              have HX := Lib.hid (show c = a + s2 ∧ c2 = c + s2 ∧ 2 * s = s2 ∧ a + s = mm by omega)
              clear hri hsw hm hpre hqn b1 b2 b3 hb hca hs2 hmm hc2
              go_wp2_with (go_at_call 73; refine CALL.out.mono ?_; rintro y w3 ⟨rfl, q', hr3, hm3, ht3, hs3⟩)
              obtain ⟨hx1, hx2, hx3, hx4⟩ := HX.out
              refine ⟨⟨c, c2, q', rfl, rfl, by omega, hcn, hr3, HSW.out.trans hs3, HM.out.trans (hm3.wide (Nat.zero_le _) hcn), ?_, B3.out.congr fun k h1 h2 => hm3.out k (.inr h1)⟩, ?_⟩
              · have hj := B1.out.join B2.out (by omega) hm3 ht3
                rw [hx1] at hj ⊢
                exact .snoc a (HPRE.out.congr fun k h1 => hm3.out k (.inl h1)) hj
              · simp [intOf]
                omega
            · have g3 : decide (c ≤ n) = false := by simpa using hcn
              obtain ⟨t1, t2⟩ := hb.tail (show n < a + 2 * s by omega)
              rw [hmm] at t1 t2
              by_cases hmn : mm < n
              · have g4 : decide (mm < n) = true := by simpa using hmn
                obtain ⟨b1, b2⟩ := t1 hmn
                have CALL := Lib.hid (SYM.out (n - a) q wr hri hqn a mm n (by omega) hmn (Nat.le_refl _) (Nat.le_refl _) b1.srt b2.srt (good_idx b1 b2))
                have B1 := Lib.hid b1
                have B2 := Lib.hid b2
                have HM := Lib.hid hm
                have HPRE := Lib.hid hpre
                have HSW := Lib.hid hsw
                have HX := Lib.hid (show c = a + s2 ∧ 2 * s = s2 ∧ a + s = mm by omega)
                clear hri hsw hm hpre hqn b1 b2 t1 t2 hb hca hs2 hmm
                go_wp2_with (go_at_call 73; refine CALL.out.mono ?_; rintro y w3 ⟨rfl, q', hr3, hm3, ht3, hs3⟩)
                obtain ⟨hx1, hx2, hx3⟩ := HX.out
                refine ⟨⟨s2, q', rfl, by omega, by omega, hr3, HSW.out.trans hs3, HM.out.trans (hm3.wide (Nat.zero_le _) (Nat.le_refl _)), ?_⟩, ?_⟩
                · exact (HPRE.out.congr fun k h1 => hm3.out k (.inl h1)).all (by omega) (.last a han (by omega) (B1.out.join B2.out (by omega) hm3 ht3))
                · simp [intOf]
                  omega
              · have g4 : decide (mm < n) = false := by simpa using hmn
                have fin : Blocks lt q s2 n 0 := hpre.all (by omega) (.last a han (by omega) (t2 (by omega)))
                have HM := Lib.hid hm
                have FIN := Lib.hid fin
                have HSW := Lib.hid hsw
                have HRI := Lib.hid hri
                have HX := Lib.hid (show 2 * s = s2 by omega)
                clear hri hsw hm hpre hqn t1 t2 hb hca hs2 hmm fin
                go_wp2
                have hx := HX.out
                refine ⟨⟨s2, q, rfl, by omega, by omega, HRI.out, HSW.out, HM.out, FIN.out⟩, ?_⟩
                simp [intOf]
                omega
        · have g2 : decide (s < n) = false := by simpa using hlt1
          have hw := hb.whole (by omega)
          go_wp2
          go_end0
          exact ⟨rfl, q, hri, hm, hw.srt, hsw⟩
theorem Tx_sort (es : Nat → El) (b off n cap : Nat) (w : World) (hr : Row5 88 w b off es (fun k => k) n) (hn : n ≤ 1099511627776) (ho : ∀ x, (es x).one) (lt : Nat → Nat → Prop) (hlt : Swo lt) (hc : CmpOk Tryd.prog 48 lt es n) :
    Calls Tryd.prog 47 #[.slice (some ⟨b, off, none⟩) n cap, .func (.func 48) #[] #[]] w
      fun x w' => x = .returned (.tuple #[]) ∧ ∃ p', Row5 88 w' b off es p' n ∧ Mem (fun k => k) p' 0 n ∧ Srt lt p' 0 n ∧ Sw b w w' := by
  have CALL := Lib.hid (Tx_stable es b off n cap w hr hn ho lt hlt hc)
  clear hr ho hc
  go_enter Tryd.func47, Tryd.ntmps47
  go_wp2_with (go_at_call 64; refine CALL.out.mono ?_; rintro y w3 ⟨rfl, h3⟩)
  go_end0
  exact ⟨rfl, h3⟩
end Go.Proofs.YtccknpdnapoboaaDoor
