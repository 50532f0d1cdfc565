/- the stable sort's merge, both parts longer: halving, a rotation, and twice itself. -/
import Derived.Test.YteblimdbkiiaaaaFdM
import Derived.Test.YteblimdbkiiaaaaFdT
import Derived.Test.YteblimdbkiiaaaaFdI
namespace Go.Proofs.Yteblimdbkiiaaaa
open Go.RowKit

theorem sym_done {lt : Nat → Nat → Prop} {p q0 q1 q2 : Nat → Nat} {a mid e : Nat} (h0 : Mem p q0 a e) (hc : ∀ i j, a ≤ i → i < mid → mid ≤ j → j < e → Lx lt (q0 i) (q0 j)) (h1 : Mem q0 q1 a mid) (s1 : Srt lt q1 a mid)
    (h2 : Mem q1 q2 mid e) (s2 : Srt lt q2 mid e) (hm1 : a ≤ mid) (hm2 : mid ≤ e) : Mem p q2 a e ∧ Srt lt q2 a e := by
  refine ⟨(h0.trans (h1.wide (Nat.le_refl _) hm2)).trans (h2.wide hm1 (Nat.le_refl _)), Srt.join (s1.congr fun k l1 l2 => h2.out k (.inl l2)) s2 fun i j l1 l2 l3 l4 => ?_⟩
  rw [h2.out i (.inl l2)]
  obtain ⟨j', m1, m2, e2⟩ := h2.from' j l3 l4
  obtain ⟨i', n1, n2, e1⟩ := h1.from' i l1 l2
  rw [e2, e1, h1.out j' (.inr m1)]
  exact hc i' j' n1 n2 m1 m2
set_option linter.unusedSimpArgs false in
set_option linter.unusedVariables false in
set_option maxRecDepth 100000 in
set_option maxHeartbeats 8000000 in
theorem Fd_sym3 (es : Nat → El) (p : Nat → Nat) (b off n cap : Nat) (w : World) (hr : Row6 53 w b off es p n) (hn : n ≤ 1099511627776) (ho : ∀ x, (es x).one) (lt : Nat → Nat → Prop) (hlt : Swo lt) (hc : CmpOk Try.prog 33 lt es n) (hp : ∀ k, k < n → p k < n) (a m e : Nat) (ham : a < m) (hme : m < e) (hen : e ≤ n) (hs1 : Srt lt p a m) (hs2 : Srt lt p m e) (hidx : ∀ i j, a ≤ i → i < m → m ≤ j → j < e → p i < p j) (hno : a + 1 < m) (hno2 : m + 1 < e)
    (ih : ∀ (p : Nat → Nat) (w : World), Row6 53 w b off es p n → (∀ k, k < n → p k < n) → ∀ a' m' e', a' < m' → m' < e' → e' ≤ n → e' - a' < e - a → Srt lt p a' m' → Srt lt p m' e' → (∀ i j, a' ≤ i → i < m' → m' ≤ j → j < e' → p i < p j) →
      Calls Try.prog 64 #[.slice (some ⟨b, off, none⟩) n cap, .int .i64 a', .int .i64 m', .int .i64 e', .func (.func 33) #[] #[]] w
        fun x w' => x = .returned (.tuple #[]) ∧ ∃ p', Row6 53 w' b off es p' n ∧ Mem p p' a' e' ∧ Srt lt p' a' e' ∧ Sw b w w') :
    Calls Try.prog 64 #[.slice (some ⟨b, off, none⟩) n cap, .int .i64 a, .int .i64 m, .int .i64 e, .func (.func 33) #[] #[]] w
      fun x w' => x = .returned (.tuple #[]) ∧ ∃ p', Row6 53 w' b off es p' n ∧ Mem p p' a e ∧ Srt lt p' a e ∧ Sw b w w' := by
  obtain ⟨d, hd⟩ : ∃ d, m - a = d := ⟨_, rfl⟩
  obtain ⟨d2, hd2⟩ : ∃ d, e - m = d := ⟨_, rfl⟩
  have w1 : IntKind.i64.wrap ((m : Int) - (a : Int)) = (d : Int) := by rw [IntWalk.i64_in _ (by omega)]; omega
  have w2 : IntKind.i64.wrap ((e : Int) - (m : Int)) = (d2 : Int) := by rw [IntWalk.i64_in _ (by omega)]; omega
  have hd1 : ((d : Int) == 1) = false := by simp; omega
  have hd3 : ((d2 : Int) == 1) = false := by simp; omega
  obtain ⟨mid, hmid⟩ : ∃ h, (a + e) / 2 = h := ⟨_, rfl⟩
  obtain ⟨w3, w4⟩ := half_facts a e (by omega)
  obtain ⟨s, hs⟩ : ∃ s, a + e = s := ⟨_, rfl⟩
  rw [hs] at w3 w4
  have w5 : (s : Int) / 2 = (mid : Int) := by omega
  obtain ⟨nn, hnn⟩ : ∃ k, mid + m = k := ⟨_, rfl⟩
  have w6 : IntKind.i64.wrap ((mid : Int) + (m : Int)) = (nn : Int) := by rw [IntWalk.i64_in _ (by omega)]; omega
  obtain ⟨pp, hpp⟩ : ∃ k, nn - 1 = k := ⟨_, rfl⟩
  have w7 : IntKind.i64.wrap ((nn : Int) - 1) = (pp : Int) := by rw [IntWalk.i64_in _ (by omega)]; omega
  have HC := Lib.hid hc
  have HO := Lib.hid ho
  have HP := Lib.hid hp
  have HIDX := Lib.hid hidx
  have HS1 := Lib.hid hs1
  have HS2 := Lib.hid hs2
  have HR := Lib.hid hr
  have IH := Lib.hid ih
  have HNN := Lib.hid hnn
  have hb1 : mid < e := by omega
  have hb2 : nn < 4398046511104 := by omega
  have hb3 : pp < 4398046511104 := by omega
  clear hc hp hidx ho hs1 hs2 ih hr
  go_enter Try.func64, Try.ntmps64
  by_cases hgt : mid < m
  · have g0 : decide (mid < m) = true := by simpa using hgt
    obtain ⟨s0, hs0⟩ : ∃ k, nn - e = k := ⟨_, rfl⟩
    have w8 : IntKind.i64.wrap ((nn : Int) - (e : Int)) = (s0 : Int) := by rw [IntWalk.i64_in _ (by omega)]; omega
    have H0 := Lib.hid (show a ≤ s0 ∧ s0 ≤ mid ∧ mid ≤ m ∧ mid ≤ mid ∧ (nn = mid + m ∧ pp = nn - 1 ∧ nn - s0 ≤ e ∧ a < mid ∧ mid < e) ∧ (s0 = a ∨ nn - s0 = e) ∧ (mid = m ∨ nn - mid = m) by omega)
    clear hd hd2 hs hnn hpp hs0 hmid
    go_wp2
    go_loopw [20, 21] (fun vs vr wr => ∃ x y : Nat, vs = .int .i64 x ∧ vr = .int .i64 y ∧ s0 ≤ x ∧ x ≤ y ∧ y ≤ mid ∧ (x = s0 ∨ ¬ lt (p (nn - x)) (p (x - 1))) ∧ (y = mid ∨ lt (p (nn - 1 - y)) (p y)) ∧ Row6 53 wr b off es p n ∧ Sw b w wr) (fun vs vr _ => (intOf vr).toNat - (intOf vs).toNat)
    case atStart => exact ⟨s0, mid, rfl, rfl, Nat.le_refl _, by have := H0.out; omega, Nat.le_refl _, .inl rfl, .inl rfl, HR.out, Sw.refl _ _⟩
    case round =>
      obtain ⟨x, y, rfl, rfl, hsx, hxy, hyr, hlo, hhi, hri, hsw⟩ := hrel
      have h0 := H0.out
      by_cases hl : x < y
      · have g1 : decide (x < y) = true := by simpa using hl
        obtain ⟨h, hh⟩ : ∃ h, (x + y) / 2 = h := ⟨_, rfl⟩
        obtain ⟨v1, v2⟩ := half_facts x y (by omega)
        obtain ⟨s, hs⟩ : ∃ s, x + y = s := ⟨_, rfl⟩
        rw [hs] at v1 v2
        have v3 : (s : Int) / 2 = (h : Int) := by omega
        have v4 : IntKind.i64.wrap ((h : Int) + 1) = (h : Int) + 1 := IntWalk.i64_in _ (by omega)
        obtain ⟨pc, hpc⟩ : ∃ pc, nn - 1 - h = pc := ⟨_, rfl⟩
        have v5 : IntKind.i64.wrap ((pp : Int) - (h : Int)) = (pc : Int) := by rw [IntWalk.i64_in _ (by omega)]; omega
        have hhn : h < n := by omega
        have hpn : pc < n := by omega
        obtain ⟨c, hc1, hc2⟩ := HC.out (p pc) (p h) (HP.out pc hpn) (HP.out h hhn)
        have T := (hri.cells hpn).app (hri.cells hhn)
        have st : ∀ w3, Below wr.drew.heap.size wr.drew w3 → Row6 53 w3 b off es p n ∧ Sw b w w3 := fun w3 hB3 =>
          ⟨hri.drew.below hB3, hsw.trans (((Sw.refl b wr).drew).trans (Sw.of_below hB3 (Nat.le_of_lt hri.lt)))⟩
        have i1 : (h : Int) < (n : Int) := by omega
        have i2 : (pc : Int) < (n : Int) := by omega
        have hmh : x ≤ h ∧ h < y ∧ nn - (h + 1) = pc := by omega
        have ST := Lib.hid st
        have HC1 := Lib.hid hc1
        have HC2 := Lib.hid hc2
        have HLO := Lib.hid hlo
        have HHI := Lib.hid hhi
        have HMH := Lib.hid hmh
        have HPC := Lib.hid hpc
        clear st hc1 hc2 hlo hhi hri hsw hh hs hmh h0 hpc
        by_cases hl2 : c < 0
        · have g2 : decide (c < 0) = true := by simpa using hl2
          have hlt2 : lt (p pc) (p h) := HC1.out.1 hl2
          go_wp2_with fail
          refine wp_region_held_drew (S := (fun W' : World => Cells W' (blk b (off + pc * 6) 0 [(es (p pc)).c0, (es (p pc)).c1, (es (p pc)).c2, (es (p pc)).c3, (es (p pc)).c4, (es (p pc)).c5] ++ blk b (off + h * 6) 0 [(es (p h)).c0, (es (p h)).c1, (es (p h)).c2, (es (p h)).c3, (es (p h)).c4, (es (p h)).c5]))) (by kernel_rfl) (T.drew) (fun hHeld => ?_)
          refine wpAnyH_take (i := 0) (oi := _) (v := ?_) (by rw [List.getElem?_toArray]; rfl) (by kernel_rfl) (by kernel_rfl) (by kernel_rfl) (by exact fun _ _ _ h => h) (Or.inl ⟨by rfl, ?_⟩) (by assumption) ?_
          rotate_left
          · intro w hSw
            try simp only [Cells, blk, List.cons_append, List.nil_append, and_true, Nat.reduceAdd, Nat.add_zero, Nat.zero_add] at hSw
            go_simp
            try with_reducible rfl
          simp only [Act.put, List.setIfInBounds_toArray, List.set_cons_zero, List.set_cons_succ]
          refine wpAnyH_take (i := 1) (oi := _) (v := ?_) (by rw [List.getElem?_toArray]; rfl) (by kernel_rfl) (by kernel_rfl) (by kernel_rfl) (by exact fun _ _ _ h => h) (Or.inl ⟨by rfl, ?_⟩) (by assumption) ?_
          rotate_left
          · intro w hSw
            try simp only [Cells, blk, List.cons_append, List.nil_append, and_true, Nat.reduceAdd, Nat.add_zero, Nat.zero_add] at hSw
            go_simp
            try with_reducible rfl
          simp only [Act.put, List.setIfInBounds_toArray, List.set_cons_zero, List.set_cons_succ]
          refine wpAnyH_take (i := 2) (oi := _) (v := ?_) (by rw [List.getElem?_toArray]; rfl) (by kernel_rfl) (by kernel_rfl) (by kernel_rfl) (by exact fun _ _ _ h => h) (Or.inl ⟨by rfl, ?_⟩) (by assumption) ?_
          rotate_left
          · intro w hSw
            try simp only [Cells, blk, List.cons_append, List.nil_append, and_true, Nat.reduceAdd, Nat.add_zero, Nat.zero_add] at hSw
            go_simp
            try with_reducible rfl
          simp only [Act.put, List.setIfInBounds_toArray, List.set_cons_zero, List.set_cons_succ]
          refine wpAnyH_take (i := 3) (oi := _) (v := ?_) (by rw [List.getElem?_toArray]; rfl) (by kernel_rfl) (by kernel_rfl) (by kernel_rfl) (by exact fun _ _ _ h => h) (Or.inl ⟨by rfl, ?_⟩) (by assumption) ?_
          rotate_left
          · intro w hSw
            try simp only [Cells, blk, List.cons_append, List.nil_append, and_true, Nat.reduceAdd, Nat.add_zero, Nat.zero_add] at hSw
            go_simp
            try with_reducible rfl
          simp only [Act.put, List.setIfInBounds_toArray, List.set_cons_zero, List.set_cons_succ]
          refine wpAnyH_take (i := 4) (oi := _) (v := ?_) (by rw [List.getElem?_toArray]; rfl) (by kernel_rfl) (by kernel_rfl) (by kernel_rfl) (by exact fun _ _ _ h => h) (Or.inl ⟨by rfl, ?_⟩) (by assumption) ?_
          rotate_left
          · intro w hSw
            try simp only [Cells, blk, List.cons_append, List.nil_append, and_true, Nat.reduceAdd, Nat.add_zero, Nat.zero_add] at hSw
            go_simp
            try with_reducible rfl
          simp only [Act.put, List.setIfInBounds_toArray, List.set_cons_zero, List.set_cons_succ]
          refine wpAnyH_take (i := 5) (oi := _) (v := ?_) (by rw [List.getElem?_toArray]; rfl) (by kernel_rfl) (by kernel_rfl) (by kernel_rfl) (by exact fun _ _ _ h => h) (Or.inl ⟨by rfl, ?_⟩) (by assumption) ?_
          rotate_left
          · intro w hSw
            try simp only [Cells, blk, List.cons_append, List.nil_append, and_true, Nat.reduceAdd, Nat.add_zero, Nat.zero_add] at hSw
            go_simp
            try with_reducible rfl
          simp only [Act.put, List.setIfInBounds_toArray, List.set_cons_zero, List.set_cons_succ]
          refine wpAnyH_take (i := 6) (oi := _) (v := ?_) (by rw [List.getElem?_toArray]; rfl) (by kernel_rfl) (by kernel_rfl) (by kernel_rfl) (by exact fun _ _ _ h => h) (Or.inl ⟨by rfl, ?_⟩) (by assumption) ?_
          rotate_left
          · intro w hSw
            try simp only [Cells, blk, List.cons_append, List.nil_append, and_true, Nat.reduceAdd, Nat.add_zero, Nat.zero_add] at hSw
            go_simp
            try with_reducible rfl
          simp only [Act.put, List.setIfInBounds_toArray, List.set_cons_zero, List.set_cons_succ]
          refine wpAnyH_take (i := 7) (oi := _) (v := ?_) (by rw [List.getElem?_toArray]; rfl) (by kernel_rfl) (by kernel_rfl) (by kernel_rfl) (by exact fun _ _ _ h => h) (Or.inl ⟨by rfl, ?_⟩) (by assumption) ?_
          rotate_left
          · intro w hSw
            try simp only [Cells, blk, List.cons_append, List.nil_append, and_true, Nat.reduceAdd, Nat.add_zero, Nat.zero_add] at hSw
            go_simp
            try with_reducible rfl
          simp only [Act.put, List.setIfInBounds_toArray, List.set_cons_zero, List.set_cons_succ]
          refine wpAnyH_take (i := 8) (oi := _) (v := ?_) (by rw [List.getElem?_toArray]; rfl) (by kernel_rfl) (by kernel_rfl) (by kernel_rfl) (by exact fun _ _ _ h => h) (Or.inl ⟨by rfl, ?_⟩) (by assumption) ?_
          rotate_left
          · intro w hSw
            try simp only [Cells, blk, List.cons_append, List.nil_append, and_true, Nat.reduceAdd, Nat.add_zero, Nat.zero_add] at hSw
            go_simp
            try with_reducible rfl
          simp only [Act.put, List.setIfInBounds_toArray, List.set_cons_zero, List.set_cons_succ]
          refine wpAnyH_take (i := 9) (oi := _) (v := ?_) (by rw [List.getElem?_toArray]; rfl) (by kernel_rfl) (by kernel_rfl) (by kernel_rfl) (by exact fun _ _ _ h => h) (Or.inl ⟨by rfl, ?_⟩) (by assumption) ?_
          rotate_left
          · intro w hSw
            try simp only [Cells, blk, List.cons_append, List.nil_append, and_true, Nat.reduceAdd, Nat.add_zero, Nat.zero_add] at hSw
            go_simp
            try with_reducible rfl
          simp only [Act.put, List.setIfInBounds_toArray, List.set_cons_zero, List.set_cons_succ]
          refine wpAnyH_take (i := 10) (oi := _) (v := ?_) (by rw [List.getElem?_toArray]; rfl) (by kernel_rfl) (by kernel_rfl) (by kernel_rfl) (by exact fun _ _ _ h => h) (Or.inl ⟨by rfl, ?_⟩) (by assumption) ?_
          rotate_left
          · intro w hSw
            try simp only [Cells, blk, List.cons_append, List.nil_append, and_true, Nat.reduceAdd, Nat.add_zero, Nat.zero_add] at hSw
            go_simp
            try with_reducible rfl
          simp only [Act.put, List.setIfInBounds_toArray, List.set_cons_zero, List.set_cons_succ]
          refine wpAnyH_ready (rs := [11]) (by kernel_rfl) (by simp) (AllReadyH.cons (o := _) (by rw [List.getElem?_toArray]; rfl) (fun K hK => ?_) AllReadyH.nil)
          go_simp
          go_at_call 33
          refine (HC2.out _).mono ?_
          rintro x w3 ⟨rfl, hB3⟩
          have T3 := Cells.keep (T.drew) hB3
          obtain ⟨hr3, hs3⟩ := ST.out w3 hB3
          clear hHeld
          refine hK.out _ _ (T3) (fun hHeld => ?_)
          clear hK K
          try simp only [Act.put, List.setIfInBounds_toArray, List.set_cons_zero, List.set_cons_succ]
          refine wpAnyH_take (i := 12) (oi := _) (v := ?_) (by rw [List.getElem?_toArray]; rfl) (by kernel_rfl) (by kernel_rfl) (by kernel_rfl) (by exact fun _ _ _ h => h) (Or.inl ⟨by rfl, ?_⟩) (by assumption) ?_
          rotate_left
          · intro w hSw
            try simp only [Cells, blk, List.cons_append, List.nil_append, and_true, Nat.reduceAdd, Nat.add_zero, Nat.zero_add] at hSw
            go_simp
            try with_reducible rfl
          simp only [Act.put, List.setIfInBounds_toArray, List.set_cons_zero, List.set_cons_succ]
          refine wpAnyH_take (i := 13) (oi := _) (v := ?_) (by rw [List.getElem?_toArray]; rfl) (by kernel_rfl) (by kernel_rfl) (by kernel_rfl) (by exact fun _ _ _ h => h) (Or.inl ⟨by rfl, ?_⟩) (by assumption) ?_
          rotate_left
          · intro w hSw
            try simp only [Cells, blk, List.cons_append, List.nil_append, and_true, Nat.reduceAdd, Nat.add_zero, Nat.zero_add] at hSw
            go_simp
            try with_reducible rfl
          simp only [Act.put, List.setIfInBounds_toArray, List.set_cons_zero, List.set_cons_succ]
          refine wpAnyH_done (by kernel_rfl) ?_ _
          clear T T3 hB3
          go_wp2
          have hmh := HMH.out
          refine ⟨⟨x, h, rfl, rfl, hsx, by omega, by omega, HLO.out, .inr (by rw [HPC.out]; exact hlt2), hr3, hs3⟩, ?_⟩
          simp [intOf]
          omega
        · have g2 : decide (c < 0) = false := by simpa using hl2
          have hnl : ¬ lt (p pc) (p h) := fun hx => hl2 (HC1.out.2 hx)
          go_wp2_with fail
          refine wp_region_held_drew (S := (fun W' : World => Cells W' (blk b (off + pc * 6) 0 [(es (p pc)).c0, (es (p pc)).c1, (es (p pc)).c2, (es (p pc)).c3, (es (p pc)).c4, (es (p pc)).c5] ++ blk b (off + h * 6) 0 [(es (p h)).c0, (es (p h)).c1, (es (p h)).c2, (es (p h)).c3, (es (p h)).c4, (es (p h)).c5]))) (by kernel_rfl) (T.drew) (fun hHeld => ?_)
          refine wpAnyH_take (i := 0) (oi := _) (v := ?_) (by rw [List.getElem?_toArray]; rfl) (by kernel_rfl) (by kernel_rfl) (by kernel_rfl) (by exact fun _ _ _ h => h) (Or.inl ⟨by rfl, ?_⟩) (by assumption) ?_
          rotate_left
          · intro w hSw
            try simp only [Cells, blk, List.cons_append, List.nil_append, and_true, Nat.reduceAdd, Nat.add_zero, Nat.zero_add] at hSw
            go_simp
            try with_reducible rfl
          simp only [Act.put, List.setIfInBounds_toArray, List.set_cons_zero, List.set_cons_succ]
          refine wpAnyH_take (i := 1) (oi := _) (v := ?_) (by rw [List.getElem?_toArray]; rfl) (by kernel_rfl) (by kernel_rfl) (by kernel_rfl) (by exact fun _ _ _ h => h) (Or.inl ⟨by rfl, ?_⟩) (by assumption) ?_
          rotate_left
          · intro w hSw
            try simp only [Cells, blk, List.cons_append, List.nil_append, and_true, Nat.reduceAdd, Nat.add_zero, Nat.zero_add] at hSw
            go_simp
            try with_reducible rfl
          simp only [Act.put, List.setIfInBounds_toArray, List.set_cons_zero, List.set_cons_succ]
          refine wpAnyH_take (i := 2) (oi := _) (v := ?_) (by rw [List.getElem?_toArray]; rfl) (by kernel_rfl) (by kernel_rfl) (by kernel_rfl) (by exact fun _ _ _ h => h) (Or.inl ⟨by rfl, ?_⟩) (by assumption) ?_
          rotate_left
          · intro w hSw
            try simp only [Cells, blk, List.cons_append, List.nil_append, and_true, Nat.reduceAdd, Nat.add_zero, Nat.zero_add] at hSw
            go_simp
            try with_reducible rfl
          simp only [Act.put, List.setIfInBounds_toArray, List.set_cons_zero, List.set_cons_succ]
          refine wpAnyH_take (i := 3) (oi := _) (v := ?_) (by rw [List.getElem?_toArray]; rfl) (by kernel_rfl) (by kernel_rfl) (by kernel_rfl) (by exact fun _ _ _ h => h) (Or.inl ⟨by rfl, ?_⟩) (by assumption) ?_
          rotate_left
          · intro w hSw
            try simp only [Cells, blk, List.cons_append, List.nil_append, and_true, Nat.reduceAdd, Nat.add_zero, Nat.zero_add] at hSw
            go_simp
            try with_reducible rfl
          simp only [Act.put, List.setIfInBounds_toArray, List.set_cons_zero, List.set_cons_succ]
          refine wpAnyH_take (i := 4) (oi := _) (v := ?_) (by rw [List.getElem?_toArray]; rfl) (by kernel_rfl) (by kernel_rfl) (by kernel_rfl) (by exact fun _ _ _ h => h) (Or.inl ⟨by rfl, ?_⟩) (by assumption) ?_
          rotate_left
          · intro w hSw
            try simp only [Cells, blk, List.cons_append, List.nil_append, and_true, Nat.reduceAdd, Nat.add_zero, Nat.zero_add] at hSw
            go_simp
            try with_reducible rfl
          simp only [Act.put, List.setIfInBounds_toArray, List.set_cons_zero, List.set_cons_succ]
          refine wpAnyH_take (i := 5) (oi := _) (v := ?_) (by rw [List.getElem?_toArray]; rfl) (by kernel_rfl) (by kernel_rfl) (by kernel_rfl) (by exact fun _ _ _ h => h) (Or.inl ⟨by rfl, ?_⟩) (by assumption) ?_
          rotate_left
          · intro w hSw
            try simp only [Cells, blk, List.cons_append, List.nil_append, and_true, Nat.reduceAdd, Nat.add_zero, Nat.zero_add] at hSw
            go_simp
            try with_reducible rfl
          simp only [Act.put, List.setIfInBounds_toArray, List.set_cons_zero, List.set_cons_succ]
          refine wpAnyH_take (i := 6) (oi := _) (v := ?_) (by rw [List.getElem?_toArray]; rfl) (by kernel_rfl) (by kernel_rfl) (by kernel_rfl) (by exact fun _ _ _ h => h) (Or.inl ⟨by rfl, ?_⟩) (by assumption) ?_
          rotate_left
          · intro w hSw
            try simp only [Cells, blk, List.cons_append, List.nil_append, and_true, Nat.reduceAdd, Nat.add_zero, Nat.zero_add] at hSw
            go_simp
            try with_reducible rfl
          simp only [Act.put, List.setIfInBounds_toArray, List.set_cons_zero, List.set_cons_succ]
          refine wpAnyH_take (i := 7) (oi := _) (v := ?_) (by rw [List.getElem?_toArray]; rfl) (by kernel_rfl) (by kernel_rfl) (by kernel_rfl) (by exact fun _ _ _ h => h) (Or.inl ⟨by rfl, ?_⟩) (by assumption) ?_
          rotate_left
          · intro w hSw
            try simp only [Cells, blk, List.cons_append, List.nil_append, and_true, Nat.reduceAdd, Nat.add_zero, Nat.zero_add] at hSw
            go_simp
            try with_reducible rfl
          simp only [Act.put, List.setIfInBounds_toArray, List.set_cons_zero, List.set_cons_succ]
          refine wpAnyH_take (i := 8) (oi := _) (v := ?_) (by rw [List.getElem?_toArray]; rfl) (by kernel_rfl) (by kernel_rfl) (by kernel_rfl) (by exact fun _ _ _ h => h) (Or.inl ⟨by rfl, ?_⟩) (by assumption) ?_
          rotate_left
          · intro w hSw
            try simp only [Cells, blk, List.cons_append, List.nil_append, and_true, Nat.reduceAdd, Nat.add_zero, Nat.zero_add] at hSw
            go_simp
            try with_reducible rfl
          simp only [Act.put, List.setIfInBounds_toArray, List.set_cons_zero, List.set_cons_succ]
          refine wpAnyH_take (i := 9) (oi := _) (v := ?_) (by rw [List.getElem?_toArray]; rfl) (by kernel_rfl) (by kernel_rfl) (by kernel_rfl) (by exact fun _ _ _ h => h) (Or.inl ⟨by rfl, ?_⟩) (by assumption) ?_
          rotate_left
          · intro w hSw
            try simp only [Cells, blk, List.cons_append, List.nil_append, and_true, Nat.reduceAdd, Nat.add_zero, Nat.zero_add] at hSw
            go_simp
            try with_reducible rfl
          simp only [Act.put, List.setIfInBounds_toArray, List.set_cons_zero, List.set_cons_succ]
          refine wpAnyH_take (i := 10) (oi := _) (v := ?_) (by rw [List.getElem?_toArray]; rfl) (by kernel_rfl) (by kernel_rfl) (by kernel_rfl) (by exact fun _ _ _ h => h) (Or.inl ⟨by rfl, ?_⟩) (by assumption) ?_
          rotate_left
          · intro w hSw
            try simp only [Cells, blk, List.cons_append, List.nil_append, and_true, Nat.reduceAdd, Nat.add_zero, Nat.zero_add] at hSw
            go_simp
            try with_reducible rfl
          simp only [Act.put, List.setIfInBounds_toArray, List.set_cons_zero, List.set_cons_succ]
          refine wpAnyH_ready (rs := [11]) (by kernel_rfl) (by simp) (AllReadyH.cons (o := _) (by rw [List.getElem?_toArray]; rfl) (fun K hK => ?_) AllReadyH.nil)
          go_simp
          go_at_call 33
          refine (HC2.out _).mono ?_
          rintro x w3 ⟨rfl, hB3⟩
          have T3 := Cells.keep (T.drew) hB3
          obtain ⟨hr3, hs3⟩ := ST.out w3 hB3
          clear hHeld
          refine hK.out _ _ (T3) (fun hHeld => ?_)
          clear hK K
          try simp only [Act.put, List.setIfInBounds_toArray, List.set_cons_zero, List.set_cons_succ]
          refine wpAnyH_take (i := 12) (oi := _) (v := ?_) (by rw [List.getElem?_toArray]; rfl) (by kernel_rfl) (by kernel_rfl) (by kernel_rfl) (by exact fun _ _ _ h => h) (Or.inl ⟨by rfl, ?_⟩) (by assumption) ?_
          rotate_left
          · intro w hSw
            try simp only [Cells, blk, List.cons_append, List.nil_append, and_true, Nat.reduceAdd, Nat.add_zero, Nat.zero_add] at hSw
            go_simp
            try with_reducible rfl
          simp only [Act.put, List.setIfInBounds_toArray, List.set_cons_zero, List.set_cons_succ]
          refine wpAnyH_take (i := 13) (oi := _) (v := ?_) (by rw [List.getElem?_toArray]; rfl) (by kernel_rfl) (by kernel_rfl) (by kernel_rfl) (by exact fun _ _ _ h => h) (Or.inl ⟨by rfl, ?_⟩) (by assumption) ?_
          rotate_left
          · intro w hSw
            try simp only [Cells, blk, List.cons_append, List.nil_append, and_true, Nat.reduceAdd, Nat.add_zero, Nat.zero_add] at hSw
            go_simp
            try with_reducible rfl
          simp only [Act.put, List.setIfInBounds_toArray, List.set_cons_zero, List.set_cons_succ]
          refine wpAnyH_done (by kernel_rfl) ?_ _
          clear T T3 hB3
          go_wp2
          have hmh := HMH.out
          refine ⟨⟨h + 1, y, by simp, rfl, by omega, by omega, hyr, .inr (by rw [hmh.2.2, Nat.add_sub_cancel]; exact hnl), HHI.out, hr3, hs3⟩, ?_⟩
          simp [intOf]
          omega
      · have e1 : x = y := by omega
        subst e1
        have g1 : decide (x < x) = false := by simp
        obtain ⟨en, hen'⟩ : ∃ en, nn - x = en := ⟨_, rfl⟩
        have v5 : IntKind.i64.wrap ((nn : Int) - (x : Int)) = (en : Int) := by rw [IntWalk.i64_in _ (by omega)]; omega
        have hnn := HNN.out
        have hme' : mid + m - x = en := by omega
        have cr := sym_cross hlt ham hme HS1.out HS2.out HIDX.out (mid := mid) (s := x) (by omega) (by omega) (by omega) (by omega) (by omega) (by omega)
          (by
            rcases hlo with h | h
            · rcases h0.2.2.2.2.2.1 with h1 | h1
              · exact .inl (by omega)
              · exact .inr (.inl (by omega))
            · exact .inr (.inr (by rw [show mid + m - x = nn - x by omega]; exact h)))
          (by
            rcases hhi with h | h
            · rcases h0.2.2.2.2.2.2 with h1 | h1
              · exact .inl (by omega)
              · exact .inr (.inl (by omega))
            · exact .inr (.inr (by rw [show mid + m - x - 1 = nn - 1 - x by omega]; exact h)))
        rw [hme'] at cr
        have CR := Lib.hid cr
        have hqm := (mem_rot (p := p) (a := x) (m := m) (b := en) (by omega) (by omega)).wide (show a ≤ x by omega) (show en ≤ e by omega)
        have HQN := Lib.hid (Fd_mlt hqm hen HP.out)
        have HQM := Lib.hid hqm
        have HE := Lib.hid (show mid + m - x = en ∧ x ≤ m ∧ x ≤ mid ∧ en ≤ e ∧ a ≤ x ∧ m ≤ en by omega)
        clear cr hqm hlo hhi
        have al : x < m := by omega
        by_cases be : x < mid
        · by_cases ga : a < x
          · by_cases de : en < e
            · have t0 : decide (x < m) = true := by simp only [decide_eq_true_eq]; omega
              have t1 : decide (m < en) = true := by simp only [decide_eq_true_eq]; omega
              have t2 : decide (a < x) = true := by simp only [decide_eq_true_eq]; omega
              have t3 : decide (x < mid) = true := by simp only [decide_eq_true_eq]; omega
              have t4 : decide (mid < en) = true := by simp only [decide_eq_true_eq]; omega
              have t5 : decide (en < e) = true := by simp only [decide_eq_true_eq]; omega
              have ROT := Lib.hid (Fd_rot es p b off n cap wr hri hn HO.out x m en (by omega) (by omega) (by omega) (.func (.func 33) #[] #[]))
              have I1 := Lib.hid (fun (W : World) hW => IH.out (rot p x m en) W hW HQN.out a x mid (by omega) (by omega) (by omega) (by omega) CR.out.1 CR.out.2.1 CR.out.2.2.2.2.1)
              have I2 := Lib.hid (fun (W : World) (q1 : Nat → Nat) hW (hm : Mem (rot p x m en) q1 a mid) => IH.out q1 W hW (Fd_mlt hm (by omega) HQN.out) mid en e (by omega) (by omega) (by omega) (by omega)
                (CR.out.2.2.1.congr fun k h1 h2 => hm.out k (.inr h1)) (CR.out.2.2.2.1.congr fun k h1 h2 => hm.out k (by omega)) (fun i j h1 h2 h3 h4 => by rw [hm.out i (.inr h1), hm.out j (by omega)]; exact CR.out.2.2.2.2.2.1 i j h1 h2 h3 h4))
              have HSW := Lib.hid hsw
              clear hri hsw h0 hnn hme' hen'
              go_wp2_with fail
              go_at_call 67
              refine ROT.out.mono ?_
              rintro y w4 ⟨rfl, hr4, hs4⟩
              have hs4 := HSW.out.trans hs4
              go_wp2_with fail
              go_at_call 64
              refine (I1.out _ hr4).mono ?_
              rintro y w5 ⟨rfl, q1, hr5, hm5, ht5, hs5⟩
              have hs5 := hs4.trans hs5
              clear I1
              go_wp2_with fail
              go_at_call 64
              refine (I2.out _ q1 hr5 hm5).mono ?_
              rintro y w6 ⟨rfl, q2, hr6, hm6, ht6, hs6⟩
              have hs6 := hs5.trans hs6
              go_wp2
              go_end0
              obtain ⟨z1, z2⟩ := sym_done HQM.out CR.out.2.2.2.2.2.2 hm5 ht5 hm6 ht6 (by have := H0.out; omega) (by have := H0.out; omega)
              exact ⟨rfl, q2, hr6, z1, z2, hs6⟩
            · have t0 : decide (x < m) = true := by simp only [decide_eq_true_eq]; omega
              have t1 : decide (m < en) = true := by simp only [decide_eq_true_eq]; omega
              have t2 : decide (a < x) = true := by simp only [decide_eq_true_eq]; omega
              have t3 : decide (x < mid) = true := by simp only [decide_eq_true_eq]; omega
              have t4 : decide (mid < en) = true := by simp only [decide_eq_true_eq]; omega
              have t5 : decide (en < e) = false := by simp only [decide_eq_false_iff_not]; omega
              have ROT := Lib.hid (Fd_rot es p b off n cap wr hri hn HO.out x m en (by omega) (by omega) (by omega) (.func (.func 33) #[] #[]))
              have I1 := Lib.hid (fun (W : World) hW => IH.out (rot p x m en) W hW HQN.out a x mid (by omega) (by omega) (by omega) (by omega) CR.out.1 CR.out.2.1 CR.out.2.2.2.2.1)
              have HSW := Lib.hid hsw
              clear hri hsw h0 hnn hme' hen'
              go_wp2_with fail
              go_at_call 67
              refine ROT.out.mono ?_
              rintro y w4 ⟨rfl, hr4, hs4⟩
              have hs4 := HSW.out.trans hs4
              go_wp2_with fail
              go_at_call 64
              refine (I1.out _ hr4).mono ?_
              rintro y w5 ⟨rfl, q1, hr5, hm5, ht5, hs5⟩
              have hs5 := hs4.trans hs5
              clear I1
              obtain ⟨q2, hr6, hm6, ht6⟩ : ∃ q2, Row6 53 _ b off es q2 n ∧ Mem q1 q2 mid e ∧ Srt lt q2 mid e := ⟨_, hr5, Mem.refl _ _ _, by have h := CR.out.2.2.1; rw [show en = e by have := HE.out; omega] at h hm5; exact h.congr fun k h1 h2 => hm5.out k (.inr h1)⟩
              have hs6 := hs5
              go_wp2
              go_end0
              obtain ⟨z1, z2⟩ := sym_done HQM.out CR.out.2.2.2.2.2.2 hm5 ht5 hm6 ht6 (by have := H0.out; omega) (by have := H0.out; omega)
              exact ⟨rfl, q2, hr6, z1, z2, hs6⟩
          · by_cases de : en < e
            · have t0 : decide (x < m) = true := by simp only [decide_eq_true_eq]; omega
              have t1 : decide (m < en) = true := by simp only [decide_eq_true_eq]; omega
              have t2 : decide (a < x) = false := by simp only [decide_eq_false_iff_not]; omega
              have t3 : decide (x < mid) = true := by simp only [decide_eq_true_eq]; omega
              have t4 : decide (mid < en) = true := by simp only [decide_eq_true_eq]; omega
              have t5 : decide (en < e) = true := by simp only [decide_eq_true_eq]; omega
              have ROT := Lib.hid (Fd_rot es p b off n cap wr hri hn HO.out x m en (by omega) (by omega) (by omega) (.func (.func 33) #[] #[]))
              have I2 := Lib.hid (fun (W : World) (q1 : Nat → Nat) hW (hm : Mem (rot p x m en) q1 a mid) => IH.out q1 W hW (Fd_mlt hm (by omega) HQN.out) mid en e (by omega) (by omega) (by omega) (by omega)
                (CR.out.2.2.1.congr fun k h1 h2 => hm.out k (.inr h1)) (CR.out.2.2.2.1.congr fun k h1 h2 => hm.out k (by omega)) (fun i j h1 h2 h3 h4 => by rw [hm.out i (.inr h1), hm.out j (by omega)]; exact CR.out.2.2.2.2.2.1 i j h1 h2 h3 h4))
              have HSW := Lib.hid hsw
              clear hri hsw h0 hnn hme' hen'
              go_wp2_with fail
              go_at_call 67
              refine ROT.out.mono ?_
              rintro y w4 ⟨rfl, hr4, hs4⟩
              have hs4 := HSW.out.trans hs4
              obtain ⟨q1, hr5, hm5, ht5⟩ : ∃ q1, Row6 53 _ b off es q1 n ∧ Mem (rot p x m en) q1 a mid ∧ Srt lt q1 a mid := ⟨_, hr4, Mem.refl _ _ _, by have h := CR.out.2.1; have he := HE.out; rw [show x = a by omega] at h ⊢; exact h⟩
              have hs5 := hs4
              go_wp2_with fail
              go_at_call 64
              refine (I2.out _ q1 hr5 hm5).mono ?_
              rintro y w6 ⟨rfl, q2, hr6, hm6, ht6, hs6⟩
              have hs6 := hs5.trans hs6
              go_wp2
              go_end0
              obtain ⟨z1, z2⟩ := sym_done HQM.out CR.out.2.2.2.2.2.2 hm5 ht5 hm6 ht6 (by have := H0.out; omega) (by have := H0.out; omega)
              exact ⟨rfl, q2, hr6, z1, z2, hs6⟩
            · have t0 : decide (x < m) = true := by simp only [decide_eq_true_eq]; omega
              have t1 : decide (m < en) = true := by simp only [decide_eq_true_eq]; omega
              have t2 : decide (a < x) = false := by simp only [decide_eq_false_iff_not]; omega
              have t3 : decide (x < mid) = true := by simp only [decide_eq_true_eq]; omega
              have t4 : decide (mid < en) = true := by simp only [decide_eq_true_eq]; omega
              have t5 : decide (en < e) = false := by simp only [decide_eq_false_iff_not]; omega
              have ROT := Lib.hid (Fd_rot es p b off n cap wr hri hn HO.out x m en (by omega) (by omega) (by omega) (.func (.func 33) #[] #[]))
              have HSW := Lib.hid hsw
              clear hri hsw h0 hnn hme' hen'
              go_wp2_with fail
              go_at_call 67
              refine ROT.out.mono ?_
              rintro y w4 ⟨rfl, hr4, hs4⟩
              have hs4 := HSW.out.trans hs4
              obtain ⟨q1, hr5, hm5, ht5⟩ : ∃ q1, Row6 53 _ b off es q1 n ∧ Mem (rot p x m en) q1 a mid ∧ Srt lt q1 a mid := ⟨_, hr4, Mem.refl _ _ _, by have h := CR.out.2.1; have he := HE.out; rw [show x = a by omega] at h ⊢; exact h⟩
              have hs5 := hs4
              obtain ⟨q2, hr6, hm6, ht6⟩ : ∃ q2, Row6 53 _ b off es q2 n ∧ Mem q1 q2 mid e ∧ Srt lt q2 mid e := ⟨_, hr5, Mem.refl _ _ _, by have h := CR.out.2.2.1; rw [show en = e by have := HE.out; omega] at h hm5; exact h.congr fun k h1 h2 => hm5.out k (.inr h1)⟩
              have hs6 := hs5
              go_wp2
              go_end0
              obtain ⟨z1, z2⟩ := sym_done HQM.out CR.out.2.2.2.2.2.2 hm5 ht5 hm6 ht6 (by have := H0.out; omega) (by have := H0.out; omega)
              exact ⟨rfl, q2, hr6, z1, z2, hs6⟩
        · have ga : a < x := by omega
          have de : en < e := by omega
          have t0 : decide (x < m) = true := by simp only [decide_eq_true_eq]; omega
          have t1 : decide (m < en) = false := by simp only [decide_eq_false_iff_not]; omega
          have t2 : decide (a < x) = true := by simp only [decide_eq_true_eq]; omega
          have t3 : decide (x < mid) = false := by simp only [decide_eq_false_iff_not]; omega
          have t4 : decide (mid < en) = true := by simp only [decide_eq_true_eq]; omega
          have t5 : decide (en < e) = true := by simp only [decide_eq_true_eq]; omega
          have hr4 : Row6 53 wr b off es (rot p x m en) n := by rw [show rot p x m en = p from by rw [show en = m by omega]; exact rot_right]; exact hri
          have HR4 := Lib.hid hr4
          clear hr4
          have I2 := Lib.hid (fun (W : World) (q1 : Nat → Nat) hW (hm : Mem (rot p x m en) q1 a mid) => IH.out q1 W hW (Fd_mlt hm (by omega) HQN.out) mid en e (by omega) (by omega) (by omega) (by omega)
            (CR.out.2.2.1.congr fun k h1 h2 => hm.out k (.inr h1)) (CR.out.2.2.2.1.congr fun k h1 h2 => hm.out k (by omega)) (fun i j h1 h2 h3 h4 => by rw [hm.out i (.inr h1), hm.out j (by omega)]; exact CR.out.2.2.2.2.2.1 i j h1 h2 h3 h4))
          have HSW := Lib.hid hsw
          clear hri hsw h0 hnn hme' hen'
          have hr4 := HR4.out
          have hs4 := HSW.out
          obtain ⟨q1, hr5, hm5, ht5⟩ : ∃ q1, Row6 53 _ b off es q1 n ∧ Mem (rot p x m en) q1 a mid ∧ Srt lt q1 a mid := ⟨_, hr4, Mem.refl _ _ _, by have h := CR.out.1; have h0 := H0.out; rw [show x = mid by omega] at h ⊢; exact h⟩
          have hs5 := hs4
          go_wp2_with fail
          go_at_call 64
          refine (I2.out _ q1 hr5 hm5).mono ?_
          rintro y w6 ⟨rfl, q2, hr6, hm6, ht6, hs6⟩
          have hs6 := hs5.trans hs6
          go_wp2
          go_end0
          obtain ⟨z1, z2⟩ := sym_done HQM.out CR.out.2.2.2.2.2.2 hm5 ht5 hm6 ht6 (by have := H0.out; omega) (by have := H0.out; omega)
          exact ⟨rfl, q2, hr6, z1, z2, hs6⟩
  · have g0 : decide (mid < m) = false := by simpa using hgt
    have H0 := Lib.hid (show a ≤ a ∧ a ≤ m ∧ m ≤ m ∧ m ≤ mid ∧ (nn = mid + m ∧ pp = nn - 1 ∧ nn - a ≤ e ∧ a < mid ∧ mid < e) ∧ (a = a ∨ nn - a = e) ∧ (m = m ∨ nn - m = m) by omega)
    clear hd hd2 hs hnn hpp hmid
    go_wp2
    go_loopw [20, 21] (fun vs vr wr => ∃ x y : Nat, vs = .int .i64 x ∧ vr = .int .i64 y ∧ a ≤ x ∧ x ≤ y ∧ y ≤ m ∧ (x = a ∨ ¬ lt (p (nn - x)) (p (x - 1))) ∧ (y = m ∨ lt (p (nn - 1 - y)) (p y)) ∧ Row6 53 wr b off es p n ∧ Sw b w wr) (fun vs vr _ => (intOf vr).toNat - (intOf vs).toNat)
    case atStart => exact ⟨a, m, rfl, rfl, Nat.le_refl _, by have := H0.out; omega, Nat.le_refl _, .inl rfl, .inl rfl, HR.out, Sw.refl _ _⟩
    case round =>
      obtain ⟨x, y, rfl, rfl, hsx, hxy, hyr, hlo, hhi, hri, hsw⟩ := hrel
      have h0 := H0.out
      by_cases hl : x < y
      · have g1 : decide (x < y) = true := by simpa using hl
        obtain ⟨h, hh⟩ : ∃ h, (x + y) / 2 = h := ⟨_, rfl⟩
        obtain ⟨v1, v2⟩ := half_facts x y (by omega)
        obtain ⟨s, hs⟩ : ∃ s, x + y = s := ⟨_, rfl⟩
        rw [hs] at v1 v2
        have v3 : (s : Int) / 2 = (h : Int) := by omega
        have v4 : IntKind.i64.wrap ((h : Int) + 1) = (h : Int) + 1 := IntWalk.i64_in _ (by omega)
        obtain ⟨pc, hpc⟩ : ∃ pc, nn - 1 - h = pc := ⟨_, rfl⟩
        have v5 : IntKind.i64.wrap ((pp : Int) - (h : Int)) = (pc : Int) := by rw [IntWalk.i64_in _ (by omega)]; omega
        have hhn : h < n := by omega
        have hpn : pc < n := by omega
        obtain ⟨c, hc1, hc2⟩ := HC.out (p pc) (p h) (HP.out pc hpn) (HP.out h hhn)
        have T := (hri.cells hpn).app (hri.cells hhn)
        have st : ∀ w3, Below wr.drew.heap.size wr.drew w3 → Row6 53 w3 b off es p n ∧ Sw b w w3 := fun w3 hB3 =>
          ⟨hri.drew.below hB3, hsw.trans (((Sw.refl b wr).drew).trans (Sw.of_below hB3 (Nat.le_of_lt hri.lt)))⟩
        have i1 : (h : Int) < (n : Int) := by omega
        have i2 : (pc : Int) < (n : Int) := by omega
        have hmh : x ≤ h ∧ h < y ∧ nn - (h + 1) = pc := by omega
        have ST := Lib.hid st
        have HC1 := Lib.hid hc1
        have HC2 := Lib.hid hc2
        have HLO := Lib.hid hlo
        have HHI := Lib.hid hhi
        have HMH := Lib.hid hmh
        have HPC := Lib.hid hpc
        clear st hc1 hc2 hlo hhi hri hsw hh hs hmh h0 hpc
        by_cases hl2 : c < 0
        · have g2 : decide (c < 0) = true := by simpa using hl2
          have hlt2 : lt (p pc) (p h) := HC1.out.1 hl2
          go_wp2_with fail
          refine wp_region_held_drew (S := (fun W' : World => Cells W' (blk b (off + pc * 6) 0 [(es (p pc)).c0, (es (p pc)).c1, (es (p pc)).c2, (es (p pc)).c3, (es (p pc)).c4, (es (p pc)).c5] ++ blk b (off + h * 6) 0 [(es (p h)).c0, (es (p h)).c1, (es (p h)).c2, (es (p h)).c3, (es (p h)).c4, (es (p h)).c5]))) (by kernel_rfl) (T.drew) (fun hHeld => ?_)
          refine wpAnyH_take (i := 0) (oi := _) (v := ?_) (by rw [List.getElem?_toArray]; rfl) (by kernel_rfl) (by kernel_rfl) (by kernel_rfl) (by exact fun _ _ _ h => h) (Or.inl ⟨by rfl, ?_⟩) (by assumption) ?_
          rotate_left
          · intro w hSw
            try simp only [Cells, blk, List.cons_append, List.nil_append, and_true, Nat.reduceAdd, Nat.add_zero, Nat.zero_add] at hSw
            go_simp
            try with_reducible rfl
          simp only [Act.put, List.setIfInBounds_toArray, List.set_cons_zero, List.set_cons_succ]
          refine wpAnyH_take (i := 1) (oi := _) (v := ?_) (by rw [List.getElem?_toArray]; rfl) (by kernel_rfl) (by kernel_rfl) (by kernel_rfl) (by exact fun _ _ _ h => h) (Or.inl ⟨by rfl, ?_⟩) (by assumption) ?_
          rotate_left
          · intro w hSw
            try simp only [Cells, blk, List.cons_append, List.nil_append, and_true, Nat.reduceAdd, Nat.add_zero, Nat.zero_add] at hSw
            go_simp
            try with_reducible rfl
          simp only [Act.put, List.setIfInBounds_toArray, List.set_cons_zero, List.set_cons_succ]
          refine wpAnyH_take (i := 2) (oi := _) (v := ?_) (by rw [List.getElem?_toArray]; rfl) (by kernel_rfl) (by kernel_rfl) (by kernel_rfl) (by exact fun _ _ _ h => h) (Or.inl ⟨by rfl, ?_⟩) (by assumption) ?_
          rotate_left
          · intro w hSw
            try simp only [Cells, blk, List.cons_append, List.nil_append, and_true, Nat.reduceAdd, Nat.add_zero, Nat.zero_add] at hSw
            go_simp
            try with_reducible rfl
          simp only [Act.put, List.setIfInBounds_toArray, List.set_cons_zero, List.set_cons_succ]
          refine wpAnyH_take (i := 3) (oi := _) (v := ?_) (by rw [List.getElem?_toArray]; rfl) (by kernel_rfl) (by kernel_rfl) (by kernel_rfl) (by exact fun _ _ _ h => h) (Or.inl ⟨by rfl, ?_⟩) (by assumption) ?_
          rotate_left
          · intro w hSw
            try simp only [Cells, blk, List.cons_append, List.nil_append, and_true, Nat.reduceAdd, Nat.add_zero, Nat.zero_add] at hSw
            go_simp
            try with_reducible rfl
          simp only [Act.put, List.setIfInBounds_toArray, List.set_cons_zero, List.set_cons_succ]
          refine wpAnyH_take (i := 4) (oi := _) (v := ?_) (by rw [List.getElem?_toArray]; rfl) (by kernel_rfl) (by kernel_rfl) (by kernel_rfl) (by exact fun _ _ _ h => h) (Or.inl ⟨by rfl, ?_⟩) (by assumption) ?_
          rotate_left
          · intro w hSw
            try simp only [Cells, blk, List.cons_append, List.nil_append, and_true, Nat.reduceAdd, Nat.add_zero, Nat.zero_add] at hSw
            go_simp
            try with_reducible rfl
          simp only [Act.put, List.setIfInBounds_toArray, List.set_cons_zero, List.set_cons_succ]
          refine wpAnyH_take (i := 5) (oi := _) (v := ?_) (by rw [List.getElem?_toArray]; rfl) (by kernel_rfl) (by kernel_rfl) (by kernel_rfl) (by exact fun _ _ _ h => h) (Or.inl ⟨by rfl, ?_⟩) (by assumption) ?_
          rotate_left
          · intro w hSw
            try simp only [Cells, blk, List.cons_append, List.nil_append, and_true, Nat.reduceAdd, Nat.add_zero, Nat.zero_add] at hSw
            go_simp
            try with_reducible rfl
          simp only [Act.put, List.setIfInBounds_toArray, List.set_cons_zero, List.set_cons_succ]
          refine wpAnyH_take (i := 6) (oi := _) (v := ?_) (by rw [List.getElem?_toArray]; rfl) (by kernel_rfl) (by kernel_rfl) (by kernel_rfl) (by exact fun _ _ _ h => h) (Or.inl ⟨by rfl, ?_⟩) (by assumption) ?_
          rotate_left
          · intro w hSw
            try simp only [Cells, blk, List.cons_append, List.nil_append, and_true, Nat.reduceAdd, Nat.add_zero, Nat.zero_add] at hSw
            go_simp
            try with_reducible rfl
          simp only [Act.put, List.setIfInBounds_toArray, List.set_cons_zero, List.set_cons_succ]
          refine wpAnyH_take (i := 7) (oi := _) (v := ?_) (by rw [List.getElem?_toArray]; rfl) (by kernel_rfl) (by kernel_rfl) (by kernel_rfl) (by exact fun _ _ _ h => h) (Or.inl ⟨by rfl, ?_⟩) (by assumption) ?_
          rotate_left
          · intro w hSw
            try simp only [Cells, blk, List.cons_append, List.nil_append, and_true, Nat.reduceAdd, Nat.add_zero, Nat.zero_add] at hSw
            go_simp
            try with_reducible rfl
          simp only [Act.put, List.setIfInBounds_toArray, List.set_cons_zero, List.set_cons_succ]
          refine wpAnyH_take (i := 8) (oi := _) (v := ?_) (by rw [List.getElem?_toArray]; rfl) (by kernel_rfl) (by kernel_rfl) (by kernel_rfl) (by exact fun _ _ _ h => h) (Or.inl ⟨by rfl, ?_⟩) (by assumption) ?_
          rotate_left
          · intro w hSw
            try simp only [Cells, blk, List.cons_append, List.nil_append, and_true, Nat.reduceAdd, Nat.add_zero, Nat.zero_add] at hSw
            go_simp
            try with_reducible rfl
          simp only [Act.put, List.setIfInBounds_toArray, List.set_cons_zero, List.set_cons_succ]
          refine wpAnyH_take (i := 9) (oi := _) (v := ?_) (by rw [List.getElem?_toArray]; rfl) (by kernel_rfl) (by kernel_rfl) (by kernel_rfl) (by exact fun _ _ _ h => h) (Or.inl ⟨by rfl, ?_⟩) (by assumption) ?_
          rotate_left
          · intro w hSw
            try simp only [Cells, blk, List.cons_append, List.nil_append, and_true, Nat.reduceAdd, Nat.add_zero, Nat.zero_add] at hSw
            go_simp
            try with_reducible rfl
          simp only [Act.put, List.setIfInBounds_toArray, List.set_cons_zero, List.set_cons_succ]
          refine wpAnyH_take (i := 10) (oi := _) (v := ?_) (by rw [List.getElem?_toArray]; rfl) (by kernel_rfl) (by kernel_rfl) (by kernel_rfl) (by exact fun _ _ _ h => h) (Or.inl ⟨by rfl, ?_⟩) (by assumption) ?_
          rotate_left
          · intro w hSw
            try simp only [Cells, blk, List.cons_append, List.nil_append, and_true, Nat.reduceAdd, Nat.add_zero, Nat.zero_add] at hSw
            go_simp
            try with_reducible rfl
          simp only [Act.put, List.setIfInBounds_toArray, List.set_cons_zero, List.set_cons_succ]
          refine wpAnyH_ready (rs := [11]) (by kernel_rfl) (by simp) (AllReadyH.cons (o := _) (by rw [List.getElem?_toArray]; rfl) (fun K hK => ?_) AllReadyH.nil)
          go_simp
          go_at_call 33
          refine (HC2.out _).mono ?_
          rintro x w3 ⟨rfl, hB3⟩
          have T3 := Cells.keep (T.drew) hB3
          obtain ⟨hr3, hs3⟩ := ST.out w3 hB3
          clear hHeld
          refine hK.out _ _ (T3) (fun hHeld => ?_)
          clear hK K
          try simp only [Act.put, List.setIfInBounds_toArray, List.set_cons_zero, List.set_cons_succ]
          refine wpAnyH_take (i := 12) (oi := _) (v := ?_) (by rw [List.getElem?_toArray]; rfl) (by kernel_rfl) (by kernel_rfl) (by kernel_rfl) (by exact fun _ _ _ h => h) (Or.inl ⟨by rfl, ?_⟩) (by assumption) ?_
          rotate_left
          · intro w hSw
            try simp only [Cells, blk, List.cons_append, List.nil_append, and_true, Nat.reduceAdd, Nat.add_zero, Nat.zero_add] at hSw
            go_simp
            try with_reducible rfl
          simp only [Act.put, List.setIfInBounds_toArray, List.set_cons_zero, List.set_cons_succ]
          refine wpAnyH_take (i := 13) (oi := _) (v := ?_) (by rw [List.getElem?_toArray]; rfl) (by kernel_rfl) (by kernel_rfl) (by kernel_rfl) (by exact fun _ _ _ h => h) (Or.inl ⟨by rfl, ?_⟩) (by assumption) ?_
          rotate_left
          · intro w hSw
            try simp only [Cells, blk, List.cons_append, List.nil_append, and_true, Nat.reduceAdd, Nat.add_zero, Nat.zero_add] at hSw
            go_simp
            try with_reducible rfl
          simp only [Act.put, List.setIfInBounds_toArray, List.set_cons_zero, List.set_cons_succ]
          refine wpAnyH_done (by kernel_rfl) ?_ _
          clear T T3 hB3
          go_wp2
          have hmh := HMH.out
          refine ⟨⟨x, h, rfl, rfl, hsx, by omega, by omega, HLO.out, .inr (by rw [HPC.out]; exact hlt2), hr3, hs3⟩, ?_⟩
          simp [intOf]
          omega
        · have g2 : decide (c < 0) = false := by simpa using hl2
          have hnl : ¬ lt (p pc) (p h) := fun hx => hl2 (HC1.out.2 hx)
          go_wp2_with fail
          refine wp_region_held_drew (S := (fun W' : World => Cells W' (blk b (off + pc * 6) 0 [(es (p pc)).c0, (es (p pc)).c1, (es (p pc)).c2, (es (p pc)).c3, (es (p pc)).c4, (es (p pc)).c5] ++ blk b (off + h * 6) 0 [(es (p h)).c0, (es (p h)).c1, (es (p h)).c2, (es (p h)).c3, (es (p h)).c4, (es (p h)).c5]))) (by kernel_rfl) (T.drew) (fun hHeld => ?_)
          refine wpAnyH_take (i := 0) (oi := _) (v := ?_) (by rw [List.getElem?_toArray]; rfl) (by kernel_rfl) (by kernel_rfl) (by kernel_rfl) (by exact fun _ _ _ h => h) (Or.inl ⟨by rfl, ?_⟩) (by assumption) ?_
          rotate_left
          · intro w hSw
            try simp only [Cells, blk, List.cons_append, List.nil_append, and_true, Nat.reduceAdd, Nat.add_zero, Nat.zero_add] at hSw
            go_simp
            try with_reducible rfl
          simp only [Act.put, List.setIfInBounds_toArray, List.set_cons_zero, List.set_cons_succ]
          refine wpAnyH_take (i := 1) (oi := _) (v := ?_) (by rw [List.getElem?_toArray]; rfl) (by kernel_rfl) (by kernel_rfl) (by kernel_rfl) (by exact fun _ _ _ h => h) (Or.inl ⟨by rfl, ?_⟩) (by assumption) ?_
          rotate_left
          · intro w hSw
            try simp only [Cells, blk, List.cons_append, List.nil_append, and_true, Nat.reduceAdd, Nat.add_zero, Nat.zero_add] at hSw
            go_simp
            try with_reducible rfl
          simp only [Act.put, List.setIfInBounds_toArray, List.set_cons_zero, List.set_cons_succ]
          refine wpAnyH_take (i := 2) (oi := _) (v := ?_) (by rw [List.getElem?_toArray]; rfl) (by kernel_rfl) (by kernel_rfl) (by kernel_rfl) (by exact fun _ _ _ h => h) (Or.inl ⟨by rfl, ?_⟩) (by assumption) ?_
          rotate_left
          · intro w hSw
            try simp only [Cells, blk, List.cons_append, List.nil_append, and_true, Nat.reduceAdd, Nat.add_zero, Nat.zero_add] at hSw
            go_simp
            try with_reducible rfl
          simp only [Act.put, List.setIfInBounds_toArray, List.set_cons_zero, List.set_cons_succ]
          refine wpAnyH_take (i := 3) (oi := _) (v := ?_) (by rw [List.getElem?_toArray]; rfl) (by kernel_rfl) (by kernel_rfl) (by kernel_rfl) (by exact fun _ _ _ h => h) (Or.inl ⟨by rfl, ?_⟩) (by assumption) ?_
          rotate_left
          · intro w hSw
            try simp only [Cells, blk, List.cons_append, List.nil_append, and_true, Nat.reduceAdd, Nat.add_zero, Nat.zero_add] at hSw
            go_simp
            try with_reducible rfl
          simp only [Act.put, List.setIfInBounds_toArray, List.set_cons_zero, List.set_cons_succ]
          refine wpAnyH_take (i := 4) (oi := _) (v := ?_) (by rw [List.getElem?_toArray]; rfl) (by kernel_rfl) (by kernel_rfl) (by kernel_rfl) (by exact fun _ _ _ h => h) (Or.inl ⟨by rfl, ?_⟩) (by assumption) ?_
          rotate_left
          · intro w hSw
            try simp only [Cells, blk, List.cons_append, List.nil_append, and_true, Nat.reduceAdd, Nat.add_zero, Nat.zero_add] at hSw
            go_simp
            try with_reducible rfl
          simp only [Act.put, List.setIfInBounds_toArray, List.set_cons_zero, List.set_cons_succ]
          refine wpAnyH_take (i := 5) (oi := _) (v := ?_) (by rw [List.getElem?_toArray]; rfl) (by kernel_rfl) (by kernel_rfl) (by kernel_rfl) (by exact fun _ _ _ h => h) (Or.inl ⟨by rfl, ?_⟩) (by assumption) ?_
          rotate_left
          · intro w hSw
            try simp only [Cells, blk, List.cons_append, List.nil_append, and_true, Nat.reduceAdd, Nat.add_zero, Nat.zero_add] at hSw
            go_simp
            try with_reducible rfl
          simp only [Act.put, List.setIfInBounds_toArray, List.set_cons_zero, List.set_cons_succ]
          refine wpAnyH_take (i := 6) (oi := _) (v := ?_) (by rw [List.getElem?_toArray]; rfl) (by kernel_rfl) (by kernel_rfl) (by kernel_rfl) (by exact fun _ _ _ h => h) (Or.inl ⟨by rfl, ?_⟩) (by assumption) ?_
          rotate_left
          · intro w hSw
            try simp only [Cells, blk, List.cons_append, List.nil_append, and_true, Nat.reduceAdd, Nat.add_zero, Nat.zero_add] at hSw
            go_simp
            try with_reducible rfl
          simp only [Act.put, List.setIfInBounds_toArray, List.set_cons_zero, List.set_cons_succ]
          refine wpAnyH_take (i := 7) (oi := _) (v := ?_) (by rw [List.getElem?_toArray]; rfl) (by kernel_rfl) (by kernel_rfl) (by kernel_rfl) (by exact fun _ _ _ h => h) (Or.inl ⟨by rfl, ?_⟩) (by assumption) ?_
          rotate_left
          · intro w hSw
            try simp only [Cells, blk, List.cons_append, List.nil_append, and_true, Nat.reduceAdd, Nat.add_zero, Nat.zero_add] at hSw
            go_simp
            try with_reducible rfl
          simp only [Act.put, List.setIfInBounds_toArray, List.set_cons_zero, List.set_cons_succ]
          refine wpAnyH_take (i := 8) (oi := _) (v := ?_) (by rw [List.getElem?_toArray]; rfl) (by kernel_rfl) (by kernel_rfl) (by kernel_rfl) (by exact fun _ _ _ h => h) (Or.inl ⟨by rfl, ?_⟩) (by assumption) ?_
          rotate_left
          · intro w hSw
            try simp only [Cells, blk, List.cons_append, List.nil_append, and_true, Nat.reduceAdd, Nat.add_zero, Nat.zero_add] at hSw
            go_simp
            try with_reducible rfl
          simp only [Act.put, List.setIfInBounds_toArray, List.set_cons_zero, List.set_cons_succ]
          refine wpAnyH_take (i := 9) (oi := _) (v := ?_) (by rw [List.getElem?_toArray]; rfl) (by kernel_rfl) (by kernel_rfl) (by kernel_rfl) (by exact fun _ _ _ h => h) (Or.inl ⟨by rfl, ?_⟩) (by assumption) ?_
          rotate_left
          · intro w hSw
            try simp only [Cells, blk, List.cons_append, List.nil_append, and_true, Nat.reduceAdd, Nat.add_zero, Nat.zero_add] at hSw
            go_simp
            try with_reducible rfl
          simp only [Act.put, List.setIfInBounds_toArray, List.set_cons_zero, List.set_cons_succ]
          refine wpAnyH_take (i := 10) (oi := _) (v := ?_) (by rw [List.getElem?_toArray]; rfl) (by kernel_rfl) (by kernel_rfl) (by kernel_rfl) (by exact fun _ _ _ h => h) (Or.inl ⟨by rfl, ?_⟩) (by assumption) ?_
          rotate_left
          · intro w hSw
            try simp only [Cells, blk, List.cons_append, List.nil_append, and_true, Nat.reduceAdd, Nat.add_zero, Nat.zero_add] at hSw
            go_simp
            try with_reducible rfl
          simp only [Act.put, List.setIfInBounds_toArray, List.set_cons_zero, List.set_cons_succ]
          refine wpAnyH_ready (rs := [11]) (by kernel_rfl) (by simp) (AllReadyH.cons (o := _) (by rw [List.getElem?_toArray]; rfl) (fun K hK => ?_) AllReadyH.nil)
          go_simp
          go_at_call 33
          refine (HC2.out _).mono ?_
          rintro x w3 ⟨rfl, hB3⟩
          have T3 := Cells.keep (T.drew) hB3
          obtain ⟨hr3, hs3⟩ := ST.out w3 hB3
          clear hHeld
          refine hK.out _ _ (T3) (fun hHeld => ?_)
          clear hK K
          try simp only [Act.put, List.setIfInBounds_toArray, List.set_cons_zero, List.set_cons_succ]
          refine wpAnyH_take (i := 12) (oi := _) (v := ?_) (by rw [List.getElem?_toArray]; rfl) (by kernel_rfl) (by kernel_rfl) (by kernel_rfl) (by exact fun _ _ _ h => h) (Or.inl ⟨by rfl, ?_⟩) (by assumption) ?_
          rotate_left
          · intro w hSw
            try simp only [Cells, blk, List.cons_append, List.nil_append, and_true, Nat.reduceAdd, Nat.add_zero, Nat.zero_add] at hSw
            go_simp
            try with_reducible rfl
          simp only [Act.put, List.setIfInBounds_toArray, List.set_cons_zero, List.set_cons_succ]
          refine wpAnyH_take (i := 13) (oi := _) (v := ?_) (by rw [List.getElem?_toArray]; rfl) (by kernel_rfl) (by kernel_rfl) (by kernel_rfl) (by exact fun _ _ _ h => h) (Or.inl ⟨by rfl, ?_⟩) (by assumption) ?_
          rotate_left
          · intro w hSw
            try simp only [Cells, blk, List.cons_append, List.nil_append, and_true, Nat.reduceAdd, Nat.add_zero, Nat.zero_add] at hSw
            go_simp
            try with_reducible rfl
          simp only [Act.put, List.setIfInBounds_toArray, List.set_cons_zero, List.set_cons_succ]
          refine wpAnyH_done (by kernel_rfl) ?_ _
          clear T T3 hB3
          go_wp2
          have hmh := HMH.out
          refine ⟨⟨h + 1, y, by simp, rfl, by omega, by omega, hyr, .inr (by rw [hmh.2.2, Nat.add_sub_cancel]; exact hnl), HHI.out, hr3, hs3⟩, ?_⟩
          simp [intOf]
          omega
      · have e1 : x = y := by omega
        subst e1
        have g1 : decide (x < x) = false := by simp
        obtain ⟨en, hen'⟩ : ∃ en, nn - x = en := ⟨_, rfl⟩
        have v5 : IntKind.i64.wrap ((nn : Int) - (x : Int)) = (en : Int) := by rw [IntWalk.i64_in _ (by omega)]; omega
        have hnn := HNN.out
        have hme' : mid + m - x = en := by omega
        have cr := sym_cross hlt ham hme HS1.out HS2.out HIDX.out (mid := mid) (s := x) (by omega) (by omega) (by omega) (by omega) (by omega) (by omega)
          (by
            rcases hlo with h | h
            · rcases h0.2.2.2.2.2.1 with h1 | h1
              · exact .inl (by omega)
              · exact .inr (.inl (by omega))
            · exact .inr (.inr (by rw [show mid + m - x = nn - x by omega]; exact h)))
          (by
            rcases hhi with h | h
            · rcases h0.2.2.2.2.2.2 with h1 | h1
              · exact .inl (by omega)
              · exact .inr (.inl (by omega))
            · exact .inr (.inr (by rw [show mid + m - x - 1 = nn - 1 - x by omega]; exact h)))
        rw [hme'] at cr
        have CR := Lib.hid cr
        have hqm := (mem_rot (p := p) (a := x) (m := m) (b := en) (by omega) (by omega)).wide (show a ≤ x by omega) (show en ≤ e by omega)
        have HQN := Lib.hid (Fd_mlt hqm hen HP.out)
        have HQM := Lib.hid hqm
        have HE := Lib.hid (show mid + m - x = en ∧ x ≤ m ∧ x ≤ mid ∧ en ≤ e ∧ a ≤ x ∧ m ≤ en by omega)
        clear cr hqm hlo hhi
        by_cases al : x < m
        · have be : x < mid := by omega
          by_cases ga : a < x
          · by_cases de : en < e
            · have t0 : decide (x < m) = true := by simp only [decide_eq_true_eq]; omega
              have t1 : decide (m < en) = true := by simp only [decide_eq_true_eq]; omega
              have t2 : decide (a < x) = true := by simp only [decide_eq_true_eq]; omega
              have t3 : decide (x < mid) = true := by simp only [decide_eq_true_eq]; omega
              have t4 : decide (mid < en) = true := by simp only [decide_eq_true_eq]; omega
              have t5 : decide (en < e) = true := by simp only [decide_eq_true_eq]; omega
              have ROT := Lib.hid (Fd_rot es p b off n cap wr hri hn HO.out x m en (by omega) (by omega) (by omega) (.func (.func 33) #[] #[]))
              have I1 := Lib.hid (fun (W : World) hW => IH.out (rot p x m en) W hW HQN.out a x mid (by omega) (by omega) (by omega) (by omega) CR.out.1 CR.out.2.1 CR.out.2.2.2.2.1)
              have I2 := Lib.hid (fun (W : World) (q1 : Nat → Nat) hW (hm : Mem (rot p x m en) q1 a mid) => IH.out q1 W hW (Fd_mlt hm (by omega) HQN.out) mid en e (by omega) (by omega) (by omega) (by omega)
                (CR.out.2.2.1.congr fun k h1 h2 => hm.out k (.inr h1)) (CR.out.2.2.2.1.congr fun k h1 h2 => hm.out k (by omega)) (fun i j h1 h2 h3 h4 => by rw [hm.out i (.inr h1), hm.out j (by omega)]; exact CR.out.2.2.2.2.2.1 i j h1 h2 h3 h4))
              have HSW := Lib.hid hsw
              clear hri hsw h0 hnn hme' hen'
              go_wp2_with fail
              go_at_call 67
              refine ROT.out.mono ?_
              rintro y w4 ⟨rfl, hr4, hs4⟩
              have hs4 := HSW.out.trans hs4
              go_wp2_with fail
              go_at_call 64
              refine (I1.out _ hr4).mono ?_
              rintro y w5 ⟨rfl, q1, hr5, hm5, ht5, hs5⟩
              have hs5 := hs4.trans hs5
              clear I1
              go_wp2_with fail
              go_at_call 64
              refine (I2.out _ q1 hr5 hm5).mono ?_
              rintro y w6 ⟨rfl, q2, hr6, hm6, ht6, hs6⟩
              have hs6 := hs5.trans hs6
              go_wp2
              go_end0
              obtain ⟨z1, z2⟩ := sym_done HQM.out CR.out.2.2.2.2.2.2 hm5 ht5 hm6 ht6 (by have := H0.out; omega) (by have := H0.out; omega)
              exact ⟨rfl, q2, hr6, z1, z2, hs6⟩
            · have t0 : decide (x < m) = true := by simp only [decide_eq_true_eq]; omega
              have t1 : decide (m < en) = true := by simp only [decide_eq_true_eq]; omega
              have t2 : decide (a < x) = true := by simp only [decide_eq_true_eq]; omega
              have t3 : decide (x < mid) = true := by simp only [decide_eq_true_eq]; omega
              have t4 : decide (mid < en) = true := by simp only [decide_eq_true_eq]; omega
              have t5 : decide (en < e) = false := by simp only [decide_eq_false_iff_not]; omega
              have ROT := Lib.hid (Fd_rot es p b off n cap wr hri hn HO.out x m en (by omega) (by omega) (by omega) (.func (.func 33) #[] #[]))
              have I1 := Lib.hid (fun (W : World) hW => IH.out (rot p x m en) W hW HQN.out a x mid (by omega) (by omega) (by omega) (by omega) CR.out.1 CR.out.2.1 CR.out.2.2.2.2.1)
              have HSW := Lib.hid hsw
              clear hri hsw h0 hnn hme' hen'
              go_wp2_with fail
              go_at_call 67
              refine ROT.out.mono ?_
              rintro y w4 ⟨rfl, hr4, hs4⟩
              have hs4 := HSW.out.trans hs4
              go_wp2_with fail
              go_at_call 64
              refine (I1.out _ hr4).mono ?_
              rintro y w5 ⟨rfl, q1, hr5, hm5, ht5, hs5⟩
              have hs5 := hs4.trans hs5
              clear I1
              obtain ⟨q2, hr6, hm6, ht6⟩ : ∃ q2, Row6 53 _ b off es q2 n ∧ Mem q1 q2 mid e ∧ Srt lt q2 mid e := ⟨_, hr5, Mem.refl _ _ _, by have h := CR.out.2.2.1; rw [show en = e by have := HE.out; omega] at h hm5; exact h.congr fun k h1 h2 => hm5.out k (.inr h1)⟩
              have hs6 := hs5
              go_wp2
              go_end0
              obtain ⟨z1, z2⟩ := sym_done HQM.out CR.out.2.2.2.2.2.2 hm5 ht5 hm6 ht6 (by have := H0.out; omega) (by have := H0.out; omega)
              exact ⟨rfl, q2, hr6, z1, z2, hs6⟩
          · by_cases de : en < e
            · have t0 : decide (x < m) = true := by simp only [decide_eq_true_eq]; omega
              have t1 : decide (m < en) = true := by simp only [decide_eq_true_eq]; omega
              have t2 : decide (a < x) = false := by simp only [decide_eq_false_iff_not]; omega
              have t3 : decide (x < mid) = true := by simp only [decide_eq_true_eq]; omega
              have t4 : decide (mid < en) = true := by simp only [decide_eq_true_eq]; omega
              have t5 : decide (en < e) = true := by simp only [decide_eq_true_eq]; omega
              have ROT := Lib.hid (Fd_rot es p b off n cap wr hri hn HO.out x m en (by omega) (by omega) (by omega) (.func (.func 33) #[] #[]))
              have I2 := Lib.hid (fun (W : World) (q1 : Nat → Nat) hW (hm : Mem (rot p x m en) q1 a mid) => IH.out q1 W hW (Fd_mlt hm (by omega) HQN.out) mid en e (by omega) (by omega) (by omega) (by omega)
                (CR.out.2.2.1.congr fun k h1 h2 => hm.out k (.inr h1)) (CR.out.2.2.2.1.congr fun k h1 h2 => hm.out k (by omega)) (fun i j h1 h2 h3 h4 => by rw [hm.out i (.inr h1), hm.out j (by omega)]; exact CR.out.2.2.2.2.2.1 i j h1 h2 h3 h4))
              have HSW := Lib.hid hsw
              clear hri hsw h0 hnn hme' hen'
              go_wp2_with fail
              go_at_call 67
              refine ROT.out.mono ?_
              rintro y w4 ⟨rfl, hr4, hs4⟩
              have hs4 := HSW.out.trans hs4
              obtain ⟨q1, hr5, hm5, ht5⟩ : ∃ q1, Row6 53 _ b off es q1 n ∧ Mem (rot p x m en) q1 a mid ∧ Srt lt q1 a mid := ⟨_, hr4, Mem.refl _ _ _, by have h := CR.out.2.1; have he := HE.out; rw [show x = a by omega] at h ⊢; exact h⟩
              have hs5 := hs4
              go_wp2_with fail
              go_at_call 64
              refine (I2.out _ q1 hr5 hm5).mono ?_
              rintro y w6 ⟨rfl, q2, hr6, hm6, ht6, hs6⟩
              have hs6 := hs5.trans hs6
              go_wp2
              go_end0
              obtain ⟨z1, z2⟩ := sym_done HQM.out CR.out.2.2.2.2.2.2 hm5 ht5 hm6 ht6 (by have := H0.out; omega) (by have := H0.out; omega)
              exact ⟨rfl, q2, hr6, z1, z2, hs6⟩
            · have t0 : decide (x < m) = true := by simp only [decide_eq_true_eq]; omega
              have t1 : decide (m < en) = true := by simp only [decide_eq_true_eq]; omega
              have t2 : decide (a < x) = false := by simp only [decide_eq_false_iff_not]; omega
              have t3 : decide (x < mid) = true := by simp only [decide_eq_true_eq]; omega
              have t4 : decide (mid < en) = true := by simp only [decide_eq_true_eq]; omega
              have t5 : decide (en < e) = false := by simp only [decide_eq_false_iff_not]; omega
              have ROT := Lib.hid (Fd_rot es p b off n cap wr hri hn HO.out x m en (by omega) (by omega) (by omega) (.func (.func 33) #[] #[]))
              have HSW := Lib.hid hsw
              clear hri hsw h0 hnn hme' hen'
              go_wp2_with fail
              go_at_call 67
              refine ROT.out.mono ?_
              rintro y w4 ⟨rfl, hr4, hs4⟩
              have hs4 := HSW.out.trans hs4
              obtain ⟨q1, hr5, hm5, ht5⟩ : ∃ q1, Row6 53 _ b off es q1 n ∧ Mem (rot p x m en) q1 a mid ∧ Srt lt q1 a mid := ⟨_, hr4, Mem.refl _ _ _, by have h := CR.out.2.1; have he := HE.out; rw [show x = a by omega] at h ⊢; exact h⟩
              have hs5 := hs4
              obtain ⟨q2, hr6, hm6, ht6⟩ : ∃ q2, Row6 53 _ b off es q2 n ∧ Mem q1 q2 mid e ∧ Srt lt q2 mid e := ⟨_, hr5, Mem.refl _ _ _, by have h := CR.out.2.2.1; rw [show en = e by have := HE.out; omega] at h hm5; exact h.congr fun k h1 h2 => hm5.out k (.inr h1)⟩
              have hs6 := hs5
              go_wp2
              go_end0
              obtain ⟨z1, z2⟩ := sym_done HQM.out CR.out.2.2.2.2.2.2 hm5 ht5 hm6 ht6 (by have := H0.out; omega) (by have := H0.out; omega)
              exact ⟨rfl, q2, hr6, z1, z2, hs6⟩
        · have ga : a < x := by omega
          by_cases de : en < e
          · by_cases be : x < mid
            · have t0 : decide (x < m) = false := by simp only [decide_eq_false_iff_not]; omega
              have t1 : decide (m < en) = true := by simp only [decide_eq_true_eq]; omega
              have t2 : decide (a < x) = true := by simp only [decide_eq_true_eq]; omega
              have t3 : decide (x < mid) = true := by simp only [decide_eq_true_eq]; omega
              have t4 : decide (mid < en) = false := by simp only [decide_eq_false_iff_not]; omega
              have t5 : decide (en < e) = true := by simp only [decide_eq_true_eq]; omega
              have hr4 : Row6 53 wr b off es (rot p x m en) n := by rw [show rot p x m en = p from by rw [show x = m by omega]; exact rot_left]; exact hri
              have HR4 := Lib.hid hr4
              clear hr4
              have I1 := Lib.hid (fun (W : World) hW => IH.out (rot p x m en) W hW HQN.out a x mid (by omega) (by omega) (by omega) (by omega) CR.out.1 CR.out.2.1 CR.out.2.2.2.2.1)
              have HSW := Lib.hid hsw
              clear hri hsw h0 hnn hme' hen'
              have hr4 := HR4.out
              have hs4 := HSW.out
              go_wp2_with fail
              go_at_call 64
              refine (I1.out _ hr4).mono ?_
              rintro y w5 ⟨rfl, q1, hr5, hm5, ht5, hs5⟩
              have hs5 := hs4.trans hs5
              clear I1
              obtain ⟨q2, hr6, hm6, ht6⟩ : ∃ q2, Row6 53 _ b off es q2 n ∧ Mem q1 q2 mid e ∧ Srt lt q2 mid e := ⟨_, hr5, Mem.refl _ _ _, by have h := CR.out.2.2.2.1; rw [show en = mid by have := HE.out; omega] at h hm5; exact h.congr fun k h1 h2 => hm5.out k (.inr h1)⟩
              have hs6 := hs5
              go_wp2
              go_end0
              obtain ⟨z1, z2⟩ := sym_done HQM.out CR.out.2.2.2.2.2.2 hm5 ht5 hm6 ht6 (by have := H0.out; omega) (by have := H0.out; omega)
              exact ⟨rfl, q2, hr6, z1, z2, hs6⟩
            · have t0 : decide (x < m) = false := by simp only [decide_eq_false_iff_not]; omega
              have t1 : decide (m < en) = false := by simp only [decide_eq_false_iff_not]; omega
              have t2 : decide (a < x) = true := by simp only [decide_eq_true_eq]; omega
              have t3 : decide (x < mid) = false := by simp only [decide_eq_false_iff_not]; omega
              have t4 : decide (mid < en) = false := by simp only [decide_eq_false_iff_not]; omega
              have t5 : decide (en < e) = true := by simp only [decide_eq_true_eq]; omega
              have hr4 : Row6 53 wr b off es (rot p x m en) n := by rw [show rot p x m en = p from by rw [show en = m by omega]; exact rot_right]; exact hri
              have HR4 := Lib.hid hr4
              clear hr4
              have HSW := Lib.hid hsw
              clear hri hsw h0 hnn hme' hen'
              have hr4 := HR4.out
              have hs4 := HSW.out
              obtain ⟨q1, hr5, hm5, ht5⟩ : ∃ q1, Row6 53 _ b off es q1 n ∧ Mem (rot p x m en) q1 a mid ∧ Srt lt q1 a mid := ⟨_, hr4, Mem.refl _ _ _, by have h := CR.out.1; have h0 := H0.out; rw [show x = mid by omega] at h ⊢; exact h⟩
              have hs5 := hs4
              obtain ⟨q2, hr6, hm6, ht6⟩ : ∃ q2, Row6 53 _ b off es q2 n ∧ Mem q1 q2 mid e ∧ Srt lt q2 mid e := ⟨_, hr5, Mem.refl _ _ _, by have h := CR.out.2.2.2.1; rw [show en = mid by have := HE.out; omega] at h hm5; exact h.congr fun k h1 h2 => hm5.out k (.inr h1)⟩
              have hs6 := hs5
              go_wp2
              go_end0
              obtain ⟨z1, z2⟩ := sym_done HQM.out CR.out.2.2.2.2.2.2 hm5 ht5 hm6 ht6 (by have := H0.out; omega) (by have := H0.out; omega)
              exact ⟨rfl, q2, hr6, z1, z2, hs6⟩
          · by_cases be : x < mid
            · have t0 : decide (x < m) = false := by simp only [decide_eq_false_iff_not]; omega
              have t1 : decide (m < en) = true := by simp only [decide_eq_true_eq]; omega
              have t2 : decide (a < x) = true := by simp only [decide_eq_true_eq]; omega
              have t3 : decide (x < mid) = true := by simp only [decide_eq_true_eq]; omega
              have t4 : decide (mid < en) = false := by simp only [decide_eq_false_iff_not]; omega
              have t5 : decide (en < e) = false := by simp only [decide_eq_false_iff_not]; omega
              have hr4 : Row6 53 wr b off es (rot p x m en) n := by rw [show rot p x m en = p from by rw [show x = m by omega]; exact rot_left]; exact hri
              have HR4 := Lib.hid hr4
              clear hr4
              have I1 := Lib.hid (fun (W : World) hW => IH.out (rot p x m en) W hW HQN.out a x mid (by omega) (by omega) (by omega) (by omega) CR.out.1 CR.out.2.1 CR.out.2.2.2.2.1)
              have HSW := Lib.hid hsw
              clear hri hsw h0 hnn hme' hen'
              have hr4 := HR4.out
              have hs4 := HSW.out
              go_wp2_with fail
              go_at_call 64
              refine (I1.out _ hr4).mono ?_
              rintro y w5 ⟨rfl, q1, hr5, hm5, ht5, hs5⟩
              have hs5 := hs4.trans hs5
              clear I1
              obtain ⟨q2, hr6, hm6, ht6⟩ : ∃ q2, Row6 53 _ b off es q2 n ∧ Mem q1 q2 mid e ∧ Srt lt q2 mid e := ⟨_, hr5, Mem.refl _ _ _, by have h := CR.out.2.2.2.1; rw [show en = mid by have := HE.out; omega] at h hm5; exact h.congr fun k h1 h2 => hm5.out k (.inr h1)⟩
              have hs6 := hs5
              go_wp2
              go_end0
              obtain ⟨z1, z2⟩ := sym_done HQM.out CR.out.2.2.2.2.2.2 hm5 ht5 hm6 ht6 (by have := H0.out; omega) (by have := H0.out; omega)
              exact ⟨rfl, q2, hr6, z1, z2, hs6⟩
            · have t0 : decide (x < m) = false := by simp only [decide_eq_false_iff_not]; omega
              have t1 : decide (m < en) = false := by simp only [decide_eq_false_iff_not]; omega
              have t2 : decide (a < x) = true := by simp only [decide_eq_true_eq]; omega
              have t3 : decide (x < mid) = false := by simp only [decide_eq_false_iff_not]; omega
              have t4 : decide (mid < en) = false := by simp only [decide_eq_false_iff_not]; omega
              have t5 : decide (en < e) = false := by simp only [decide_eq_false_iff_not]; omega
              have hr4 : Row6 53 wr b off es (rot p x m en) n := by rw [show rot p x m en = p from by rw [show en = m by omega]; exact rot_right]; exact hri
              have HR4 := Lib.hid hr4
              clear hr4
              have HSW := Lib.hid hsw
              clear hri hsw h0 hnn hme' hen'
              have hr4 := HR4.out
              have hs4 := HSW.out
              obtain ⟨q1, hr5, hm5, ht5⟩ : ∃ q1, Row6 53 _ b off es q1 n ∧ Mem (rot p x m en) q1 a mid ∧ Srt lt q1 a mid := ⟨_, hr4, Mem.refl _ _ _, by have h := CR.out.1; have h0 := H0.out; rw [show x = mid by omega] at h ⊢; exact h⟩
              have hs5 := hs4
              obtain ⟨q2, hr6, hm6, ht6⟩ : ∃ q2, Row6 53 _ b off es q2 n ∧ Mem q1 q2 mid e ∧ Srt lt q2 mid e := ⟨_, hr5, Mem.refl _ _ _, by have h := CR.out.2.2.2.1; rw [show en = mid by have := HE.out; omega] at h hm5; exact h.congr fun k h1 h2 => hm5.out k (.inr h1)⟩
              have hs6 := hs5
              go_wp2
              go_end0
              obtain ⟨z1, z2⟩ := sym_done HQM.out CR.out.2.2.2.2.2.2 hm5 ht5 hm6 ht6 (by have := H0.out; omega) (by have := H0.out; omega)
              exact ⟨rfl, q2, hr6, z1, z2, hs6⟩
end Go.Proofs.Yteblimdbkiiaaaa
