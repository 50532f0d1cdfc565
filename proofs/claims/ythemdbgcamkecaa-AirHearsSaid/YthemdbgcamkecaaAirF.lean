/- Walks of air: checkMedium. -/
import Derived.Test.YthemdbgcamkecaaAirE
namespace Go.Proofs.Ythemdbgcamkecaa
open Go.RowKit

/-- the cells of jams -/
def jenc (t : Int × Int × Int) : List Value := [.int .i64 t.1, .int .i64 t.2.1, .int .i64 t.2.2]
def jcells (l : List (Int × Int × Int)) : List Value := l.flatMap jenc
theorem jcells_get (l : List (Int × Int × Int)) (k : Nat) (h : k < l.length) : (jcells l)[k * 3]? = some (.int .i64 l[k].1) ∧ (jcells l)[k * 3 + 1]? = some (.int .i64 l[k].2.1) ∧ (jcells l)[k * 3 + 2]? = some (.int .i64 l[k].2.2) := by
  have h0 := flat_get jenc 3 (fun _ => rfl) l k 0 h (by decide)
  have h1 := flat_get jenc 3 (fun _ => rfl) l k 1 h (by decide)
  have h2 := flat_get jenc 3 (fun _ => rfl) l k 2 h (by decide)
  exact ⟨h0, h1, h2⟩

/-- what is wrong with a link -/
def linkB (d : Int) (p : Int × Int) : Bool := decide (p.1 < 0) || decide (p.2 ≤ p.1) || decide (d ≤ p.2)
def ordB (q p : Int × Int) : Bool := decide (p.1 < q.1) || (decide (p.1 = q.1) && decide (p.2 ≤ q.2))
def linkV (d : Int) (l : List (Int × Int)) (k : Nat) : Int :=
  if linkB d (l.getD k (0, 0)) = true then 5 else if 0 < k ∧ ordB (l.getD (k - 1) (0, 0)) (l.getD k (0, 0)) = true then 13 else 0
def jamB (t : Int × Int × Int) : Bool := decide (t.1 < -1) || decide (39 < t.1) || decide (t.2.1 < 0) || decide (t.2.2 < t.2.1) || decide (1099511627776 < t.2.2)
def jamV (l : List (Int × Int × Int)) (k : Nat) : Int := if jamB (l.getD k (0, 0, 0)) = true then 5 else 0
def lossB (d : Int) (t : Int × Int) : Bool := decide (t.2 < 0) || decide (d ≤ t.2)
def lossV (d : Int) (l : List (Int × Int)) (k : Nat) : Int := if lossB d (l.getD k (0, 0)) = true then 5 else 0
theorem getD_at {α : Type} (l : List α) (k : Nat) (x : α) (h : k < l.length) : l.getD k x = l[k] := by simp [h]

/-- the comparison of two pairs -/
theorem ord_or (q p : Int × Int) : decide (0 ≤ orL [cmpI q.1 p.1, cmpI q.2 p.2]) = ordB q p := by
  unfold ordB orL orL orL cmpI
  by_cases h1 : q.1 < p.1
  · simp [h1]; omega
  · by_cases h2 : p.1 < q.1
    · simp [h1, h2]
    · have h3 : p.1 = q.1 := by omega
      by_cases h4 : q.2 < p.2
      · simp [h3, h4]; try omega
      · by_cases h5 : p.2 < q.2
        · simp [h3, h4, h5]; try omega
        · simp [h3, h4, h5]; try omega

/-- two blocks of two cells each -/
def Four (W : World) (b c : Nat) (x0 x1 y0 y1 : Value) : Prop := W.cell? ⟨b, 0, none⟩ = some x0 ∧ W.cell? ⟨b, 1, none⟩ = some x1 ∧ W.cell? ⟨c, 0, none⟩ = some y0 ∧ W.cell? ⟨c, 1, none⟩ = some y1
theorem Four.keep {W W' : World} {b c : Nat} {x0 x1 y0 y1 : Value} (h : Four W b c x0 x1 y0 y1) (hb : Below W.heap.size W W') : Four W' b c x0 x1 y0 y1 := by
  obtain ⟨h0, h1, h2, h3⟩ := h
  exact ⟨kc h0 hb, kc h1 hb, kc h2 hb, kc h3 hb⟩
theorem four_new (w : World) (t t' : TypeId) (x0 x1 y0 y1 : Value) : Four ((w.alloc (.cells #[x0, x1] t)).alloc (.cells #[y0, y1] t')) w.heap.size (w.heap.size + 1) x0 x1 y0 y1 := by
  have e : (w.alloc (.cells #[x0, x1] t)).heap.size = w.heap.size + 1 := by simp
  have hb := (Below.refl (w.alloc (.cells #[x0, x1] t)).heap.size (w.alloc (.cells #[x0, x1] t))).alloc (Nat.le_refl _) (.cells #[y0, y1] t')
  have o := fun j v h => kc (cellNew w #[x0, x1] t j v h) hb
  have n := cellNew (w.alloc (.cells #[x0, x1] t)) #[y0, y1] t'
  rw [e] at n
  exact ⟨o 0 _ rfl, o 1 _ rfl, n 0 _ rfl, n 1 _ rfl⟩

/-- what is wrong with a medium -/
def mediumE (d : Int) (ls : List (Int × Int)) (js : List (Int × Int × Int)) (ss : List (Int × Int)) : Int :=
  orL [firstE (linkV d ls) ls.length, firstE (jamV js) js.length, firstE (lossV d ss) ss.length]

set_option linter.unusedSimpArgs false in
set_option maxHeartbeats 2000000 in
theorem medium_any (d : Int) (lv jv sv : Value) (ls : List (Int × Int)) (js : List (Int × Int × Int)) (ss : List (Int × Int)) (hd : 0 ≤ d ∧ d ≤ 8) (w : World)
    (h1 : SR w lv ls.length 2 (tcells ls)) (h2 : SR w jv js.length 3 (jcells js)) (h3 : SR w sv ss.length 2 (tcells ss)) :
    Calls Try.prog 35 #[.agg #[.int .i64 d, lv, jv, sv]] w fun e w' => e = .returned (.int .i64 (mediumE d ls js ss)) ∧ Below w.heap.size w w' := by
  obtain ⟨n1, hn1⟩ : ∃ n, ls.length = n := ⟨_, rfl⟩
  obtain ⟨n2, hn2⟩ : ∃ n, js.length = n := ⟨_, rfl⟩
  obtain ⟨n3, hn3⟩ : ∃ n, ss.length = n := ⟨_, rfl⟩
  obtain ⟨hm1, _, _, a1, c1, rfl, _, hcell1⟩ := h1
  obtain ⟨hm2, _, _, a2, c2, rfl, _, hcell2⟩ := h2
  obtain ⟨hm3, _, _, a3, c3, rfl, _, hcell3⟩ := h3
  unfold maxLen at hm1 hm2 hm3
  unfold mediumE
  rw [hn1] at hm1 hcell1
  rw [hn2] at hm2 hcell2
  rw [hn3] at hm3 hcell3
  rw [hn1, hn2, hn3]
  have HN1 := Lib.hid hn1
  have HN2 := Lib.hid hn2
  have HN3 := Lib.hid hn3
  have HC1 := Lib.hid hcell1
  have HC2 := Lib.hid hcell2
  have HC3 := Lib.hid hcell3
  clear hn1 hn2 hn3 hcell1 hcell2 hcell3
  obtain ⟨E1, hE1⟩ : ∃ E, firstE (linkV d ls) n1 = E := ⟨_, rfl⟩
  obtain ⟨E2, hE2⟩ : ∃ E, firstE (jamV js) n2 = E := ⟨_, rfl⟩
  obtain ⟨E3, hE3⟩ : ∃ E, firstE (lossV d ss) n3 = E := ⟨_, rfl⟩
  have HE1 := Lib.hid hE1
  have HE2 := Lib.hid hE2
  have HE3 := Lib.hid hE3
  rw [hE1, hE2, hE3]
  clear hE1 hE2 hE3
  go_enter Try.func35, Try.ntmps35
  go_wp2_with fail
  have k0 := cellNew w #[.int .i64 d, .slice a1 n1 c1, .slice a2 n2 c2, .slice a3 n3 c3] 34 0 _ rfl
  have k1 := cellNew w #[.int .i64 d, .slice a1 n1 c1, .slice a2 n2 c2, .slice a3 n3 c3] 34 1 _ rfl
  have k2 := cellNew w #[.int .i64 d, .slice a1 n1 c1, .slice a2 n2 c2, .slice a3 n3 c3] 34 2 _ rfl
  have k3 := cellNew w #[.int .i64 d, .slice a1 n1 c1, .slice a2 n2 c2, .slice a3 n3 c3] 34 3 _ rfl
  have hBW : Below w.heap.size w (w.alloc (.cells #[.int .i64 d, .slice a1 n1 c1, .slice a2 n2 c2, .slice a3 n3 c3] 34)) := (Below.refl _ _).alloc (Nat.le_refl _) _
  generalize hW : w.alloc (.cells _ 34) = W at k0 k1 k2 k3 hBW ⊢
  clear hW
  go_loopw [13, 3, 4, 5] (fun i _ _ _ wr => ∃ k : Nat, k ≤ n1 ∧ i = .int .i64 k ∧ Hid (firstE (linkV d ls) k = 0) ∧ Below W.heap.size W wr) (fun i _ _ _ _ => n1 - (intOf i).toNat)
  case atStart => exact ⟨0, by omega, rfl, rfl, Below.refl _ _⟩
  case round =>
    obtain ⟨k, hk, rfl, hz, hB⟩ := hrel
    have q0 := kc k0 hB
    have q1 := kc k1 hB
    have hwr := World.block_lt_of_cell? wr _ q0
    simp only at hwr
    by_cases hlt : k < n1
    · have hkl : k < ls.length := by rw [HN1.out]; exact hlt
      obtain ⟨b, off, rfl, hb, hx⟩ := HC1.out (by omega)
      obtain ⟨p1, p2⟩ := tcells_get ls k hkl
      have hbW : b < W.heap.size := Nat.lt_of_lt_of_le hb hBW.size
      have dd : ∀ j u, (tcells ls)[j]? = some u → wr.cell? ⟨b, off + j, none⟩ = some u := fun j u hu => ((hB.cell (p := ⟨b, off + j, none⟩) hbW).trans (hBW.cell (p := ⟨b, off + j, none⟩) hb)).trans (hx _ _ hu)
      have d1 : wr.cell? ⟨b, off + k * 2, none⟩ = _ := dd _ _ p1
      have d2 : wr.cell? ⟨b, off + k * 2 + 1, none⟩ = _ := dd _ _ p2
      have hv : linkV d ls k = if linkB d ls[k] = true then 5 else if 0 < k ∧ ordB (ls.getD (k - 1) (0, 0)) ls[k] = true then 13 else 0 := by unfold linkV; rw [getD_at ls k _ hkl]
      obtain ⟨⟨A, B⟩, he⟩ : ∃ t, ls[k] = t := ⟨_, rfl⟩
      rw [he] at d1 d2 hv
      simp only at d1 d2
      unfold linkB at hv
      simp only at hv
      have hi0 : (0 : Int) ≤ (k : Int) := by omega
      have hi1 : (k : Int) < (n1 : Int) := by omega
      have DD := Lib.hid dd
      have HV := Lib.hid hv
      clear p1 p2 hx he hv dd
      by_cases hbad : A < 0 ∨ B ≤ A ∨ d ≤ B
      · have hE : E1 = 5 := by
          rw [← HE1.out]
          have h5 : linkV d ls k = 5 := by rw [HV.out, if_pos (by rcases hbad with h | h | h <;> simp [h])]
          rw [firstE_stop _ k hz.out (by rw [h5]; decide) n1 hlt, h5]
        have HE := Lib.hid hE
        by_cases g1 : A < 0
        · clear hE hbad k0 k1 k2 k3
          go_wp2
          go_ret
          exact ⟨ret_eq (by rw [HE.out]; rfl), (hBW.trans (hB.mono hBW.size)).alloc (Nat.le_trans hBW.size hB.size) _⟩
        · by_cases g2 : B ≤ A
          · have g1' : decide (A < 0) = false := by simpa using g1
            clear hE hbad k0 k1 k2 k3 g1
            go_wp2
            go_ret
            exact ⟨ret_eq (by rw [HE.out]; rfl), (hBW.trans (hB.mono hBW.size)).alloc (Nat.le_trans hBW.size hB.size) _⟩
          · have g3 : d ≤ B := by omega
            have g1' : decide (A < 0) = false := by simpa using g1
            have g2' : decide (B ≤ A) = false := by simpa using g2
            clear hE hbad k0 k1 k2 k3 g1 g2
            go_wp2
            go_ret
            exact ⟨ret_eq (by rw [HE.out]; rfl), (hBW.trans (hB.mono hBW.size)).alloc (Nat.le_trans hBW.size hB.size) _⟩
      · have g1' : decide (A < 0) = false := by simp; omega
        have g2' : decide (B ≤ A) = false := by simp; omega
        have g3' : decide (d ≤ B) = false := by simp; omega
        have hv2 : linkV d ls k = if 0 < k ∧ ordB (ls.getD (k - 1) (0, 0)) (A, B) = true then 13 else 0 := by rw [HV.out]; simp [g1', g2', g3']
        have HV2 := Lib.hid hv2
        clear hv2 hbad
        by_cases hk0 : k = 0
        · have hz1 := firstE_next (linkV d ls) k hz.out (by rw [HV2.out, hk0]; simp)
          have HZ1 := Lib.hid hz1
          have hk0' : decide (0 < k) = false := by simp; omega
          clear hz1 k0 k1 k2 k3 hk0
          go_wp2
          go_roundw
          case rel => exact ⟨k + 1, by omega, by go_num, HZ1.out, hB.alloc hB.size _⟩
          case measure => simp [intOf]; omega
        · have hmk : k - 1 < ls.length := by omega
          obtain ⟨p1, p2⟩ := tcells_get ls (k - 1) hmk
          have d3 := DD.out _ _ p1
          have d4 := DD.out _ _ p2
          have hv3 := HV2.out
          rw [getD_at ls (k - 1) _ hmk] at hv3
          obtain ⟨⟨A0, B0⟩, he⟩ : ∃ t, ls[k - 1] = t := ⟨_, rfl⟩
          rw [he] at d3 d4 hv3
          simp only at d3 d4
          have hor := ord_or (A0, B0) (A, B)
          obtain ⟨bo, hbo⟩ : ∃ b, ordB (A0, B0) (A, B) = b := ⟨_, rfl⟩
          rw [hbo] at hv3 hor
          obtain ⟨m, hm⟩ : ∃ m, k - 1 = m := ⟨_, rfl⟩
          rw [hm] at d3 d4
          have hkm : k = m + 1 := by omega
          have hsub : IntKind.i64.wrap ((k : Int) - 1) = (m : Int) := by rw [IntWalk.i64_in _ (by omega)]; omega
          have hm0 : (0 : Int) ≤ (m : Int) := by omega
          have hm1 : (m : Int) < (n1 : Int) := by omega
          have hkp : decide (0 < k) = true := by simp; omega
          have d3' : wr.cell? ⟨b, off + m * 2, none⟩ = _ := d3
          have d4' : wr.cell? ⟨b, off + m * 2 + 1, none⟩ = _ := d4
          have HV3 := Lib.hid hv3
          have HOR := Lib.hid hor
          have HKM := Lib.hid hkm
          have hbr : b < wr.heap.size := Nat.lt_of_lt_of_le hbW hB.size
          clear p1 p2 hv3 he hor hbo hm hkm hmk d3 d4 k0 k1 k2 k3
          go_wp2
          have T := four_new wr 62 62 (.int .i64 A) (.int .i64 B) (.int .i64 A0) (.int .i64 B0)
          have hBX : Below W.heap.size W ((wr.alloc (.cells #[.int .i64 A, .int .i64 B] 62)).alloc (.cells #[.int .i64 A0, .int .i64 B0] 62)) := (hB.alloc hB.size _).alloc (by have := hB.size; simp; omega) _
          generalize hX : (wr.alloc (.cells _ 62)).alloc (.cells _ 62) = X at T hBX ⊢
          clear hX
          have hBXd := hBX.drew
          have hXl := World.block_lt_of_cell? X _ T.2.2.1
          simp only at hXl
          refine wp_region_held_drew (S := (fun W' : World => W'.cell? ⟨wr.heap.size, 0, none⟩ = some (.int .i64 A) ∧ W'.cell? ⟨wr.heap.size, 1, none⟩ = some (.int .i64 B) ∧ W'.cell? ⟨wr.heap.size + 1, 0, none⟩ = some (.int .i64 A0) ∧ W'.cell? ⟨wr.heap.size + 1, 1, none⟩ = some (.int .i64 B0))) (by kernel_rfl) (T) (fun hHeld => ?_)
          refine wpAnyH_take (i := 0) (oi := _) (v := ?_) (by rw [List.getElem?_toArray]; rfl) (by kernel_rfl) (by kernel_rfl) (by kernel_rfl) (by exact fun _ _ _ h => h) (Or.inl ⟨by rfl, ?_⟩) (by assumption) ?_
          rotate_left
          · intro w hSw
            try dsimp only at hSw
            go_simp
            try with_reducible rfl
          simp only [Act.put, List.setIfInBounds_toArray, List.set_cons_zero, List.set_cons_succ]
          refine wpAnyH_take (i := 1) (oi := _) (v := ?_) (by rw [List.getElem?_toArray]; rfl) (by kernel_rfl) (by kernel_rfl) (by kernel_rfl) (by exact fun _ _ _ h => h) (Or.inl ⟨by rfl, ?_⟩) (by assumption) ?_
          rotate_left
          · intro w hSw
            try dsimp only at hSw
            go_simp
            try with_reducible rfl
          simp only [Act.put, List.setIfInBounds_toArray, List.set_cons_zero, List.set_cons_succ]
          refine wpAnyH_take (i := 2) (oi := _) (v := ?_) (by rw [List.getElem?_toArray]; rfl) (by kernel_rfl) (by kernel_rfl) (by kernel_rfl) (by exact fun _ _ _ h => h) (Or.inl ⟨by rfl, ?_⟩) (by assumption) ?_
          rotate_left
          · intro w hSw
            try dsimp only at hSw
            go_simp
            try with_reducible rfl
          simp only [Act.put, List.setIfInBounds_toArray, List.set_cons_zero, List.set_cons_succ]
          refine wpAnyH_take (i := 3) (oi := _) (v := ?_) (by rw [List.getElem?_toArray]; rfl) (by kernel_rfl) (by kernel_rfl) (by kernel_rfl) (by exact fun _ _ _ h => h) (Or.inl ⟨by rfl, ?_⟩) (by assumption) ?_
          rotate_left
          · intro w hSw
            try dsimp only at hSw
            go_simp
            try with_reducible rfl
          simp only [Act.put, List.setIfInBounds_toArray, List.set_cons_zero, List.set_cons_succ]
          refine wpAnyH_take (i := 5) (oi := _) (v := ?_) (by rw [List.getElem?_toArray]; rfl) (by kernel_rfl) (by kernel_rfl) (by kernel_rfl) (by exact fun _ _ _ h => h) (Or.inl ⟨by rfl, ?_⟩) (by assumption) ?_
          rotate_left
          · intro w hSw
            try dsimp only at hSw
            go_simp
            try with_reducible rfl
          simp only [Act.put, List.setIfInBounds_toArray, List.set_cons_zero, List.set_cons_succ]
          refine wpAnyH_take (i := 6) (oi := _) (v := ?_) (by rw [List.getElem?_toArray]; rfl) (by kernel_rfl) (by kernel_rfl) (by kernel_rfl) (by exact fun _ _ _ h => h) (Or.inl ⟨by rfl, ?_⟩) (by assumption) ?_
          rotate_left
          · intro w hSw
            try dsimp only at hSw
            go_simp
            try with_reducible rfl
          simp only [Act.put, List.setIfInBounds_toArray, List.set_cons_zero, List.set_cons_succ]
          refine wpAnyH_take (i := 7) (oi := _) (v := ?_) (by rw [List.getElem?_toArray]; rfl) (by kernel_rfl) (by kernel_rfl) (by kernel_rfl) (by exact fun _ _ _ h => h) (Or.inl ⟨by rfl, ?_⟩) (by assumption) ?_
          rotate_left
          · intro w hSw
            try dsimp only at hSw
            go_simp
            try with_reducible rfl
          simp only [Act.put, List.setIfInBounds_toArray, List.set_cons_zero, List.set_cons_succ]
          refine wpAnyH_take (i := 8) (oi := _) (v := ?_) (by rw [List.getElem?_toArray]; rfl) (by kernel_rfl) (by kernel_rfl) (by kernel_rfl) (by exact fun _ _ _ h => h) (Or.inl ⟨by rfl, ?_⟩) (by assumption) ?_
          rotate_left
          · intro w hSw
            try dsimp only at hSw
            go_simp
            try with_reducible rfl
          simp only [Act.put, List.setIfInBounds_toArray, List.set_cons_zero, List.set_cons_succ]
          refine wpAnyH_ready (rs := [4]) (by kernel_rfl) (by simp) (AllReadyH.cons (o := _) (by rw [List.getElem?_toArray]; rfl) (fun K hK => ?_) AllReadyH.nil)
          go_simp
          go_at_call 49
          refine (cmp_any _ _ _).mono ?_
          rintro e w' ⟨rfl, rfl⟩
          clear hHeld
          refine hK.out _ _ (T) (fun hHeld => ?_)
          clear hK K
          try simp only [Act.put, List.setIfInBounds_toArray, List.set_cons_zero, List.set_cons_succ]
          refine wpAnyH_ready (rs := [9]) (by kernel_rfl) (by simp) (AllReadyH.cons (o := _) (by rw [List.getElem?_toArray]; rfl) (fun K hK => ?_) AllReadyH.nil)
          go_simp
          go_at_call 49
          refine (cmp_any _ _ _).mono ?_
          rintro e w' ⟨rfl, rfl⟩
          clear hHeld
          refine hK.out _ _ (T) (fun hHeld => ?_)
          clear hK K
          try simp only [Act.put, List.setIfInBounds_toArray, List.set_cons_zero, List.set_cons_succ]
          refine wpAnyH_ready (rs := [10]) (by kernel_rfl) (by simp) (AllReadyH.cons (o := _) (by rw [List.getElem?_toArray]; rfl) (fun K hK => ?_) AllReadyH.nil)
          go_simp
          have T2 := Four.keep (W := X.drew) T ((Below.refl _ _).alloc (Nat.le_refl _) (.cells #[.int .i64 (cmpI A0 A), .int .i64 (cmpI B0 B)] 3))
          clear hHeld
          refine hK.out _ _ (T2) (fun hHeld => ?_)
          clear hK K
          try simp only [Act.put, List.setIfInBounds_toArray, List.set_cons_zero, List.set_cons_succ]
          refine wpAnyH_ready (rs := [11]) (by kernel_rfl) (by simp) (AllReadyH.cons (o := _) (by rw [List.getElem?_toArray]; rfl) (fun K hK => ?_) AllReadyH.nil)
          go_simp
          go_at_call 48
          refine (or_any _ _ [cmpI A0 A, cmpI B0 B] _ rfl (by simp) _ (fun j hj => ?_)).mono ?_
          · match j, hj with
            | 0, _ => exact cellNew X _ _ 0 _ rfl
            | 1, _ => exact cellNew X _ _ 1 _ rfl
          rintro e w' ⟨rfl, rfl⟩
          have hor2 := HOR.out
          clear hHeld
          refine hK.out _ _ (T2) (fun hHeld => ?_)
          clear hK K
          try simp only [Act.put, List.setIfInBounds_toArray, List.set_cons_zero, List.set_cons_succ]
          refine wpAnyH_take (i := 12) (oi := _) (v := ?_) (by rw [List.getElem?_toArray]; rfl) (by kernel_rfl) (by kernel_rfl) (by kernel_rfl) (by exact fun _ _ _ h => h) (Or.inl ⟨by rfl, ?_⟩) (by assumption) ?_
          rotate_left
          · intro w hSw
            try dsimp only at hSw
            go_simp
            try with_reducible rfl
          simp only [Act.put, List.setIfInBounds_toArray, List.set_cons_zero, List.set_cons_succ]
          refine wpAnyH_done (by kernel_rfl) ?_ _
          have hBn : Below W.heap.size W (X.alloc (.cells #[.int .i64 (cmpI A0 A), .int .i64 (cmpI B0 B)] 3)).drew := (hBX.alloc hBX.size _).drew
          cases bo
          · have hz1 := firstE_next (linkV d ls) k hz.out (by rw [HV3.out]; simp)
            have HZ1 := Lib.hid hz1
            clear hz1
            go_wp2
            go_roundw
            case rel => exact ⟨k + 1, by omega, by go_num, HZ1.out, hBn⟩
            case measure => simp [intOf]; omega
          · have hE : E1 = 13 := by
              rw [← HE1.out]
              have h5 : linkV d ls k = 13 := by rw [HV3.out, if_pos ⟨by have := HKM.out; omega, rfl⟩]
              rw [firstE_stop _ k hz.out (by rw [h5]; decide) n1 hlt, h5]
            have HE := Lib.hid hE
            clear hE
            go_wp2
            go_ret
            exact ⟨ret_eq (by rw [HE.out]; rfl), hBW.trans (hBn.mono hBW.size)⟩
    · have hE0 : E1 = 0 := by
        rw [← HE1.out, ← hz.out, show n1 = k by omega]
      subst hE0
      have q2 := kc k2 hB
      have q3 := kc k3 hB
      have hBw := hBW.trans (hB.mono hBW.size)
      clear hB k0 k1 k2 k3 q1 hwr
      rename World => w1
      go_wp2
      go_loopw [60, 7] (fun i _ wr2 => ∃ k : Nat, k ≤ n2 ∧ i = .int .i64 k ∧ Hid (firstE (jamV js) k = 0) ∧ Below w1.heap.size w1 wr2) (fun i _ _ => n2 - (intOf i).toNat)
      case atStart => exact ⟨0, by omega, rfl, rfl, Below.refl _ _⟩
      case round =>
        obtain ⟨k, hk, rfl, hz, hB⟩ := hrel
        by_cases hlt : k < n2
        · have hkl : k < js.length := by rw [HN2.out]; exact hlt
          obtain ⟨b, off, rfl, hb, hx⟩ := HC2.out (by omega)
          obtain ⟨p1, p2, p3⟩ := jcells_get js k hkl
          have dd : ∀ j u, (jcells js)[j]? = some u → wr.cell? ⟨b, off + j, none⟩ = some u := fun j u hu => ((hB.cell (p := ⟨b, off + j, none⟩) (Nat.lt_of_lt_of_le hb hBw.size)).trans (hBw.cell (p := ⟨b, off + j, none⟩) hb)).trans (hx _ _ hu)
          have d1 : wr.cell? ⟨b, off + k * 3, none⟩ = _ := dd _ _ p1
          have d2 : wr.cell? ⟨b, off + k * 3 + 1, none⟩ = _ := dd _ _ p2
          have d3 : wr.cell? ⟨b, off + k * 3 + 2, none⟩ = _ := dd _ _ p3
          have hv : jamV js k = if jamB js[k] = true then 5 else 0 := by unfold jamV; rw [getD_at js k _ hkl]
          obtain ⟨⟨C, S, E⟩, he⟩ : ∃ t, js[k] = t := ⟨_, rfl⟩
          rw [he] at d1 d2 d3 hv
          simp only at d1 d2 d3
          unfold jamB at hv
          simp only at hv
          have hi0 : (0 : Int) ≤ (k : Int) := by omega
          have hi1 : (k : Int) < (n2 : Int) := by omega
          have HV := Lib.hid hv
          clear p1 p2 p3 hx he hv dd
          have hBr := hBw.trans (hB.mono hBw.size)
          by_cases hbad : C < -1 ∨ 39 < C ∨ S < 0 ∨ E < S ∨ 1099511627776 < E
          · have hE : E2 = 5 := by
              rw [← HE2.out]
              have h5 : jamV js k = 5 := by rw [HV.out, if_pos (by rcases hbad with h | h | h | h | h <;> simp [h])]
              rw [firstE_stop _ k hz.out (by rw [h5]; decide) n2 hlt, h5]
            have HE := Lib.hid hE
            have hcw : (decide (-1 ≤ C) && decide (C ≤ 39)) = false ∨ ((decide (-1 ≤ C) && decide (C ≤ 39)) = true ∧ S < 0) ∨ ((decide (-1 ≤ C) && decide (C ≤ 39)) = true ∧ decide (S < 0) = false ∧ E < S) ∨ ((decide (-1 ≤ C) && decide (C ≤ 39)) = true ∧ decide (S < 0) = false ∧ decide (E < S) = false ∧ 1099511627776 < E) := by
              simp only [Bool.and_eq_false_iff, Bool.and_eq_true, decide_eq_true_eq, decide_eq_false_iff_not]
              omega
            clear hE hbad
            obtain ⟨bc, hbc⟩ : ∃ bc, (decide (-1 ≤ C) && decide (C ≤ 39)) = bc := ⟨_, rfl⟩
            have cw := within_any C (-1) 39
            rw [hbc] at cw hcw
            have CW := Lib.hid cw
            clear cw hbc
            rcases hcw with rfl | ⟨rfl, g⟩ | ⟨rfl, g, g'⟩ | ⟨rfl, g, g', g''⟩
            all_goals
              go_wp2_with (go_at_call 34; refine (CW.out _).mono ?_; rintro e w' ⟨rfl, rfl⟩)
              go_ret
              exact ⟨ret_eq (by rw [HE.out]; rfl), hBr.alloc hBr.size _⟩
          · have g1 : decide (S < 0) = false := by simp; omega
            have g2 : decide (E < S) = false := by simp; omega
            have g3 : decide (1099511627776 < E) = false := by simp; omega
            have hbc : (decide (-1 ≤ C) && decide (C ≤ 39)) = true := by simp only [Bool.and_eq_true, decide_eq_true_eq]; omega
            have cw := within_any C (-1) 39
            rw [hbc] at cw
            have CW := Lib.hid cw
            have hz1 := firstE_next (jamV js) k hz.out (by
              rw [HV.out, if_neg]
              simp only [Bool.or_eq_true, decide_eq_true_eq]
              omega)
            have HZ1 := Lib.hid hz1
            clear hz1 cw hbc hbad
            go_wp2_with (go_at_call 34; refine (CW.out _).mono ?_; rintro e w' ⟨rfl, rfl⟩)
            go_roundw
            case rel => exact ⟨k + 1, by omega, by go_num, HZ1.out, hB.alloc hB.size _⟩
            case measure => simp [intOf]; omega
        · have hE0 : E2 = 0 := by
            rw [← HE2.out, ← hz.out, show n2 = k by omega]
          subst hE0
          have q0' := kc q0 hB
          have q3' := kc q3 hB
          have hBw2 := hBw.trans (hB.mono hBw.size)
          clear hB q0 q2 q3 hBw
          rename World => w2
          have hw2 := World.block_lt_of_cell? w2 _ q0'
          simp only at hw2
          go_wp2
          go_loopw [89, 9] (fun i _ wr2 => ∃ k : Nat, k ≤ n3 ∧ i = .int .i64 k ∧ Hid (firstE (lossV d ss) k = 0) ∧ Below w2.heap.size w2 wr2) (fun i _ _ => n3 - (intOf i).toNat)
          case atStart => exact ⟨0, by omega, rfl, rfl, Below.refl _ _⟩
          case round =>
            obtain ⟨k, hk, rfl, hz, hB⟩ := hrel
            have q0 := kc q0' hB
            have hwr := World.block_lt_of_cell? wr _ q0
            simp only at hwr
            by_cases hlt : k < n3
            · have hkl : k < ss.length := by rw [HN3.out]; exact hlt
              obtain ⟨b, off, rfl, hb, hx⟩ := HC3.out (by omega)
              obtain ⟨p1, p2⟩ := tcells_get ss k hkl
              have dd : ∀ j u, (tcells ss)[j]? = some u → wr.cell? ⟨b, off + j, none⟩ = some u := fun j u hu => ((hB.cell (p := ⟨b, off + j, none⟩) (Nat.lt_of_lt_of_le hb hBw2.size)).trans (hBw2.cell (p := ⟨b, off + j, none⟩) hb)).trans (hx _ _ hu)
              have d1 : wr.cell? ⟨b, off + k * 2, none⟩ = _ := dd _ _ p1
              have d2 : wr.cell? ⟨b, off + k * 2 + 1, none⟩ = _ := dd _ _ p2
              have hv : lossV d ss k = if lossB d ss[k] = true then 5 else 0 := by unfold lossV; rw [getD_at ss k _ hkl]
              obtain ⟨⟨I, T⟩, he⟩ : ∃ t, ss[k] = t := ⟨_, rfl⟩
              rw [he] at d1 d2 hv
              simp only at d1 d2
              unfold lossB at hv
              simp only at hv
              have hi0 : (0 : Int) ≤ (k : Int) := by omega
              have hi1 : (k : Int) < (n3 : Int) := by omega
              have HV := Lib.hid hv
              have hBr := hBw2.trans (hB.mono hBw2.size)
              have hwd : IntKind.i64.wrap (d - 1) = d - 1 := IntWalk.i64_in _ (by omega)
              have cw := within_any T 0 (d - 1)
              obtain ⟨bc, hbc⟩ : ∃ bc, (decide (0 ≤ T) && decide (T ≤ d - 1)) = bc := ⟨_, rfl⟩
              rw [hbc] at cw
              have CW := Lib.hid cw
              have HBC := Lib.hid hbc
              clear p1 p2 hx he hv dd cw hbc
              cases bc
              · have hE : E3 = 5 := by
                  rw [← HE3.out]
                  have h5 : lossV d ss k = 5 := by
                    rw [HV.out, if_pos]
                    have := HBC.out
                    simp only [Bool.and_eq_false_iff, decide_eq_false_iff_not] at this
                    simp only [Bool.or_eq_true, decide_eq_true_eq]
                    omega
                  rw [firstE_stop _ k hz.out (by rw [h5]; decide) n3 hlt, h5]
                have HE := Lib.hid hE
                clear hE
                go_wp2_with (go_at_call 34; refine (CW.out _).mono ?_; rintro e w' ⟨rfl, rfl⟩)
                go_ret
                exact ⟨ret_eq (by rw [HE.out]; rfl), hBr.alloc hBr.size _⟩
              · have hz1 := firstE_next (lossV d ss) k hz.out (by
                  rw [HV.out, if_neg]
                  have := HBC.out
                  simp only [Bool.and_eq_true, decide_eq_true_eq] at this
                  simp only [Bool.or_eq_true, decide_eq_true_eq]
                  omega)
                have HZ1 := Lib.hid hz1
                clear hz1
                go_wp2_with (go_at_call 34; refine (CW.out _).mono ?_; rintro e w' ⟨rfl, rfl⟩)
                go_roundw
                case rel => exact ⟨k + 1, by omega, by go_num, HZ1.out, hB.alloc hB.size _⟩
                case measure => simp [intOf]; omega
            · have hE0 : E3 = 0 := by
                rw [← HE3.out, ← hz.out, show n3 = k by omega]
              subst hE0
              go_wp2
              go_ret
              exact ⟨rfl, hBw2.trans (hB.mono hBw2.size)⟩
end Go.Proofs.Ythemdbgcamkecaa
