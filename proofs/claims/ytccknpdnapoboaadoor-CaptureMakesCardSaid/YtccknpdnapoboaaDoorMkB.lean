/- capture: air's reference's Check. -/
import Derived.Test.YtccknpdnapoboaaDoorMkA
namespace Go.Proofs.YtccknpdnapoboaaDoor
open Go.RowKit

set_option maxRecDepth 100000 in
set_option maxHeartbeats 4000000 in
theorem rcheck_any (d : Int) (lv jv sv tv : Value) (ls : List (Int × Int)) (js : List (Int × Int × Int)) (ss : List (Int × Int)) (ts : List Tr) (w : World)
    (h1 : SR w lv ls.length 2 (tcells ls)) (h2 : SR w jv js.length 3 (jcells js)) (h3 : SR w sv ss.length 2 (tcells ss)) (h4 : Txs w tv ts) :
    Calls Tryd.prog 24 #[.agg #[.int .i64 d, lv, jv, sv], tv] w fun e w' => e = .returned (.int .i64 (checkE d ls js ss ts)) ∧ Below w.heap.size w w' := by
  obtain ⟨n1, hn1⟩ : ∃ n, ls.length = n := ⟨_, rfl⟩
  obtain ⟨n2, hn2⟩ : ∃ n, js.length = n := ⟨_, rfl⟩
  obtain ⟨n3, hn3⟩ : ∃ n, ss.length = n := ⟨_, rfl⟩
  obtain ⟨n4, hn4⟩ : ∃ n, ts.length = n := ⟨_, rfl⟩
  obtain ⟨hm1, _, _, a1, c1, rfl, _, hcell1⟩ := h1
  obtain ⟨hm2, _, _, a2, c2, rfl, _, hcell2⟩ := h2
  obtain ⟨hm3, _, _, a3, c3, rfl, _, hcell3⟩ := h3
  obtain ⟨hm4, a4, c4, rfl, hcell4⟩ := h4
  unfold maxLen at hm1 hm2 hm3 hm4
  unfold checkE mediumE
  rw [hn1] at hm1 hcell1
  rw [hn2] at hm2 hcell2
  rw [hn3] at hm3 hcell3
  rw [hn4] at hm4
  rw [hn1, hn2, hn3, hn4]
  have HN1 := Lib.hid hn1
  have HN2 := Lib.hid hn2
  have HN3 := Lib.hid hn3
  have HN4 := Lib.hid hn4
  have HC1 := Lib.hid hcell1
  have HC2 := Lib.hid hcell2
  have HC3 := Lib.hid hcell3
  have HC4 := Lib.hid hcell4
  clear hn1 hn2 hn3 hn4 hcell1 hcell2 hcell3 hcell4
  by_cases hd : d < 0 ∨ 8 < d
  · rw [if_pos hd]
    by_cases g : d < 0
    · clear hd
      go_enter Tryd.func24, Tryd.ntmps24
      go_wp2
      go_ret
      exact ⟨rfl, (Below.refl _ _).alloc (Nat.le_refl _) _⟩
    · have g1 : decide (d < 0) = false := by simpa using g
      have g2 : 8 < d := by omega
      clear hd g
      go_enter Tryd.func24, Tryd.ntmps24
      go_wp2
      go_ret
      exact ⟨rfl, (Below.refl _ _).alloc (Nat.le_refl _) _⟩
  · rw [if_neg hd]
    have g1 : decide (d < 0) = false := by simp; omega
    have g2 : decide (8 < d) = false := by simp; omega
    by_cases hbig : 1000 < n2 ∨ 1000 < n3 ∨ 1000 < n4
    · rw [if_pos hbig]
      have hc3 : (decide (1000 < (n2 : Int)) = true) ∨ (decide (1000 < (n2 : Int)) = false ∧ decide (1000 < (n3 : Int)) = true) ∨ (decide (1000 < (n2 : Int)) = false ∧ decide (1000 < (n3 : Int)) = false ∧ decide (1000 < (n4 : Int)) = true) := by
        simp only [decide_eq_true_eq, decide_eq_false_iff_not]
        omega
      clear hbig hd
      rcases hc3 with g3 | ⟨g3, g4⟩ | ⟨g3, g4, g5⟩
      all_goals
        go_enter Tryd.func24, Tryd.ntmps24
        go_wp2
        go_ret
        exact ⟨rfl, (Below.refl _ _).alloc (Nat.le_refl _) _⟩
    · rw [if_neg hbig]
      have g3 : decide (1000 < (n2 : Int)) = false := by simp; omega
      have g4 : decide (1000 < (n3 : Int)) = false := by simp; omega
      have g5 : decide (1000 < (n4 : Int)) = false := by simp; omega
      obtain ⟨E1, hE1⟩ : ∃ E, firstE (linkV d ls) n1 = E := ⟨_, rfl⟩
      obtain ⟨E2, hE2⟩ : ∃ E, firstE (jamV js) n2 = E := ⟨_, rfl⟩
      obtain ⟨E3, hE3⟩ : ∃ E, firstE (lossV d ss) n3 = E := ⟨_, rfl⟩
      obtain ⟨E4, hE4⟩ : ∃ E, firstE (sentV d ts) n4 = E := ⟨_, rfl⟩
      have HE1 := Lib.hid hE1
      have HE2 := Lib.hid hE2
      have HE3 := Lib.hid hE3
      have HE4 := Lib.hid hE4
      rw [hE1, hE2, hE3, hE4]
      clear hE1 hE2 hE3 hE4
      go_enter Tryd.func24, Tryd.ntmps24
      go_wp2_with fail
      have k0 := cellNew w #[.int .i64 d, .slice a1 n1 c1, .slice a2 n2 c2, .slice a3 n3 c3] 48 0 _ rfl
      have k1 := cellNew w #[.int .i64 d, .slice a1 n1 c1, .slice a2 n2 c2, .slice a3 n3 c3] 48 1 _ rfl
      have k2 := cellNew w #[.int .i64 d, .slice a1 n1 c1, .slice a2 n2 c2, .slice a3 n3 c3] 48 2 _ rfl
      have k3 := cellNew w #[.int .i64 d, .slice a1 n1 c1, .slice a2 n2 c2, .slice a3 n3 c3] 48 3 _ rfl
      have hBW : Below w.heap.size w (w.alloc (.cells #[.int .i64 d, .slice a1 n1 c1, .slice a2 n2 c2, .slice a3 n3 c3] 48)) := (Below.refl _ _).alloc (Nat.le_refl _) _
      generalize hW : w.alloc (.cells _ 48) = W at k0 k1 k2 k3 hBW ⊢
      clear hW hd hbig
      go_loopw [5, 6] (fun i _ wr => ∃ k : Nat, k ≤ n1 ∧ i = .int .i64 k ∧ Hid (firstE (linkV d ls) k = 0) ∧ Below W.heap.size W wr) (fun i _ _ => n1 - (intOf i).toNat)
      case atStart => exact ⟨0, by omega, rfl, rfl, Below.refl _ _⟩
      case round =>
        obtain ⟨k, hk, rfl, hz, hB⟩ := hrel
        have q0 := kc k0 hB
        have q1 := kc k1 hB
        have hwr := World.block_lt_of_cell? wr _ q0
        simp only at hwr
        by_cases hlt : k < n1
        · have hkl : k < ls.length := by rw [HN1.out]; exact hlt
          obtain ⟨b, off, rfl, hb, hx⟩ := HC1.out (by omega)
          obtain ⟨p1, p2⟩ := tcells_get ls k hkl
          have hbW : b < W.heap.size := Nat.lt_of_lt_of_le hb hBW.size
          have dd : ∀ j u, (tcells ls)[j]? = some u → wr.cell? ⟨b, off + j, none⟩ = some u := fun j u hu => ((hB.cell (p := ⟨b, off + j, none⟩) hbW).trans (hBW.cell (p := ⟨b, off + j, none⟩) hb)).trans (hx _ _ hu)
          have d1 : wr.cell? ⟨b, off + k * 2, none⟩ = _ := dd _ _ p1
          have d2 : wr.cell? ⟨b, off + k * 2 + 1, none⟩ = _ := dd _ _ p2
          have hv : linkV d ls k = if linkB d ls[k] = true then 5 else if 0 < k ∧ ordB (ls.getD (k - 1) (0, 0)) ls[k] = true then 13 else 0 := by unfold linkV; rw [getD_at ls k _ hkl]
          obtain ⟨⟨A, B⟩, he⟩ : ∃ t, ls[k] = t := ⟨_, rfl⟩
          rw [he] at d1 d2 hv
          simp only at d1 d2
          unfold linkB at hv
          simp only at hv
          have hi0 : (0 : Int) ≤ (k : Int) := by omega
          have hi1 : (k : Int) < (n1 : Int) := by omega
          have hbr : b < wr.heap.size := Nat.lt_of_lt_of_le hbW hB.size
          have DD := Lib.hid dd
          have HV := Lib.hid hv
          have hBr := hBW.trans (hB.mono hBW.size)
          have hBX := hBr.alloc hBr.size (.cells #[.int .i64 A, .int .i64 B] 82)
          have hBX1 := hB.alloc hB.size (.cells #[.int .i64 A, .int .i64 B] 82)
          clear p1 p2 hx he hv dd k0 k1 k2 k3
          by_cases hbad : A < 0 ∨ B ≤ A ∨ d ≤ B
          · have hE : E1 = 5 := by
              rw [← HE1.out]
              have h5 : linkV d ls k = 5 := by rw [HV.out, if_pos (by rcases hbad with h | h | h <;> simp [h])]
              rw [firstE_stop _ k hz.out (by rw [h5]; decide) n1 hlt, h5]
            have HE := Lib.hid hE
            have hc3 : (decide (A < 0) = true) ∨ (decide (A < 0) = false ∧ decide (B ≤ A) = true) ∨ (decide (A < 0) = false ∧ decide (B ≤ A) = false ∧ decide (d ≤ B) = true) := by
              simp only [decide_eq_true_eq, decide_eq_false_iff_not]
              omega
            clear hE hbad
            rcases hc3 with g6 | ⟨g6, g7⟩ | ⟨g6, g7, g8⟩
            all_goals
              go_wp2
              go_ret
              exact ⟨ret_eq (by rw [HE.out]; rfl), hBX⟩
          · have g6 : decide (A < 0) = false := by simp; omega
            have g7 : decide (B ≤ A) = false := by simp; omega
            have g8 : decide (d ≤ B) = false := by simp; omega
            have hv2 : linkV d ls k = if 0 < k ∧ ordB (ls.getD (k - 1) (0, 0)) (A, B) = true then 13 else 0 := by rw [HV.out]; simp [g6, g7, g8]
            have HV2 := Lib.hid hv2
            clear hv2 hbad
            by_cases hk0 : k = 0
            · have hz1 := firstE_next (linkV d ls) k hz.out (by rw [HV2.out, hk0]; simp)
              have HZ1 := Lib.hid hz1
              have hk0' : decide (0 < k) = false := by simp; omega
              clear hz1 hk0
              go_wp2
              go_quiet (fail)
              go_wp2
              go_roundw
              case rel => exact ⟨k + 1, by omega, by go_num, HZ1.out, below_drewN hBX1 _⟩
              case measure => simp [intOf]; omega
            · have hmk : k - 1 < ls.length := by omega
              obtain ⟨p1, p2⟩ := tcells_get ls (k - 1) hmk
              have d3 := DD.out _ _ p1
              have d4 := DD.out _ _ p2
              have hv3 := HV2.out
              rw [getD_at ls (k - 1) _ hmk] at hv3
              obtain ⟨⟨A0, B0⟩, he⟩ : ∃ t, ls[k - 1] = t := ⟨_, rfl⟩
              rw [he] at d3 d4 hv3
              unfold ordB at hv3
              simp only at d3 d4 hv3
              obtain ⟨m, hm⟩ : ∃ m, k - 1 = m := ⟨_, rfl⟩
              rw [hm] at d3 d4
              have hsub : IntKind.i64.wrap ((k : Int) - 1) = (m : Int) := by rw [IntWalk.i64_in _ (by omega)]; omega
              have hm0 : (0 : Int) ≤ (m : Int) := by omega
              have hm1 : (m : Int) < (n1 : Int) := by omega
              have hkp : decide (0 < k) = true := by simp; omega
              have d3' : wr.cell? ⟨b, off + m * 2, none⟩ = _ := d3
              have d4' : wr.cell? ⟨b, off + m * 2 + 1, none⟩ = _ := d4
              have HV3 := Lib.hid hv3
              have HK := Lib.hid (show 0 < k by omega)
              clear p1 p2 hv3 he hm hmk d3 d4 hk0
              by_cases hob : A < A0 ∨ (A = A0 ∧ B ≤ B0)
              · have hE : E1 = 13 := by
                  rw [← HE1.out]
                  have h5 : linkV d ls k = 13 := by
                    rw [HV3.out, if_pos ⟨HK.out, by rcases hob with h | ⟨h, h'⟩ <;> simp [*]⟩]
                  rw [firstE_stop _ k hz.out (by rw [h5]; decide) n1 hlt, h5]
                have HE := Lib.hid hE
                have hc2 : decide (A < A0) = true ∨ (decide (A < A0) = false ∧ (A == A0) = true ∧ decide (B ≤ B0) = true) := by
                  simp only [decide_eq_true_eq, decide_eq_false_iff_not, beq_iff_eq]
                  omega
                clear hE hob
                rcases hc2 with g9 | ⟨g9, g10, g11⟩
                all_goals
                  go_wp2
                  go_quiet (fail)
                  go_wp2
                  go_ret
                  exact ⟨ret_eq (by rw [HE.out]; rfl), below_drewN hBX _⟩
              · have hz1 := firstE_next (linkV d ls) k hz.out (by
                  rw [HV3.out, if_neg]
                  simp only [Bool.or_eq_true, Bool.and_eq_true, decide_eq_true_eq]
                  omega)
                have HZ1 := Lib.hid hz1
                have g9 : decide (A < A0) = false := by simp; omega
                have hc2 : (A == A0) = false ∨ ((A == A0) = true ∧ decide (B ≤ B0) = false) := by
                  simp only [decide_eq_false_iff_not, beq_iff_eq, beq_eq_false_iff_ne]
                  omega
                clear hz1 hob
                rcases hc2 with g10 | ⟨g10, g11⟩
                all_goals
                  go_wp2
                  go_quiet (fail)
                  go_wp2
                  go_roundw
                  case rel => exact ⟨k + 1, by omega, by go_num, HZ1.out, below_drewN hBX1 _⟩
                  case measure => simp [intOf]; omega
        · have hE0 : E1 = 0 := by
            rw [← HE1.out, ← hz.out, show n1 = k by omega]
          subst hE0
          have q2 := kc k2 hB
          have q3 := kc k3 hB
          have hBw := hBW.trans (hB.mono hBW.size)
          clear hB k0 k1 k2 k3
          rename World => w1
          go_wp2
          go_loopw [7, 8] (fun i _ wr2 => ∃ k : Nat, k ≤ n2 ∧ i = .int .i64 k ∧ Hid (firstE (jamV js) k = 0) ∧ Below w1.heap.size w1 wr2) (fun i _ _ => n2 - (intOf i).toNat)
          case atStart => exact ⟨0, by omega, rfl, rfl, Below.refl _ _⟩
          case round =>
            obtain ⟨k, hk, rfl, hz, hB⟩ := hrel
            have p0 := kc q0 hB
            have p2 := kc q2 hB
            have hwr := World.block_lt_of_cell? wr _ p0
            simp only at hwr
            by_cases hlt : k < n2
            · have hkl : k < js.length := by rw [HN2.out]; exact hlt
              obtain ⟨b, off, rfl, hb, hx⟩ := HC2.out (by omega)
              obtain ⟨e1, e2, e3⟩ := jcells_get js k hkl
              have dd : ∀ j u, (jcells js)[j]? = some u → wr.cell? ⟨b, off + j, none⟩ = some u := fun j u hu => ((hB.cell (p := ⟨b, off + j, none⟩) (Nat.lt_of_lt_of_le hb hBw.size)).trans (hBw.cell (p := ⟨b, off + j, none⟩) hb)).trans (hx _ _ hu)
              have d1 : wr.cell? ⟨b, off + k * 3, none⟩ = _ := dd _ _ e1
              have d2 : wr.cell? ⟨b, off + k * 3 + 1, none⟩ = _ := dd _ _ e2
              have d3 : wr.cell? ⟨b, off + k * 3 + 2, none⟩ = _ := dd _ _ e3
              have hv : jamV js k = if jamB js[k] = true then 5 else 0 := by unfold jamV; rw [getD_at js k _ hkl]
              obtain ⟨⟨C, S, E⟩, he⟩ : ∃ t, js[k] = t := ⟨_, rfl⟩
              rw [he] at d1 d2 d3 hv
              simp only at d1 d2 d3
              unfold jamB at hv
              simp only at hv
              have hi0 : (0 : Int) ≤ (k : Int) := by omega
              have hi1 : (k : Int) < (n2 : Int) := by omega
              have HV := Lib.hid hv
              have hbr : b < wr.heap.size := Nat.lt_of_lt_of_le (Nat.lt_of_lt_of_le hb hBw.size) hB.size
              clear e1 e2 e3 hx he hv dd
              have hBr := hBw.trans (hB.mono hBw.size)
              have hBX := hBr.alloc hBr.size (.cells #[.int .i64 C, .int .i64 S, .int .i64 E] 84)
              have hBX1 := hB.alloc hB.size (.cells #[.int .i64 C, .int .i64 S, .int .i64 E] 84)
              by_cases hbad : C < -1 ∨ 39 < C ∨ S < 0 ∨ E < S ∨ 1099511627776 < E
              · have hE : E2 = 5 := by
                  rw [← HE2.out]
                  have h5 : jamV js k = 5 := by rw [HV.out, if_pos (by rcases hbad with h | h | h | h | h <;> simp [h])]
                  rw [firstE_stop _ k hz.out (by rw [h5]; decide) n2 hlt, h5]
                have HE := Lib.hid hE
                have hcw : decide (C < -1) = true ∨ (decide (C < -1) = false ∧ decide (39 < C) = true) ∨ (decide (C < -1) = false ∧ decide (39 < C) = false ∧ decide (S < 0) = true) ∨ (decide (C < -1) = false ∧ decide (39 < C) = false ∧ decide (S < 0) = false ∧ decide (E < S) = true) ∨ (decide (C < -1) = false ∧ decide (39 < C) = false ∧ decide (S < 0) = false ∧ decide (E < S) = false ∧ decide (1099511627776 < E) = true) := by
                  simp only [decide_eq_true_eq, decide_eq_false_iff_not]
                  omega
                clear hE hbad
                rcases hcw with g1 | ⟨g1, g2⟩ | ⟨g1, g2, g3⟩ | ⟨g1, g2, g3, g4⟩ | ⟨g1, g2, g3, g4, g5⟩
                all_goals
                  go_wp2
                  go_ret
                  exact ⟨ret_eq (by rw [HE.out]; rfl), hBX⟩
              · have g1 : decide (C < -1) = false := by simp; omega
                have g2 : decide (39 < C) = false := by simp; omega
                have g3 : decide (S < 0) = false := by simp; omega
                have g4 : decide (E < S) = false := by simp; omega
                have g5 : decide (1099511627776 < E) = false := by simp; omega
                have hz1 := firstE_next (jamV js) k hz.out (by
                  rw [HV.out, if_neg]
                  simp only [Bool.or_eq_true, decide_eq_true_eq]
                  omega)
                have HZ1 := Lib.hid hz1
                clear hz1 hbad
                go_wp2
                go_roundw
                case rel => exact ⟨k + 1, by omega, by go_num, HZ1.out, hBX1⟩
                case measure => simp [intOf]; omega
            · have hE0 : E2 = 0 := by
                rw [← HE2.out, ← hz.out, show n2 = k by omega]
              subst hE0
              have r3 := kc q3 hB
              have hBw2 := hBw.trans (hB.mono hBw.size)
              clear hB q0 q2 q3 hBw
              rename World => w2
              go_wp2
              go_loopw [9] (fun i wr2 => ∃ k : Nat, k ≤ n3 ∧ i = .int .i64 k ∧ Hid (firstE (lossV d ss) k = 0) ∧ Below w2.heap.size w2 wr2) (fun i _ => n3 - (intOf i).toNat)
              case atStart => exact ⟨0, by omega, rfl, rfl, Below.refl _ _⟩
              case round =>
                obtain ⟨k, hk, rfl, hz, hB⟩ := hrel
                have q0 := kc p0 hB
                have q3 := kc r3 hB
                have hwr := World.block_lt_of_cell? wr _ q0
                simp only at hwr
                by_cases hlt : k < n3
                · have hkl : k < ss.length := by rw [HN3.out]; exact hlt
                  obtain ⟨b, off, rfl, hb, hx⟩ := HC3.out (by omega)
                  obtain ⟨e1, e2⟩ := tcells_get ss k hkl
                  have dd : ∀ j u, (tcells ss)[j]? = some u → wr.cell? ⟨b, off + j, none⟩ = some u := fun j u hu => ((hB.cell (p := ⟨b, off + j, none⟩) (Nat.lt_of_lt_of_le hb hBw2.size)).trans (hBw2.cell (p := ⟨b, off + j, none⟩) hb)).trans (hx _ _ hu)
                  have d1 : wr.cell? ⟨b, off + k * 2, none⟩ = _ := dd _ _ e1
                  have d2 : wr.cell? ⟨b, off + k * 2 + 1, none⟩ = _ := dd _ _ e2
                  have hv : lossV d ss k = if lossB d ss[k] = true then 5 else 0 := by unfold lossV; rw [getD_at ss k _ hkl]
                  obtain ⟨⟨I, T⟩, he⟩ : ∃ t, ss[k] = t := ⟨_, rfl⟩
                  rw [he] at d1 d2 hv
                  simp only at d1 d2
                  unfold lossB at hv
                  simp only at hv
                  have hi0 : (0 : Int) ≤ (k : Int) := by omega
                  have hi1 : (k : Int) < (n3 : Int) := by omega
                  have HV := Lib.hid hv
                  have hBr := hBw2.trans (hB.mono hBw2.size)
                  clear e1 e2 hx he hv dd
                  by_cases hbad : T < 0 ∨ d ≤ T
                  · have hE : E3 = 5 := by
                      rw [← HE3.out]
                      have h5 : lossV d ss k = 5 := by rw [HV.out, if_pos (by rcases hbad with h | h <;> simp [h])]
                      rw [firstE_stop _ k hz.out (by rw [h5]; decide) n3 hlt, h5]
                    have HE := Lib.hid hE
                    have hcw : decide (T < 0) = true ∨ (decide (T < 0) = false ∧ decide (d ≤ T) = true) := by
                      simp only [decide_eq_true_eq, decide_eq_false_iff_not]
                      omega
                    clear hE hbad
                    rcases hcw with g1 | ⟨g1, g2⟩
                    all_goals
                      go_wp2
                      go_quiet (fail)
                      go_wp2
                      go_ret
                      exact ⟨ret_eq (by rw [HE.out]; rfl), below_drewN hBr _⟩
                  · have g1 : decide (T < 0) = false := by simp; omega
                    have g2 : decide (d ≤ T) = false := by simp; omega
                    have hz1 := firstE_next (lossV d ss) k hz.out (by
                      rw [HV.out, if_neg]
                      simp only [Bool.or_eq_true, decide_eq_true_eq]
                      omega)
                    have HZ1 := Lib.hid hz1
                    clear hz1 hbad
                    go_wp2
                    go_quiet (fail)
                    go_wp2
                    go_roundw
                    case rel => exact ⟨k + 1, by omega, by go_num, HZ1.out, below_drewN hB _⟩
                    case measure => simp [intOf]; omega
                · have hE0 : E3 = 0 := by
                    rw [← HE3.out, ← hz.out, show n3 = k by omega]
                  subst hE0
                  have hBw3 := hBw2.trans (hB.mono hBw2.size)
                  clear hB p0 r3 hBw2
                  rename World => w3
                  go_wp2
                  go_loopw [10, 11] (fun i _ wr2 => ∃ k : Nat, k ≤ n4 ∧ i = .int .i64 k ∧ Hid (firstE (sentV d ts) k = 0) ∧ Below w3.heap.size w3 wr2) (fun i _ _ => n4 - (intOf i).toNat)
                  case atStart => exact ⟨0, by omega, rfl, rfl, Below.refl _ _⟩
                  case round =>
                    obtain ⟨k, hk, rfl, hz, hB⟩ := hrel
                    have p0 := kc q0 hB
                    have hwr := World.block_lt_of_cell? wr _ p0
                    simp only at hwr
                    have hBr := hBw3.trans (hB.mono hBw3.size)
                    by_cases hlt : k < n4
                    · have hkl : k < ts.length := by rw [HN4.out]; exact hlt
                      obtain ⟨b, off, rfl, hb, hx⟩ := HC4.out (by omega)
                      have hbr : b < wr.heap.size := Nat.lt_of_lt_of_le hb hBr.size
                      obtain ⟨ta, tc, d0, d1, d2, d3, d4, _⟩ := (hx k hkl).below hBr
                      have hv : sentV d ts k = if 0 < k ∧ ts[k].id ≤ (ts.getD (k - 1) default).id then 13 else if sentB d ts[k] = true then 5 else if 260 < ts[k].bs.length then 4 else 0 := by unfold sentV; rw [getD_at ts k _ hkl]
                      have hprev : 0 < k → ∃ m P, k = m + 1 ∧ (ts.getD (k - 1) default).id = P ∧ wr.cell? ⟨b, off + m * 5, none⟩ = some (.int .i64 P) := fun h0 => by
                        have hm : k - 1 < ts.length := by omega
                        obtain ⟨_, _, e0, _⟩ := (hx (k - 1) hm).below hBr
                        refine ⟨k - 1, ts[k - 1].id, by omega, by rw [getD_at ts (k - 1) _ hm], e0⟩
                      obtain ⟨⟨I, F, C, S, bs⟩, he⟩ : ∃ t, ts[k] = t := ⟨_, rfl⟩
                      rw [he] at d0 d1 d2 d3 d4 hv
                      unfold sentB at hv
                      simp only at d0 d1 d2 d3 d4 hv
                      obtain ⟨L, hL⟩ : ∃ L, bs.length = L := ⟨_, rfl⟩
                      rw [hL] at d4 hv
                      have hi0 : (0 : Int) ≤ (k : Int) := by omega
                      have hi1 : (k : Int) < (n4 : Int) := by omega
                      have HV := Lib.hid hv
                      have HP := Lib.hid hprev
                      clear hx he hv hL hprev q0
                      have hbad : ∀ E : Int, sentV d ts k = E → E ≠ 0 → E4 = E := fun E h h0 => by
                        rw [← HE4.out, firstE_stop _ k hz.out (by rw [h]; exact h0) n4 hlt, h]
                      have hgood : sentV d ts k = 0 → firstE (sentV d ts) (k + 1) = 0 := fun h => firstE_next _ k hz.out h
                      have HB := Lib.hid hbad
                      have HG := Lib.hid hgood
                      clear hbad hgood
                      have hBX := hBr.alloc hBr.size (.cells #[.int .i64 I, .int .i64 F, .int .i64 C, .int .i64 S, .slice ta L tc] 88)
                      have hBX1 := hB.alloc hB.size (.cells #[.int .i64 I, .int .i64 F, .int .i64 C, .int .i64 S, .slice ta L tc] 88)
                      have hguard : (k = 0 ∧ decide (0 < k) = false) ∨ ∃ (m : Nat) (P : Int), decide (0 < k) = true ∧ IntKind.i64.wrap ((k : Int) - 1) = (m : Int) ∧ (0 : Int) ≤ (m : Int) ∧ (m : Int) < (n4 : Int) ∧ wr.cell? ⟨b, off + m * 5, none⟩ = some (.int .i64 P) ∧ Hid ((ts.getD (k - 1) default).id = P) := by
                        by_cases h0 : k = 0
                        · exact .inl ⟨h0, by simp; omega⟩
                        · obtain ⟨m, P, hkm, hp, hc⟩ := HP.out (by omega)
                          exact .inr ⟨m, P, by simp; omega, by rw [IntWalk.i64_in _ (by omega)]; omega, by omega, by omega, hc, hp⟩
                      -- the tests after the order
                      have htest : (sentB d ⟨I, F, C, S, []⟩ = true ∧ (decide (F < 0) = true ∨ (decide (F < 0) = false ∧ decide (d ≤ F) = true) ∨ (decide (F < 0) = false ∧ decide (d ≤ F) = false ∧ decide (C < 0) = true) ∨ (decide (F < 0) = false ∧ decide (d ≤ F) = false ∧ decide (C < 0) = false ∧ decide (39 < C) = true) ∨ (decide (F < 0) = false ∧ decide (d ≤ F) = false ∧ decide (C < 0) = false ∧ decide (39 < C) = false ∧ decide (S < 0) = true) ∨ (decide (F < 0) = false ∧ decide (d ≤ F) = false ∧ decide (C < 0) = false ∧ decide (39 < C) = false ∧ decide (S < 0) = false ∧ decide (1099511627776 < S) = true))) ∨
                          (sentB d ⟨I, F, C, S, []⟩ = false ∧ decide (F < 0) = false ∧ decide (d ≤ F) = false ∧ decide (C < 0) = false ∧ decide (39 < C) = false ∧ decide (S < 0) = false ∧ decide (1099511627776 < S) = false) := by
                        unfold sentB
                        simp only [Bool.or_eq_true, Bool.or_eq_false_iff, decide_eq_true_eq, decide_eq_false_iff_not]
                        omega
                      rcases hguard with ⟨hk0, hkd⟩ | ⟨m, P, hkd, hsub, hm0, hm1, hpc, hp⟩
                      · have HV0 : Hid (sentV d ts k = if sentB d ⟨I, F, C, S, []⟩ = true then 5 else if 260 < L then 4 else 0) := by
                          unfold Hid
                          rw [HV.out, if_neg (by omega)]
                          rfl
                        clear hk0
                        rcases htest with ⟨hs, ht⟩ | ⟨hs, g1, g2, g3, g4, g5, g6⟩
                        · have hE := HB.out 5 (by rw [HV0.out, hs]; rfl) (by decide)
                          have HE := Lib.hid hE
                          clear hE
                          rcases ht with g1 | ⟨g1, g2⟩ | ⟨g1, g2, g3⟩ | ⟨g1, g2, g3, g4⟩ | ⟨g1, g2, g3, g4, g5⟩ | ⟨g1, g2, g3, g4, g5, g6⟩
                          all_goals
                            go_wp2_with fail
                            go_quiet (fail)
                            go_wp2
                            go_ret
                            exact ⟨ret_eq (by rw [HE.out]; rfl), below_drewN hBX _⟩
                        · by_cases hL : 260 < L
                          · have hE := HB.out 4 (by rw [HV0.out, hs]; simp [hL]) (by decide)
                            have HE := Lib.hid hE
                            clear hE
                            go_wp2_with fail
                            go_quiet (fail)
                            go_wp2
                            go_ret
                            exact ⟨ret_eq (by rw [HE.out]; rfl), below_drewN hBX _⟩
                          · have hg := HG.out (by rw [HV0.out, hs]; simp [hL])
                            have HGG := Lib.hid hg
                            clear hg
                            go_wp2_with fail
                            go_quiet (fail)
                            go_wp2
                            go_roundw
                            case rel => exact ⟨k + 1, by omega, by go_num, HGG.out, below_drewN hBX1 _⟩
                            case measure => simp [intOf]; omega
                      · by_cases hip : I ≤ P
                        · have hE := HB.out 13 (by rw [HV.out, hp.out, if_pos ⟨by simpa using hkd, hip⟩]) (by decide)
                          have HE := Lib.hid hE
                          clear hE htest
                          go_wp2_with fail
                          go_quiet (fail)
                          go_wp2
                          go_ret
                          exact ⟨ret_eq (by rw [HE.out]; rfl), below_drewN hBX _⟩
                        · have hipd : decide (I ≤ P) = false := by simpa using hip
                          have HV0 : Hid (sentV d ts k = if sentB d ⟨I, F, C, S, []⟩ = true then 5 else if 260 < L then 4 else 0) := by
                            unfold Hid
                            rw [HV.out, hp.out, if_neg (fun h => hip h.2)]
                            rfl
                          clear hip
                          rcases htest with ⟨hs, ht⟩ | ⟨hs, g1, g2, g3, g4, g5, g6⟩
                          · have hE := HB.out 5 (by rw [HV0.out, hs]; rfl) (by decide)
                            have HE := Lib.hid hE
                            clear hE
                            rcases ht with g1 | ⟨g1, g2⟩ | ⟨g1, g2, g3⟩ | ⟨g1, g2, g3, g4⟩ | ⟨g1, g2, g3, g4, g5⟩ | ⟨g1, g2, g3, g4, g5, g6⟩
                            all_goals
                              go_wp2_with fail
                              go_quiet (fail)
                              go_wp2
                              go_ret
                              exact ⟨ret_eq (by rw [HE.out]; rfl), below_drewN hBX _⟩
                          · by_cases hL : 260 < L
                            · have hE := HB.out 4 (by rw [HV0.out, hs]; simp [hL]) (by decide)
                              have HE := Lib.hid hE
                              clear hE
                              go_wp2_with fail
                              go_quiet (fail)
                              go_wp2
                              go_ret
                              exact ⟨ret_eq (by rw [HE.out]; rfl), below_drewN hBX _⟩
                            · have hg := HG.out (by rw [HV0.out, hs]; simp [hL])
                              have HGG := Lib.hid hg
                              clear hg
                              go_wp2_with fail
                              go_quiet (fail)
                              go_wp2
                              go_roundw
                              case rel => exact ⟨k + 1, by omega, by go_num, HGG.out, below_drewN hBX1 _⟩
                              case measure => simp [intOf]; omega
                    · have hE0 : E4 = 0 := by
                        rw [← HE4.out, ← hz.out, show n4 = k by omega]
                      subst hE0
                      go_wp2
                      go_ret
                      exact ⟨rfl, hBr⟩
end Go.Proofs.YtccknpdnapoboaaDoor
