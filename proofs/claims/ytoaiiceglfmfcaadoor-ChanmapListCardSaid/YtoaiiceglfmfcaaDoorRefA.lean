/- Walks of the reference's lists of channels: List, Count, Nth, Of. -/
import Derived.Test.YtoaiiceglfmfcaaDoorChanC
import Derived.WalkSpells
namespace Go.Proofs.YtoaiiceglfmfcaaDoor
open Go.RowKit

theorem Tryd.info_int : (Tryd.prog.info? 3).map (fun i => (i.zero, i.size, i.bytes)) = some (some (.int .i64 0), 1, 8) := by kernel_rfl
/-- the cells of a list of channels -/
def chs (l : List (Fin 37)) : List Value := l.map fun c => .int .i64 (c.val : Int)

set_option maxRecDepth 100000 in
set_option maxHeartbeats 1000000 in
theorem rlist_any (m : Nat) (hm : m < 18446744073709551616) (w : World) :
    Calls Tryd.prog 20 #[.int .u64 m] w fun e w' => ∃ g c, e = .returned (.slice (some ⟨g, 0, none⟩) (lst m).length c) ∧
      w'.ownsRow w.heap.size 3 1 (.slice (some ⟨g, 0, none⟩) (lst m).length c) (lst m).length (chs (lst m)) ∧ Below w.heap.size w w' := by
  obtain ⟨i0, hi, hz0, hz1, hz2⟩ := info_parts Tryd.info_int
  go_enter Tryd.func20, Tryd.ntmps20
  go_wp2
  go_loopw [3, 4] (fun v i wr => ∃ k g c : Nat, k ≤ 37 ∧ i = .int .i64 k ∧ v = .slice (some ⟨g, 0, none⟩) (lstTo m k).length c ∧ wr.ownsRow w.heap.size 3 1 (.slice (some ⟨g, 0, none⟩) (lstTo m k).length c) (lstTo m k).length (chs (lstTo m k)) ∧ Below w.heap.size w wr)
    (fun _ i _ => 37 - (intOf i).toNat)
  case atStart =>
    exact ⟨0, w.heap.size, 0, by omega, rfl, rfl, World.ownsRow_made w #[] 0 (Nat.le_refl _) (by unfold maxLen; omega) rfl, (Below.refl _ _).alloc (Nat.le_refl _) _⟩
  case round =>
    obtain ⟨k, g, c, hk, rfl, rfl, hown, hB⟩ := hrel
    by_cases hlt : k < 37
    · have hs := lstTo_succ m k hlt
      have hI := hasI_in m k hlt
      cases hb : m.testBit k
      · rw [hb] at hs hI
        simp only [Bool.false_eq_true, if_false, List.append_nil] at hs
        have HI := Lib.hid hI
        rw [← hs] at hown ⊢
        clear hs hI hb
        go_wp2_with (go_at_call 15; refine (rhas_any m hm _ _).mono ?_; rw [HI.out]; rintro e w' ⟨rfl, rfl⟩)
        go_roundw
        case rel => exact ⟨k + 1, g, c, by omega, by go_num, rfl, hown, hB⟩
        case measure => simp [intOf]; omega
      · rw [hb] at hs hI
        simp only [if_true] at hs
        have HI := Lib.hid hI
        have HS := Lib.hid hs
        clear hs hI hb
        have hlen : (lstTo m k).length ≤ 37 := Nat.le_trans (lstTo_len m k) (by omega)
        go_wp2_with (first
          | (go_at_call 15; refine (rhas_any m hm _ _).mono ?_; rw [HI.out]; rintro e w' ⟨rfl, rfl⟩)
          | (at_builtin; refine wpList_append_own _ rfl _ _ 31 rfl w.heap.size 3 i0 (.int .i64 0) 1 8 Tryd.underlying31 hi hz0 hz1 hz2 rfl (by decide) _ _ _ rfl (hown.alloc _) ⟨wr.heap.size, 0, none⟩ 1 1 [.int .i64 (k : Int)] rfl rfl (cell_one_new _ _ _) (by simp [Value.oneCell']) (by unfold maxLen; omega) (by omega) (by have := hB.size; simp; omega) ?_))
        intro v' w1 hown' hgrow _
        obtain ⟨g', c', rfl⟩ := ownsRow_succ hown'
        have hB1 : Below w.heap.size w w1 := (hB.alloc hB.size _).grown hgrow (by have := hB.size; simp; omega) (fun j hj => (hown.lt j hj).1)
        clear hown hgrow hB
        go_wp2
        go_roundw
        case rel => exact ⟨k + 1, g', c', by omega, by go_num, by rw [HS.out]; simp, by rw [HS.out]; simpa [chs] using hown', hB1⟩
        case measure => simp [intOf]; omega
    · go_wp2
      go_ret
      obtain rfl : k = 37 := by omega
      exact ⟨_, _, rfl, hown, hB⟩

theorem lstTo_count (m : Nat) : ∀ k, k ≤ 37 → (lstTo m k).length = pop m k
  | 0, _ => by simp [lstTo, pop]
  | k+1, h => by
    rw [lstTo_succ m k (by omega), List.length_append, lstTo_count m k (by omega)]
    simp only [pop]
    rw [Nat.testBit_eq_decide_div_mod_eq]
    have : m / 2^k % 2 < 2 := Nat.mod_lt _ (by decide)
    split <;> simp_all <;> omega
theorem lst_count (m : Nat) : (lst m).length = pop m 37 := lstTo_count m 37 (Nat.le_refl _)
theorem rcount_any (m : Nat) (hm : m < 18446744073709551616) (w : World) :
    Calls Tryd.prog 17 #[.int .u64 m] w fun e w' => e = .returned (.int .i64 (pop m 37)) ∧ Below w.heap.size w w' := by
  go_enter Tryd.func17, Tryd.ntmps17
  go_wp2_with (go_at_call 20; refine (rlist_any m hm _).mono ?_; rintro e w' ⟨g, c, rfl, hown, hB⟩)
  go_ret
  exact ⟨ret_eq (by rw [lst_count]), by assumption⟩

theorem rnth_any (m : Nat) (hm : m < 18446744073709551616) (i : Int) (w : World) :
    Calls Tryd.prog 22 #[.int .u64 m, .int .i64 i] w fun e w' => e = .returned (.int .i64 (nthI m i)) ∧ Below w.heap.size w w' := by
  go_enter Tryd.func22, Tryd.ntmps22
  go_wp2_with fail
  refine (rlist_any m hm _).mono ?_
  rintro e w' ⟨g, c, rfl, hown, hB⟩
  by_cases h0 : i < 0
  · have hn := Lib.hid (nthI_out m i (by omega))
    go_wp2
    go_ret
    exact ⟨ret_eq hn.out.symm, hB⟩
  · obtain ⟨k, rfl⟩ := Int.eq_ofNat_of_zero_le (Int.not_lt.1 h0)
    by_cases h1 : k < (lst m).length
    · have hn : nthI m k = (((lst m)[k]'h1).val : Int) := by
        unfold nthI
        rw [dif_pos ⟨by omega, by simpa using h1⟩]
        simp
      have hc : w'.cell? ⟨g, k, none⟩ = some (.int .i64 (((lst m)[k]'h1).val : Int)) := by
        rw [hown.cellAt k (by omega)]
        simp [chs, h1]
      rw [← hn] at hc
      clear hn hown
      go_wp2
      go_ret
      exact ⟨rfl, hB⟩
    · have hn := Lib.hid (nthI_out m k (by omega))
      clear hown
      go_wp2
      go_ret
      exact ⟨ret_eq hn.out.symm, hB⟩

/-- the channel that takes the place of another one -/
def clampI (c : Int) : Int := if c < 0 then 0 else if 36 < c then 36 else c
def remapI (m : Nat) (c : Int) : Int :=
  if hasI m (clampI c) = true then clampI c else if pop m 37 = 0 then -1 else nthI m (clampI c % pop m 37)
theorem remap_any (m : Nat) (hm : m < 18446744073709551616) (c : Int) (w : World) :
    Calls Tryd.prog 23 #[.int .u64 m, .int .i64 c] w fun e w' => e = .returned (.int .i64 (remapI m c)) ∧ Below w.heap.size w w' := by
  obtain ⟨d, hd⟩ : ∃ d : Int, clampI c = d := ⟨_, rfl⟩
  unfold remapI
  rw [hd]
  obtain ⟨b, hb⟩ : ∃ b, hasI m d = b := ⟨_, rfl⟩
  obtain ⟨P, hP⟩ : ∃ P, pop m 37 = P := ⟨_, rfl⟩
  have hPle := pop_le m 37
  rw [hb, hP]
  rw [hP] at hPle
  have HP := Lib.hid hP
  clear hP
  have hcase : (c < 0 ∧ d = 0) ∨ ((0 < c ∧ c ≤ 36) ∧ d = c) ∨ (36 < c ∧ d = 36) ∨ (c = 0 ∧ d = 0) := by
    unfold clampI at hd
    split at hd
    · exact .inl ⟨by assumption, hd.symm⟩
    · split at hd
      · exact .inr (.inr (.inl ⟨by assumption, hd.symm⟩))
      · by_cases hz : c = 0
        · exact .inr (.inr (.inr ⟨hz, by omega⟩))
        · exact .inr (.inl ⟨by omega, hd.symm⟩)
  clear hd
  rcases hcase with ⟨hc, rfl⟩ | ⟨hc, rfl⟩ | ⟨hc, rfl⟩ | ⟨rfl, rfl⟩
  all_goals
    have HB := Lib.hid hb
    clear hb
    cases b
    · by_cases hp0 : P = 0
      · subst hp0
        go_enter Tryd.func23, Tryd.ntmps23
        go_wp2_with (first | (go_at_call 14; refine (has_any m hm _ _).mono ?_; rw [HB.out]; rintro e w' ⟨rfl, rfl⟩) | (go_at_call 16; refine (count_any m hm _).mono ?_; rw [HP.out]; rintro e w' ⟨rfl, rfl⟩))
        go_ret
        exact ⟨by simp, by first | assumption | exact Below.refl _ _⟩
      · have hp1 : 1 ≤ (P : Int) := by omega
        have hp2 : ((P : Int) == 0) = false := by rw [beq_eq_false_iff_ne]; omega
        go_enter Tryd.func23, Tryd.ntmps23
        go_wp2_with (first | (go_at_call 14; refine (has_any m hm _ _).mono ?_; rw [HB.out]; rintro e w' ⟨rfl, rfl⟩) | (go_at_call 16; refine (count_any m hm _).mono ?_; rw [HP.out]; rintro e w' ⟨rfl, rfl⟩) | (go_at_call 21; refine (nth_any m hm _ _).mono ?_; rintro e w2 ⟨rfl, hB2⟩))
        go_ret
        exact ⟨by simp, by first | assumption | exact Below.refl _ _⟩
    · go_enter Tryd.func23, Tryd.ntmps23
      go_wp2_with (go_at_call 14; refine (has_any m hm _ _).mono ?_; rw [HB.out]; rintro e w' ⟨rfl, rfl⟩)
      go_ret
      exact ⟨by simp, Below.refl _ _⟩
theorem rremap_any (m : Nat) (hm : m < 18446744073709551616) (c : Int) (w : World) :
    Calls Tryd.prog 24 #[.int .u64 m, .int .i64 c] w fun e w' => e = .returned (.int .i64 (remapI m c)) ∧ Below w.heap.size w w' := by
  obtain ⟨d, hd⟩ : ∃ d : Int, clampI c = d := ⟨_, rfl⟩
  unfold remapI
  rw [hd]
  obtain ⟨b, hb⟩ : ∃ b, hasI m d = b := ⟨_, rfl⟩
  obtain ⟨P, hP⟩ : ∃ P, pop m 37 = P := ⟨_, rfl⟩
  have hPle := pop_le m 37
  rw [hb, hP]
  rw [hP] at hPle
  have HP := Lib.hid hP
  clear hP
  have hcase : (c < 0 ∧ d = 0) ∨ ((0 < c ∧ c ≤ 36) ∧ d = c) ∨ (36 < c ∧ d = 36) ∨ (c = 0 ∧ d = 0) := by
    unfold clampI at hd
    split at hd
    · exact .inl ⟨by assumption, hd.symm⟩
    · split at hd
      · exact .inr (.inr (.inl ⟨by assumption, hd.symm⟩))
      · by_cases hz : c = 0
        · exact .inr (.inr (.inr ⟨hz, by omega⟩))
        · exact .inr (.inl ⟨by omega, hd.symm⟩)
  clear hd
  rcases hcase with ⟨hc, rfl⟩ | ⟨hc, rfl⟩ | ⟨hc, rfl⟩ | ⟨rfl, rfl⟩
  all_goals
    have HB := Lib.hid hb
    clear hb
    cases b
    · by_cases hp0 : P = 0
      · subst hp0
        go_enter Tryd.func24, Tryd.ntmps24
        go_wp2_with (first | (go_at_call 15; refine (rhas_any m hm _ _).mono ?_; rw [HB.out]; rintro e w' ⟨rfl, rfl⟩) | (go_at_call 17; refine (rcount_any m hm _).mono ?_; rw [HP.out]; rintro e w' ⟨rfl, hB1⟩))
        go_ret
        exact ⟨by simp, by first | assumption | exact Below.refl _ _⟩
      · have hp1 : 1 ≤ (P : Int) := by omega
        have hp2 : ((P : Int) == 0) = false := by rw [beq_eq_false_iff_ne]; omega
        go_enter Tryd.func24, Tryd.ntmps24
        go_wp2_with (first | (go_at_call 15; refine (rhas_any m hm _ _).mono ?_; rw [HB.out]; rintro e w' ⟨rfl, rfl⟩) | (go_at_call 17; refine (rcount_any m hm _).mono ?_; rw [HP.out]; rintro e w' ⟨rfl, hB1⟩) | (go_at_call 22; refine (rnth_any m hm _ _).mono ?_; rintro e w2 ⟨rfl, hB2⟩))
        go_ret
        exact ⟨by simp, by first | assumption | exact (Below.trans (by assumption) (Below.mono (by assumption) (Below.size (by assumption))))⟩
    · go_enter Tryd.func24, Tryd.ntmps24
      go_wp2_with (go_at_call 15; refine (rhas_any m hm _ _).mono ?_; rw [HB.out]; rintro e w' ⟨rfl, rfl⟩)
      go_ret
      exact ⟨by simp, Below.refl _ _⟩
end Go.Proofs.YtoaiiceglfmfcaaDoor
