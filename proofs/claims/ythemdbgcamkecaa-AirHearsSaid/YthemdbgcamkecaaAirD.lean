/- Walks of air: InRange, and the reference's. -/
import Derived.Test.YthemdbgcamkecaaAirC
namespace Go.Proofs.Ythemdbgcamkecaa
open Go.RowKit

/-- in range -/
def rngB (l : List (Int × Int)) (x y : Int) : Bool := l.contains (x, y) || l.contains (y, x)

theorem range_any (d : Int) (v jv sv : Value) (l : List (Int × Int)) (x y : Int) (w : World) (h : SR w v l.length 2 (tcells l)) :
    Calls Try.prog 21 #[.agg #[.int .i64 d, v, jv, sv], .int .i64 x, .int .i64 y] w fun e w' => e = .returned (.bool (rngB l x y)) ∧ Below w.heap.size w w' := by
  have hBW : Below w.heap.size w (w.alloc (.cells #[.int .i64 d, v, jv, sv] 34)) := (Below.refl _ _).alloc (Nat.le_refl _) _
  have hs := h.below hBW
  have c1 := contains_pair v l x y _ hs
  have C1 := Lib.hid c1
  have C2 := Lib.hid (fun w' hb => contains_pair v l y x w' (hs.below hb))
  have k1 := cellNew w #[.int .i64 d, v, jv, sv] 34 1 _ rfl
  unfold rngB
  obtain ⟨b1, hb1⟩ : ∃ b, l.contains (x, y) = b := ⟨_, rfl⟩
  rw [hb1] at C1 ⊢
  clear c1 hb1 h hs
  cases b1
  · go_enter Try.func21, Try.ntmps21
    go_wp2_with fail
    refine C1.out.mono ?_
    rintro e w2 ⟨rfl, hB2⟩
    have k2 := kc k1 hB2
    go_wp2_with fail
    refine (C2.out _ hB2).mono ?_
    rintro e w3 ⟨rfl, hB3⟩
    go_wp2
    go_ret
    exact ⟨ret_bool (by simp), (hBW.trans (hB2.mono hBW.size)).trans (hB3.mono (Nat.le_trans hBW.size hB2.size))⟩
  · go_enter Try.func21, Try.ntmps21
    go_wp2_with fail
    refine C1.out.mono ?_
    rintro e w2 ⟨rfl, hB2⟩
    go_wp2
    go_ret
    exact ⟨ret_bool (by simp), hBW.trans (hB2.mono hBW.size)⟩

set_option maxHeartbeats 1000000 in
theorem rrange_any (d : Int) (v jv sv : Value) (l : List (Int × Int)) (x y : Int) (w : World) (h : SR w v l.length 2 (tcells l)) :
    Calls Try.prog 22 #[.agg #[.int .i64 d, v, jv, sv], .int .i64 x, .int .i64 y] w fun e w' => e = .returned (.bool (rngB l x y)) ∧ Below w.heap.size w w' := by
  obtain ⟨n, hn⟩ : ∃ n, l.length = n := ⟨_, rfl⟩
  obtain ⟨hm, _, _, ao, cap, rfl, _, hcell⟩ := h
  unfold maxLen at hm
  rw [hn] at hm hcell ⊢
  have HN := Lib.hid hn
  clear hn
  go_enter Try.func22, Try.ntmps22
  go_wp2_with fail
  have k1 := cellNew w #[.int .i64 d, .slice ao n cap, jv, sv] 34 1 _ rfl
  have hBW : Below w.heap.size w (w.alloc (.cells #[.int .i64 d, .slice ao n cap, jv, sv] 34)) := (Below.refl _ _).alloc (Nat.le_refl _) _
  generalize hW : w.alloc (.cells _ 34) = W at k1 hBW ⊢
  clear hW
  have hwl := World.block_lt_of_cell? W _ k1
  go_loopw [7, 8] (fun i _ wr => ∃ k : Nat, k ≤ n ∧ i = .int .i64 k ∧ Hid (∀ t ∈ l.take k, t ≠ (x, y) ∧ t ≠ (y, x)) ∧ Below W.heap.size W wr) (fun i _ _ => n - (intOf i).toNat)
  case atStart => exact ⟨0, by omega, rfl, by intro t ht; simp at ht, Below.refl _ _⟩
  case round =>
    obtain ⟨k, hk, rfl, hall, hB⟩ := hrel
    have q1 := kc k1 hB
    by_cases hlt : k < n
    · have hkl : k < l.length := by rw [HN.out]; exact hlt
      obtain ⟨b, off, rfl, hb, hx⟩ := hcell (by omega)
      obtain ⟨p1, p2⟩ := tcells_get l k hkl
      have hbW : b < W.heap.size := Nat.lt_of_lt_of_le hb hBW.size
      have d1 := ((hB.cell (p := ⟨b, off + k * 2, none⟩) hbW).trans (hBW.cell (p := ⟨b, off + k * 2, none⟩) hb)).trans (hx _ _ p1)
      have d2 := ((hB.cell (p := ⟨b, off + k * 2 + 1, none⟩) hbW).trans (hBW.cell (p := ⟨b, off + k * 2 + 1, none⟩) hb)).trans (hx _ _ p2)
      have ts := List.take_succ_eq_append_getElem hkl
      obtain ⟨⟨x2, y2⟩, he⟩ : ∃ t, l[k] = t := ⟨_, rfl⟩
      have hmem : (x2, y2) ∈ l := by rw [← he]; exact List.getElem_mem hkl
      rw [he] at d1 d2 ts
      simp only at d1 d2
      have TS := Lib.hid ts
      have HM := Lib.hid hmem
      have hi0 : (0 : Int) ≤ (k : Int) := by omega
      have hi1 : (k : Int) < (n : Int) := by omega
      clear p1 p2 hx he ts hmem hcell k1
      by_cases e1 : x2 = x ∧ y2 = y
      · obtain ⟨rfl, rfl⟩ := e1
        go_wp2
        go_ret
        refine ⟨ret_bool ?_, (hBW.trans (hB.mono hBW.size)).alloc (Nat.le_trans hBW.size hB.size) _⟩
        unfold rngB
        rw [List.contains_iff_mem.2 HM.out]
        rfl
      · by_cases e2 : x2 = y ∧ y2 = x
        · obtain ⟨rfl, rfl⟩ := e2
          by_cases ex : x2 = y2
          · exact absurd ⟨ex, ex.symm⟩ e1
          · have f1 : (x2 == y2) = false := by simpa using ex
            clear e1 ex
            go_wp2
            go_ret
            refine ⟨ret_bool ?_, (hBW.trans (hB.mono hBW.size)).alloc (Nat.le_trans hBW.size hB.size) _⟩
            unfold rngB
            rw [List.contains_iff_mem.2 HM.out]
            simp
        · have HE1 := Lib.hid e1
          have HE2 := Lib.hid e2
          obtain ⟨ax, hax⟩ : ∃ b, (x2 == x) = b := ⟨_, rfl⟩
          obtain ⟨ay, hay⟩ : ∃ b, (x2 == y) = b := ⟨_, rfl⟩
          obtain ⟨bx, hbx⟩ : ∃ b, (y2 == x) = b := ⟨_, rfl⟩
          obtain ⟨bY, hby⟩ : ∃ b, (y2 == y) = b := ⟨_, rfl⟩
          have g1 : ¬ (ax = true ∧ bY = true) := by rw [← hax, ← hby]; simpa using e1
          have g2 : ¬ (ay = true ∧ bx = true) := by rw [← hay, ← hbx]; simpa using e2
          clear e1 e2
          cases ax <;> cases ay <;> cases bx <;> cases bY
          all_goals first | (exact absurd ⟨rfl, rfl⟩ g1) | (exact absurd ⟨rfl, rfl⟩ g2) | skip
          all_goals
            clear g1 g2
            go_wp2
            go_roundw
            case rel =>
              refine ⟨k + 1, by omega, by go_num, ?_, hB.alloc hB.size _⟩
              intro t ht
              rw [TS.out] at ht
              rcases List.mem_append.1 ht with h1 | h1
              · exact hall.out t h1
              · rw [List.mem_singleton.1 h1]
                exact ⟨fun e => HE1.out (by rwa [Prod.mk.injEq] at e), fun e => HE2.out (by rwa [Prod.mk.injEq] at e)⟩
            case measure => simp [intOf]; omega
    · have e : l.take k = l := List.take_of_length_le (by rw [HN.out]; omega)
      have ha := hall.out
      rw [e] at ha
      have HA := Lib.hid ha
      clear ha e hcell k1
      go_wp2
      go_ret
      refine ⟨ret_bool ?_, hBW.trans (hB.mono hBW.size)⟩
      have g1 : l.contains (x, y) = false := by
        rw [Bool.eq_false_iff]
        intro hc
        exact (HA.out _ (List.contains_iff_mem.1 hc)).1 rfl
      have g2 : l.contains (y, x) = false := by
        rw [Bool.eq_false_iff]
        intro hc
        exact (HA.out _ (List.contains_iff_mem.1 hc)).2 rfl
      unfold rngB
      rw [g1, g2]
      rfl
end Go.Proofs.Ythemdbgcamkecaa
