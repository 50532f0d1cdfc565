/- chanmap: the walks of the statements ChanmapList, ChanmapBack. -/
import Derived.Test.YtoaiiceglfmfcaaDoorCtN
namespace Go.Proofs.YtoaiiceglfmfcaaDoor
open Go.ChangeShapes Go.WideShapes Go.ChangeAt Go.RowKit

theorem lst_mem (m : Nat) (c : Fin 37) : c ∈ lst m ↔ m.testBit c.val = true := by
  unfold lst lstTo
  rw [List.take_of_length_le (by simp), List.mem_filter]
  simp
theorem clamp_bd (c : Int) : 0 ≤ clampI c ∧ clampI c ≤ 36 := by
  unfold clampI
  split
  · omega
  · split <;> omega
theorem remap_has (m : Nat) (c : Int) (hp : pop m 37 ≠ 0) : hasI m (remapI m c) = true := by
  have hc := clamp_bd c
  have hl := lst_count m
  unfold remapI
  split
  · assumption
  · try rw [if_neg hp]
    obtain ⟨i, hi⟩ := Int.eq_ofNat_of_zero_le (show 0 ≤ clampI c % (pop m 37 : Int) from Int.emod_nonneg _ (by omega))
    have hlt : clampI c % (pop m 37 : Int) < pop m 37 := Int.emod_lt_of_pos _ (by omega)
    rw [hi] at hlt ⊢
    have hil : i < (lst m).length := by omega
    have hn : nthI m (i : Int) = (((lst m)[i]'hil).val : Int) := by
      unfold nthI
      rw [dif_pos ⟨by omega, by simpa using hil⟩]
      simp
    rw [hn, hasI_in m _ (lst m)[i].isLt]
    exact (lst_mem m _).1 (List.getElem_mem hil)
theorem remap_none (m : Nat) (c : Int) (hp : pop m 37 = 0) : remapI m c = -1 := by
  have hc := clamp_bd c
  have hl := lst_count m
  unfold remapI
  split
  · rename_i h
    obtain ⟨i, hi⟩ := Int.eq_ofNat_of_zero_le hc.1
    rw [hi] at h
    have hi37 : i < 37 := by omega
    rw [hasI_in m i hi37] at h
    have := List.length_pos_of_mem ((lst_mem m ⟨i, hi37⟩).2 h)
    omega
  · try rw [if_pos hp]
    try rfl
theorem remap_id (m : Nat) (c : Nat) (hc : c < 37) (h : hasI m (c : Int) = true) : remapI m (c : Int) = c := by
  have e : clampI (c : Int) = c := by
    unfold clampI
    rw [if_neg (by omega), if_neg (by omega)]
  unfold remapI
  rw [e, if_pos h]
theorem dec_enc (m : Nat) (h : chk m = 0) : decI (encI m) = (m, 0) := by
  have hlt := chk_zero m h
  have hv : vnum (putB m 5) = m := by rw [vnum_put]; exact Nat.mod_eq_of_lt (Nat.lt_of_lt_of_le hlt (by decide))
  unfold decI encI
  rw [if_pos h, putB_len, if_neg (by decide), if_neg (by decide), hv, if_pos h]
theorem enc_dec (bs : List Nat) (hb : ∀ x ∈ bs, x < 256) (h : (decI bs).2 = 0) : chk (decI bs).1 = 0 ∧ encI (decI bs).1 = bs := by
  unfold decI at h ⊢
  split at h
  · cases h
  · rename_i h1
    split at h
    · cases h
    · rename_i h2
      rw [if_neg h1, if_neg h2]
      split at h
      · rename_i h3
        rw [if_pos h3]
        have hl : bs.length = 5 := by omega
        refine ⟨h3, ?_⟩
        unfold encI
        rw [if_pos h3, ← hl]
        exact putB_vnum bs hb
      · rename_i h3
        exact absurd h h3
set_option linter.unusedSimpArgs false in
set_option linter.unusedVariables false in
set_option maxRecDepth 100000 in
set_option maxHeartbeats 2000000 in
theorem chanmapList_walk (v0 v1 : Value) (w : World) (a0 : Arg Tryd.prog w 23 v0) (a1 : Arg Tryd.prog w 3 v1) (M : Int) (hM : w.cell? ⟨0, 0, none⟩ = some (.int .i64 M)) (hE : EVar w) :
    Calls Tryd.prog 8 #[v0, v1] w fun e w' => e = .returned (.bool true) ∧ Below w.heap.size w w' := by
  obtain ⟨m, rfl, hm⟩ := a0.u64 Tryd.underlying23
  obtain ⟨c, rfl, _, _⟩ := a1.i64 Tryd.underlying3
  have hlst : (lst m).length ≤ 37 := lstTo_len m 37
  have hcnt := lst_count m
  have h0 := Lib.hid (lives_any M w hE hM)
  have h1 := Lib.hid (fun c W => has_any m hm c W)
  have h3 := Lib.hid (fun W => count_any m hm W)
  have h5 := Lib.hid (fun W => list_any m hm W)
  have h7 := Lib.hid (fun c W => nth_any m hm c W)
  have h8 := Lib.hid (fun c W => remap_any m hm c W)
  obtain ⟨L, hL⟩ : ∃ L, (lst m).length = L := ⟨_, rfl⟩
  have hsl := Lib.hid (fun (w : World) base v => sr_lst (w := w) (base := base) (m := m) (v := v))
  rw [hL] at hsl hlst hcnt h5
  have HL := Lib.hid hL
  have HCNT := Lib.hid hcnt
  clear hM hE a0 a1 hL hcnt
  go_enter Tryd.func8, Tryd.ntmps8
  go_wp2_with fail
  refine h0.out.mono ?_
  rintro e w1 ⟨rfl, hB1⟩
  have HB1 := Lib.hid hB1
  clear hB1
  go_wp2_with fail
  refine (h5.out _).mono ?_
  rintro e w2 ⟨v2, rfl, ho2, hB2⟩
  have HB2 := Lib.hid (HB1.out.trans (hB2.mono HB1.out.size))
  obtain ⟨_, _, _, ao, cap, rfl, _, hc⟩ := hsl.out _ _ _ ho2
  have HC := Lib.hid hc
  clear hB2 HB1 ho2 hc
  go_wp2
  go_loopw [6, 7] (fun a i wr => ∃ k A : Nat, i = .int .i64 k ∧ k ≤ 37 ∧ a = .int .i64 A ∧ Hid (A = (lstTo m k).length) ∧ Below w2.heap.size w2 wr) (fun _ i _ => 37 - (intOf i).toNat)
  case atStart => exact ⟨0, 0, by simp, Nat.zero_le _, by simp, Lib.hid rfl, Below.refl _ _⟩
  case round =>
    obtain ⟨k, A, rfl, hk, rfl, hA, hB⟩ := hrel
    have w1 : IntKind.i64.wrap ((k : Int) + 1) = (k : Int) + 1 := IntWalk.i64_in _ (by omega)
    by_cases hlt : k < 37
    · have g1 : decide (k ≤ 36) = true := by simp; omega
      have g1' : decide ((k : Int) ≤ 36) = true := by simp; omega
      have hs := lstTo_succ m k hlt
      have hI := hasI_in m k hlt
      have hh := fun W => h1.out (k : Int) W
      cases hb : hasI m (k : Int)
      · rw [hb] at hI
        simp only [hb] at hh
        rw [← hI] at hs
        simp only [Bool.false_eq_true, if_false, List.append_nil] at hs
        have HA2 : Hid (A = (lstTo m (k + 1)).length) := Lib.hid (by rw [hs]; exact hA.out)
        have HH := Lib.hid hh
        clear hs hI hb hh hA
        go_wp2_with fail
        refine (HH.out _).mono ?_
        rintro e w' ⟨rfl, rfl⟩
        go_wp2
        refine ⟨⟨k + 1, A, by simp, hlt, rfl, HA2, hB⟩, ?_⟩
        simp [intOf]
        omega
      · have hrm := remap_id m k hlt hb
        rw [hb] at hI
        simp only [hb] at hh
        rw [← hI] at hs
        simp only [if_true] at hs
        have hpre := lstTo_pre m (k + 1)
        rw [hs] at hpre
        have hnth := nthI_in m _ _ hpre
        rw [← hA.out] at hnth
        have hAL : A + 1 ≤ L := by
          have := hpre.length_le
          rw [List.length_append, List.length_singleton, HL.out, ← hA.out] at this
          exact this
        have hget : (lst m)[A]? = some ⟨k, hlt⟩ := by
          obtain ⟨r, hr⟩ := hpre
          rw [← hr, hA.out]
          simp
        obtain ⟨b1, o1, rfl, hb1, q1⟩ := HC.out (by omega)
        have p1 := (hB.cell (p := ⟨b1, o1 + A, none⟩) hb1).trans (q1 A (.int .i64 (k : Int)) (by simp [chs, hget]))
        have HA2 : Hid (A + 1 = (lstTo m (k + 1)).length) := Lib.hid (by rw [hs, List.length_append, List.length_singleton, ← hA.out])
        have hn7 := fun W => h7.out (A : Int) W
        simp only [hnth] at hn7
        have hn8 := fun W => h8.out (k : Int) W
        simp only [hrm] at hn8
        have HH := Lib.hid hh
        have H7 := Lib.hid hn7
        have H8 := Lib.hid hn8
        have HB := Lib.hid hB
        have t1 : decide (L ≤ A) = false := by simp; omega
        have t1' : decide ((L : Int) ≤ (A : Int)) = false := by simp; omega
        have t2 : ((A : Int) < (L : Int)) := by omega
        have w2' : IntKind.i64.wrap ((A : Int) + 1) = (A : Int) + 1 := IntWalk.i64_in _ (by omega)
        clear hs hI hb hh hA hrm hpre hnth hget q1 hn7 hn8 hB
        go_wp2_with fail
        refine (HH.out _).mono ?_
        rintro e w' ⟨rfl, rfl⟩
        go_wp2_with fail
        refine (H7.out _).mono ?_
        rintro e w3 ⟨rfl, hB3⟩
        have HB3 := Lib.hid (HB.out.trans (hB3.mono HB.out.size))
        clear hB3 HB
        go_wp2_with fail
        refine (H8.out _).mono ?_
        rintro e w4 ⟨rfl, hB4⟩
        have HB4 := Lib.hid (HB3.out.trans (hB4.mono HB3.out.size))
        clear hB4 HB3
        go_wp2
        refine ⟨⟨k + 1, A + 1, by simp, hlt, by simp, HA2, HB4.out⟩, ?_⟩
        simp [intOf]
        omega
    · obtain rfl : k = 37 := by omega
      have g1 : decide (37 ≤ 36) = false := by decide
      have g1' : decide (((37 : Nat) : Int) ≤ 36) = false := by decide
      obtain rfl : A = L := by rw [hA.out, ← HL.out]; rfl
      have hcnt := HCNT.out
      have h3' := h3.out
      rw [← hcnt] at h3'
      have H3 := Lib.hid h3'
      have HB := Lib.hid (HB2.out.trans (hB.mono HB2.out.size))
      have h8' := fun W => h8.out c W
      by_cases h00 : A = 0
      · have hr := remap_none m c (by rw [← hcnt]; exact h00)
        simp only [hr] at h8'
        have H8 := Lib.hid h8'
        subst h00
        clear hA hcnt h3' hB h8' hr
        go_wp2_with fail
        refine (H3.out _).mono ?_
        rintro e w' ⟨rfl, rfl⟩
        go_wp2_with fail
        refine (H8.out _).mono ?_
        rintro e w4 ⟨rfl, hB4⟩
        have HB4 := Lib.hid (HB.out.trans (hB4.mono HB.out.size))
        clear hB4 HB
        go_wp2
        go_ret
        exact ⟨rfl, HB4.out⟩
      · have hr := remap_has m c (by rw [← hcnt]; exact h00)
        generalize remapI m c = R at h8' hr
        have hh := fun W => h1.out R W
        simp only [hr] at hh
        have H8 := Lib.hid h8'
        have H1 := Lib.hid hh
        have t5 : ((A : Int) == 0) = false := by simpa using h00
        have t6 : decide (0 < A) = true := by simp; omega
        have t6' : decide ((0 : Int) < (A : Int)) = true := by simp; omega
        clear hA hcnt h3' hB h8' hr hh h00
        go_wp2_with fail
        refine (H3.out _).mono ?_
        rintro e w' ⟨rfl, rfl⟩
        go_wp2_with fail
        refine (H8.out _).mono ?_
        rintro e w4 ⟨rfl, hB4⟩
        have HB4 := Lib.hid (HB.out.trans (hB4.mono HB.out.size))
        clear hB4 HB
        go_wp2_with fail
        refine (H1.out _).mono ?_
        rintro e w' ⟨rfl, rfl⟩
        go_wp2
        go_ret
        exact ⟨rfl, HB4.out⟩
end Go.Proofs.YtoaiiceglfmfcaaDoor
