/- chanmap: the chapter's examples. -/
import Derived.Test.YtoaiiceglfmfcaaDoorCtK
namespace Go.Proofs.YtoaiiceglfmfcaaDoor
open Go.RowKit

theorem chs_one (l : List (Fin 37)) : ∀ u ∈ chs l, u.oneCell' = true := fun u hu => by
  unfold chs at hu
  obtain ⟨c, _, rfl⟩ := List.mem_map.1 hu
  rfl
theorem sr_lst {w : World} {base m : Nat} {v : Value} (h : w.ownsRow base 3 1 v (lst m).length (chs (lst m))) : SR w v (lst m).length 1 (chs (lst m)) := by
  have : (lst m).length ≤ 37 := lstTo_len m 37
  exact SR.of_own h (chs_one _) (by unfold maxLen; omega)
set_option linter.unusedSimpArgs false in
set_option linter.unusedVariables false in
set_option maxRecDepth 100000 in
set_option maxHeartbeats 1000000 in
theorem sameInts_any (l : List (Fin 37)) (n : Nat) (hn : l.length = n) (hm : n ≤ 1000) (v1 v2 : Value) (w : World) (h1 : SR w v1 n 1 (chs l)) (h2 : SR w v2 n 1 (chs l)) :
    Calls Tryd.prog 18 #[v1, v2] w fun e w' => e = .returned (.bool true) ∧ Below w.heap.size w w' := by
  obtain ⟨_, _, _, a1, c1, rfl, _, hc1⟩ := h1
  obtain ⟨_, _, _, a2, c2, rfl, _, hc2⟩ := h2
  have HC1 := Lib.hid hc1
  have HC2 := Lib.hid hc2
  have HN := Lib.hid hn
  clear hc1 hc2 hn
  go_enter Tryd.func18, Tryd.ntmps18
  go_wp2
  go_loopw [5] (fun i wr => ∃ k : Nat, i = .int .i64 k ∧ k ≤ n ∧ Below w.heap.size w wr) (fun i _ => n - (intOf i).toNat)
  case atStart => exact ⟨0, by simp, Nat.zero_le _, Below.refl _ _⟩
  case round =>
    obtain ⟨k, rfl, hk, hB⟩ := hrel
    have w1 : IntKind.i64.wrap ((k : Int) + 1) = (k : Int) + 1 := IntWalk.i64_in _ (by omega)
    by_cases hlt : k < n
    · have g1 : decide (k < n) = true := by simpa using hlt
      have hkl : k < l.length := by rw [HN.out]; exact hlt
      obtain ⟨b1, o1, rfl, hb1, q1⟩ := HC1.out (by omega)
      obtain ⟨b2, o2, rfl, hb2, q2⟩ := HC2.out (by omega)
      have p1 := (hB.cell (p := ⟨b1, o1 + k, none⟩) hb1).trans (q1 k (.int .i64 (l[k].val : Int)) (by simp [chs, List.getElem?_eq_getElem hkl]))
      have p2 := (hB.cell (p := ⟨b2, o2 + k, none⟩) hb2).trans (q2 k (.int .i64 (l[k].val : Int)) (by simp [chs, List.getElem?_eq_getElem hkl]))
      have g2 : ((k : Int) < (n : Int)) := by omega
      clear q1 q2
      generalize l[k].val = x at p1 p2
      go_wp2
      go_quiet (fail)
      go_wp2
      refine ⟨⟨k + 1, by simp, hlt, below_drewN hB _⟩, ?_⟩
      simp [intOf]
      omega
    · have g1 : decide (k < n) = false := by simpa using hlt
      obtain rfl : k = n := by omega
      go_wp2
      go_ret
      exact ⟨rfl, hB⟩

theorem ex_c33 : chk 33 = 0 := by decide +kernel
theorem ex_c1 : chk 1 = 1 := by decide +kernel
theorem ex_h5 : hasI 33 5 = true := by decide +kernel
theorem ex_h6 : hasI 33 6 = false := by decide +kernel
theorem ex_pop : pop 33 37 = 2 := by decide +kernel
theorem ex_lst : lst 33 = [⟨0, by decide⟩, ⟨5, by decide⟩] := by decide +kernel
theorem ex_n1 : nthI 33 1 = 5 := by decide +kernel
theorem ex_n2 : nthI 33 2 = -1 := by decide +kernel
theorem ex_r7 : remapI 33 7 = 5 := by decide +kernel
theorem ex_f11 : freq 11 = 2428 := by decide +kernel
theorem ex_enc : encI 33 = [33, 0, 0, 0, 0] := by decide +kernel
theorem ex_dec : decI [33, 0, 0, 0, 0] = (33, 0) := by decide +kernel
theorem ex_tx : tx 33 = [48, 44, 53] := by decide +kernel
theorem ex_prs : prsC [48, 45, 49] = (3, 0) := by decide +kernel
theorem ex_check33 (W : World) : Calls Tryd.prog 12 #[.int .u64 33] W fun e w' => e = .returned (.int .i64 0) ∧ W = w' := by
  have := check_any 33 (by decide) W
  rwa [ex_c33] at this
theorem ex_check1 (W : World) : Calls Tryd.prog 12 #[.int .u64 1] W fun e w' => e = .returned (.int .i64 1) ∧ W = w' := by
  have := check_any 1 (by decide) W
  rwa [ex_c1] at this
theorem ex_has5 (W : World) : Calls Tryd.prog 14 #[.int .u64 33, .int .i64 5] W fun e w' => e = .returned (.bool true) ∧ W = w' := by
  have := has_any 33 (by decide) 5 W
  rwa [ex_h5] at this
theorem ex_has6 (W : World) : Calls Tryd.prog 14 #[.int .u64 33, .int .i64 6] W fun e w' => e = .returned (.bool false) ∧ W = w' := by
  have := has_any 33 (by decide) 6 W
  rwa [ex_h6] at this
theorem ex_count (W : World) : Calls Tryd.prog 16 #[.int .u64 33] W fun e w' => e = .returned (.int .i64 2) ∧ W = w' := by
  have := count_any 33 (by decide) W
  rwa [ex_pop] at this
theorem ex_list (W : World) : Calls Tryd.prog 19 #[.int .u64 33] W fun e w' => ∃ v, e = .returned v ∧ SR w' v 2 1 (chs [⟨0, by decide⟩, ⟨5, by decide⟩]) ∧ Below W.heap.size W w' := by
  refine (list_any 33 (by decide) W).mono ?_
  rintro e w' ⟨v, rfl, ho, hB⟩
  have := sr_lst ho
  rw [ex_lst] at this
  exact ⟨v, rfl, this, hB⟩
theorem ex_nth1 (W : World) : Calls Tryd.prog 21 #[.int .u64 33, .int .i64 1] W fun e w' => e = .returned (.int .i64 5) ∧ Below W.heap.size W w' := by
  have := nth_any 33 (by decide) 1 W
  rwa [ex_n1] at this
theorem ex_nth2 (W : World) : Calls Tryd.prog 21 #[.int .u64 33, .int .i64 2] W fun e w' => e = .returned (.int .i64 (-1)) ∧ Below W.heap.size W w' := by
  have := nth_any 33 (by decide) 2 W
  rwa [ex_n2] at this
theorem ex_remap (W : World) : Calls Tryd.prog 23 #[.int .u64 33, .int .i64 7] W fun e w' => e = .returned (.int .i64 5) ∧ Below W.heap.size W w' := by
  have := remap_any 33 (by decide) 7 W
  rwa [ex_r7] at this
theorem ex_freq (W : World) : Calls Tryd.prog 25 #[.int .i64 11] W fun e w' => e = .returned (.int .i64 2428) ∧ W = w' := by
  have := freq_any 11 W
  rwa [ex_f11] at this
theorem ex_encode (W : World) : Calls Tryd.prog 27 #[.int .u64 33] W fun e w' => ∃ v, e = .returned (.tuple #[v, .int .i64 0]) ∧ BytesC w' v [33, 0, 0, 0, 0] ∧ Below W.heap.size W w' := by
  have := encode_any 33 (by decide) W
  rwa [ex_c33, ex_enc] at this
theorem ex_decode (v : Value) (W : World) (h : BytesC W v [33, 0, 0, 0, 0]) : Calls Tryd.prog 29 #[v] W fun e w' => e = .returned (.tuple #[.int .u64 33, .int .i64 0]) ∧ Below W.heap.size W w' := by
  have := decode_any v _ W h (by decide)
  rwa [ex_dec] at this
theorem ex_text (W : World) : Calls Tryd.prog 34 #[.int .u64 33] W fun e w' => e = .returned (.string { data := #[48, 44, 53] }) ∧ Below W.heap.size W w' := by
  have := text_any 33 (by decide) W
  rw [ex_tx] at this
  exact this
theorem ex_parse (M0 : Int) (W : World) (hE : EVar W) (hc : W.cell? ⟨0, 0, none⟩ = some (.int .i64 M0)) : Calls Tryd.prog 32 #[.string { data := #[48, 45, 49] }] W fun e w' => e = .returned (.tuple #[.int .u64 3, .int .i64 0]) ∧ Below W.heap.size W w' := by
  have := parse_any [48, 45, 49] (by decide) (by decide) M0 W hE hc
  rw [ex_prs] at this
  exact this
theorem bytes5 (W : World) (cap : Nat) (hcap : 5 ≤ cap) : BytesC (W.alloc (.cells #[.int .u8 33, .int .u8 0, .int .u8 0, .int .u8 0, .int .u8 0] 5)) (.slice (some ⟨W.heap.size, 0, none⟩) 5 cap) [33, 0, 0, 0, 0] :=
  ⟨bytesAt_of_blk (Blk.new W 5 [.int .u8 33, .int .u8 0, .int .u8 0, .int .u8 0, .int .u8 0]) rfl (by decide) (by decide), _, _, rfl, hcap⟩
set_option linter.unusedSimpArgs false in
set_option linter.unusedVariables false in
set_option maxRecDepth 100000 in
set_option maxHeartbeats 4000000 in
theorem lives_any (M0 : Int) (w : World) (hE : EVar w) (hc : w.cell? ⟨0, 0, none⟩ = some (.int .i64 M0)) :
    Calls Tryd.prog 11 #[] w fun e w' => e = .returned (.bool true) ∧ Below w.heap.size w w' := by
  have HE := Lib.hid hE
  have HC := Lib.hid hc
  clear hE hc
  go_enter Tryd.func11, Tryd.ntmps11
  go_wp2_with fail
  refine (ex_encode _).mono ?_
  rintro e w1 ⟨ve, rfl, hve, hB1⟩
  have HVE := Lib.hid hve
  have HB1 := Lib.hid hB1
  clear hve hB1
  go_wp2_with fail
  refine (ex_decode _ _ (bytes5 w1 5 (Nat.le_refl _))).mono ?_
  rintro e w2 ⟨rfl, hB2⟩
  have hb2 : Below w1.heap.size w1 w2 := ((Below.refl w1.heap.size w1).alloc (Nat.le_refl _) _).trans (hB2.mono (by simp))
  have HB2 := Lib.hid (HB1.out.trans (hb2.mono HB1.out.size))
  have HVE2 := Lib.hid (HVE.out.below hb2)
  have hE2 := HE.out.below HB2.out
  have hc2 := kc HC.out HB2.out
  have hp := ex_parse M0 w2 hE2 hc2
  have HP := Lib.hid hp
  clear hB2 hb2 hE2 hc2 hp HB1 HVE
  go_wp2_with fail
  refine HP.out.mono ?_
  rintro e w3 ⟨rfl, hB3⟩
  have HB3 := Lib.hid (HB2.out.trans (hB3.mono HB2.out.size))
  have HVE3 := Lib.hid (HVE2.out.below hB3)
  clear hB3 HB2 HVE2 HP
  have t1 : ((1 : Int) == 1) = true := rfl
  go_wp2_with fail
  refine (ex_check33 _).mono ?_
  rintro e w' ⟨rfl, rfl⟩
  go_wp2_with fail
  refine (ex_check1 _).mono ?_
  rintro e w' ⟨rfl, rfl⟩
  go_wp2_with fail
  refine (ex_has5 _).mono ?_
  rintro e w' ⟨rfl, rfl⟩
  go_wp2_with fail
  refine (ex_has6 _).mono ?_
  rintro e w' ⟨rfl, rfl⟩
  go_wp2_with fail
  refine (ex_count _).mono ?_
  rintro e w' ⟨rfl, rfl⟩
  go_wp2_with fail
  refine (ex_list _).mono ?_
  rintro e w4 ⟨vl, rfl, hvl, hB4⟩
  have HB4 := Lib.hid (HB3.out.trans (hB4.mono HB3.out.size))
  have HVE4 := Lib.hid (HVE3.out.below hB4)
  have hal : Below w4.heap.size w4 (w4.alloc (.cells #[.int .i64 0, .int .i64 5] 3)) := (Below.refl _ _).alloc (Nat.le_refl _) _
  have bL := Blk.new w4 3 [.int .i64 0, .int .i64 5]
  have hsi := fun cap => sameInts_any [⟨0, by decide⟩, ⟨5, by decide⟩] 2 rfl (by decide) vl (.slice (some ⟨w4.heap.size, 0, none⟩) 2 cap) (w4.alloc (.cells #[.int .i64 0, .int .i64 5] 3)) (hvl.below hal) ⟨by unfold maxLen; simp, by simp [chs], chs_one _, some ⟨w4.heap.size, 0, none⟩, cap, rfl, fun h => (by cases h), fun _ => ⟨w4.heap.size, 0, rfl, bL.lt, fun j u hj => by rw [Nat.zero_add]; exact bL.cell hj⟩⟩
  have HSI := Lib.hid hsi
  have HAL := Lib.hid hal
  clear hB4 hvl hal bL hsi HB3 HVE3
  go_wp2_with fail
  refine (HSI.out _).mono ?_
  rintro e w5 ⟨rfl, hB5⟩
  have hb5 : Below w4.heap.size w4 w5 := HAL.out.trans (hB5.mono (by simp))
  have HB5 := Lib.hid (HB4.out.trans (hb5.mono HB4.out.size))
  have HVE5 := Lib.hid (HVE4.out.below hb5)
  clear hB5 hb5 HB4 HVE4 HSI HAL
  go_wp2_with fail
  refine (ex_nth1 _).mono ?_
  rintro e w6 ⟨rfl, hB6⟩
  have HB6 := Lib.hid (HB5.out.trans (hB6.mono HB5.out.size))
  have HVE6 := Lib.hid (HVE5.out.below hB6)
  clear hB6 HB5 HVE5
  go_wp2_with fail
  refine (ex_nth2 _).mono ?_
  rintro e w7 ⟨rfl, hB7⟩
  have HB7 := Lib.hid (HB6.out.trans (hB7.mono HB6.out.size))
  have HVE7 := Lib.hid (HVE6.out.below hB7)
  clear hB7 HB6 HVE6
  go_wp2_with fail
  refine (ex_remap _).mono ?_
  rintro e w8 ⟨rfl, hB8⟩
  have HB8 := Lib.hid (HB7.out.trans (hB8.mono HB7.out.size))
  have HVE8 := Lib.hid (HVE7.out.below hB8)
  clear hB8 HB7 HVE7
  go_wp2_with fail
  refine (ex_freq _).mono ?_
  rintro e w' ⟨rfl, rfl⟩
  have hs5 := same_any ve (.slice (some ⟨w8.heap.size, 0, none⟩) 5 5) _ _ (w8.alloc (.cells #[.int .u8 33, .int .u8 0, .int .u8 0, .int .u8 0, .int .u8 0] 5)) (HVE8.out.1.below ((Below.refl _ _).alloc (Nat.le_refl _) _)) (bytes5 w8 5 (Nat.le_refl _)).1
  simp only [decide_true] at hs5
  have HS5 := Lib.hid hs5
  clear hs5
  go_wp2_with fail
  refine HS5.out.mono ?_
  rintro e w' ⟨rfl, rfl⟩
  have HB9 := Lib.hid (HB8.out.alloc HB8.out.size (.cells #[.int .u8 33, .int .u8 0, .int .u8 0, .int .u8 0, .int .u8 0] 5))
  clear HB8 HS5 HVE8
  go_wp2_with fail
  refine (ex_text _).mono ?_
  rintro e wA ⟨rfl, hBA⟩
  have HBA := Lib.hid (HB9.out.trans (hBA.mono HB9.out.size))
  clear hBA HB9
  go_wp2
  go_ret
  exact ⟨rfl, HBA.out⟩
end Go.Proofs.YtoaiiceglfmfcaaDoor
