/- uuid: UuidBack, the plain laws. -/
import Derived.Test.YtolkjijnodejlaaDoorUvA
namespace Go.Proofs.YtolkjijnodejlaaDoor
open Go.RowKit

theorem putB_cons (x n : Nat) : putB x (n + 1) = byt x 0 :: putB (x / 256) n := by
  unfold putB
  rw [List.range_succ_eq_map, List.map_cons, List.map_map]
  refine congrArg _ (List.map_congr_left fun i _ => ?_)
  simp only [Function.comp, byt]
  rw [Nat.div_div_eq_div_mul, Nat.pow_succ, Nat.mul_comm]
theorem putB_vnum : ∀ l : List Nat, (∀ x ∈ l, x < 256) → putB (vnum l) l.length = l
  | [], _ => rfl
  | b :: l, h => by
    have hb := h b (by simp)
    rw [List.length_cons, putB_cons]
    have e1 : vnum (b :: l) / 256 = vnum l := by simp only [vnum]; omega
    have e2 : byt (vnum (b :: l)) 0 = b := by simp only [vnum, byt, Nat.pow_zero, Nat.div_one]; omega
    rw [e1, e2, putB_vnum l fun x hx => h x (List.mem_cons_of_mem _ hx)]
theorem vnum_put8 (x : Nat) (h : x < 18446744073709551616) : vnum (putB x 8) = x := by
  rw [vnum_put]
  exact Nat.mod_eq_of_lt (by omega)
theorem decR_encB (hi lo : Nat) (hh : hi < 18446744073709551616) (hl : lo < 18446744073709551616) : decR (encB hi lo) = (hi, lo, 0) := by
  unfold decR
  rw [encB_len]
  by_cases s : isShort hi lo = true
  · have e := isShort_eq s
    have ev : vnum (encB hi lo) = numV hi := by
      unfold encB
      rw [if_pos s, vnum_put]
      exact Nat.mod_eq_of_lt (by unfold numV; omega)
    rw [if_pos s, if_pos rfl, ev, ← e.1, ← e.2]
  · have e : encB hi lo = putB lo 8 ++ putB hi 8 := by unfold encB; rw [if_neg s]; rfl
    have e1 : (putB lo 8 ++ putB hi 8).drop 8 = putB hi 8 := by
      rw [List.drop_append, List.drop_eq_nil_of_le (by rw [putB_len]; omega), putB_len]; rfl
    have e2 : (putB lo 8 ++ putB hi 8).take 8 = putB lo 8 := by
      rw [List.take_append, List.take_of_length_le (by rw [putB_len]; omega), putB_len]; simp
    rw [if_neg s, if_neg (by decide), if_neg (by decide), if_neg (by decide), e, e1, e2, vnum_put8 _ hh, vnum_put8 _ hl, if_neg s]
theorem encB_two (hi lo : Nat) : ((encB hi lo).length == 2) = isShort hi lo := by
  rw [encB_len]
  cases isShort hi lo <;> rfl
theorem txt_len (hi lo : Nat) : (txt hi lo).length = if isShort hi lo then 4 else 36 := by
  unfold txt
  split
  · rw [hexD_len]
  · unfold dashed
    simp [hexD_len]
theorem txt_four (hi lo : Nat) : ((txt hi lo).length == 4) = isShort hi lo := by
  rw [txt_len]
  cases isShort hi lo <;> rfl
theorem decR_back (bs : List Nat) (h : ∀ x ∈ bs, x < 256) : (decR bs).1 < 18446744073709551616 ∧ (decR bs).2.1 < 18446744073709551616 ∧ ((decR bs).2.2 = 0 → encB (decR bs).1 (decR bs).2.1 = bs) := by
  unfold decR
  have hv := vnum_lt bs h
  by_cases h2 : bs.length = 2
  · rw [if_pos h2]
    rw [h2] at hv
    have hv' : vnum bs < 65536 := hv
    refine ⟨by simp only; omega, by simp only; omega, fun _ => ?_⟩
    simp only
    have s := num_short (vnum bs * 4294967296 + 4096) 9223372588214596859 (vnum bs) rfl rfl hv'
    unfold encB
    rw [if_pos s]
    have e : numV (vnum bs * 4294967296 + 4096) = vnum bs := by unfold numV; omega
    rw [e, ← h2, putB_vnum bs h]
  rw [if_neg h2]
  by_cases h3 : bs.length < 16
  · rw [if_pos h3]
    exact ⟨by decide, by decide, fun e => absurd e (by decide)⟩
  rw [if_neg h3]
  by_cases h4 : 16 < bs.length
  · rw [if_pos h4]
    exact ⟨by decide, by decide, fun e => absurd e (by decide)⟩
  rw [if_neg h4]
  by_cases s : isShort (vnum (bs.drop 8)) (vnum (bs.take 8)) = true
  · rw [if_pos s]
    exact ⟨by decide, by decide, fun e => absurd e (by decide)⟩
  rw [if_neg s]
  have hd : ∀ x ∈ bs.drop 8, x < 256 := fun x hx => h x (List.mem_of_mem_drop hx)
  have ht : ∀ x ∈ bs.take 8, x < 256 := fun x hx => h x (List.mem_of_mem_take hx)
  have ld : (bs.drop 8).length = 8 := by rw [List.length_drop]; omega
  have lt : (bs.take 8).length = 8 := by rw [List.length_take]; omega
  have v1 := vnum_lt _ hd
  have v2 := vnum_lt _ ht
  have p1 := putB_vnum _ hd
  have p2 := putB_vnum _ ht
  rw [ld] at v1 p1
  rw [lt] at v2 p2
  refine ⟨v1, v2, fun _ => ?_⟩
  show encB (vnum (bs.drop 8)) (vnum (bs.take 8)) = bs
  unfold encB
  rw [if_neg s, ← putB_b16, p1, p2, List.take_append_drop]
theorem prs_back (ss : List Nat) : (prs ss).1 < 18446744073709551616 ∧ (prs ss).2.1 < 18446744073709551616 ∧ ((prs ss).2.2 = 0 → txt (prs ss).1 (prs ss).2.1 = ss) := by
  unfold prs
  split
  · next h => exact ⟨h.choose_spec.1, h.choose_spec.2.1, fun _ => h.choose_spec.2.2⟩
  · exact ⟨by decide, by decide, fun e => absurd e (by decide)⟩
end Go.Proofs.YtolkjijnodejlaaDoor
