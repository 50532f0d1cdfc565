/- Walks of assess: Propose. -/
import Derived.Test.YtoaiiceglfmfcaaAssE
import Derived.Test.YtoaiiceglfmfcaaRefB
import Derived.Test.YtoaiiceglfmfcaaPlainD
namespace Go.Proofs.Ytoaiiceglfmfcaa
open Go.RowKit

/-! ### maps and their channels -/
theorem mem_lst (m : Nat) (c : Fin 37) : c ∈ lst m ↔ m.testBit c.val = true := by
  unfold lst lstTo
  rw [List.take_of_length_le (by simp)]
  simp [List.mem_finRange]
theorem lst_filter (m m' : Nat) (p : Fin 37 → Bool) (h : ∀ c : Fin 37, m'.testBit c.val = (m.testBit c.val && p c)) : lst m' = (lst m).filter p := by
  unfold lst lstTo
  rw [List.filter_filter]
  apply List.filter_congr
  intro c _
  rw [h c, Bool.and_comm]
theorem lst_congr (m m' : Nat) (h : ∀ c : Fin 37, m'.testBit c.val = m.testBit c.val) : lst m' = lst m := by
  unfold lst lstTo
  apply List.filter_congr
  intro c _
  rw [h c]
theorem ofN_lstTo (m : Nat) : ∀ k, k ≤ 37 → ofN (nats (lstTo m k)) = m % 2^k
  | 0, _ => by simp [lstTo, nats, ofN, Nat.mod_one]
  | k+1, h => by
    rw [lstTo_succ m k (by omega)]
    have e := ofN_lstTo m k (by omega)
    have hm : m % 2^(k+1) = m % 2^k + 2^k * (m / 2^k % 2) := Nat.mod_pow_succ
    have hb := Nat.testBit_eq_decide_div_mod_eq (x := m) (i := k)
    have h2 : m / 2^k % 2 < 2 := Nat.mod_lt _ (by decide)
    simp only [nats, List.map_append, ofN_append] at e ⊢
    rw [e, hm]
    cases ht : m.testBit k
    · rw [ht] at hb
      have : m / 2^k % 2 = 0 := by simp at hb; omega
      rw [this]; simp [ofN]
    · rw [ht] at hb
      have : m / 2^k % 2 = 1 := by simpa using hb.symm
      rw [this]; simp [ofN]
theorem ofN_lst (m : Nat) (h : m < 137438953472) : ofN (nats (lst m)) = m := by
  have := ofN_lstTo m 37 (Nat.le_refl _)
  unfold lst
  rw [this]
  exact Nat.mod_eq_of_lt h
/-- a map without a channel -/
theorem andNot_bit (m c : Nat) (hc : c < 64) (i : Nat) (hi : i < 64) : (m &&& (18446744073709551615 - 2^c)).testBit i = (m.testBit i && decide (i ≠ c)) := by
  rw [Nat.testBit_and]
  have e : (18446744073709551615 - 2^c).testBit i = decide (i ≠ c) := by
    have h := Nat.testBit_two_pow_sub_succ (n := 64) (x := 2^c) (by exact Nat.pow_lt_pow_right (by decide) hc) i
    rw [show (18446744073709551615 - 2^c : Nat) = 2^64 - (2^c + 1) by omega, h, Nat.testBit_two_pow]
    by_cases hic : c = i <;> simp [hic, hi]
    omega
  rw [e]

/-- what is left when bad channels are taken away, the worst first -/
def propL (l : List (Int × Int)) (ls : Int) : Nat → List (Fin 37) → List (Fin 37)
  | 0, L => L
  | k+1, L => if ls < (L.length : Int) then (match candL l (nats L) with | none => L | some c => propL l ls k (L.filter (fun x => decide (x.val ≠ c)))) else L
def lsI (n : Int) : Int := if n < 2 then 2 else if 37 < n then 37 else n
theorem lsI_bd (n : Int) : 2 ≤ lsI n ∧ lsI n ≤ 37 := by unfold lsI; split; omega; split <;> omega
theorem ls_cases (n : Int) : (n < 2 ∧ lsI n = 2) ∨ (n = 2 ∧ lsI n = 2) ∨ ((2 < n ∧ n < 37) ∧ lsI n = n) ∨ (n = 37 ∧ lsI n = 37) ∨ (37 < n ∧ lsI n = 37) := by
  unfold lsI
  by_cases h1 : n < 2
  · simp [h1]
  · by_cases h2 : 37 < n
    · simp [h1, h2]
    · simp only [if_neg h1, if_neg h2]
      by_cases h3 : n = 2
      · exact .inr (.inl ⟨h3, h3⟩)
      · by_cases h4 : n = 37
        · exact .inr (.inr (.inr (.inl ⟨h4, h4⟩)))
        · refine .inr (.inr (.inl ⟨⟨by omega, by omega⟩, ?_⟩))
          first | rfl | trivial
def propN (l : List (Int × Int)) (m : Nat) (least : Int) : Nat := ofN (nats (propL l (lsI least) 37 (lst m)))
theorem filter_lt (L : List (Fin 37)) (c : Nat) (h : c ∈ nats L) : (L.filter (fun x => decide (x.val ≠ c))).length < L.length := by
  obtain ⟨x, hx, rfl⟩ := List.mem_map.1 h
  have := List.length_filter_lt_length_iff_exists (p := fun y : Fin 37 => decide (y.val ≠ x.val)) (l := L)
  rw [this]
  exact ⟨x, hx, by simp⟩
theorem lst_mod (m : Nat) : lst (m &&& 137438953471) = lst m := by
  apply lst_congr
  intro c
  have e : m &&& 137438953471 = m % 2^37 := Nat.and_two_pow_sub_one_eq_mod m 37
  rw [e, Nat.testBit_mod_two_pow]
  have := c.isLt
  simp

/-- one channel less -/
theorem less_bits (m c : Nat) (hm : m < 137438953472) (hc : c < 37) : bits .andNot .u64 (m : Int) (IntKind.u64.wrap (2 ^ c)) = ((m &&& (18446744073709551615 - 2^c) : Nat) : Int) := by
  have hp : 2^c ≤ 68719476736 := (Nat.pow_le_pow_right (by decide) (by omega) : 2^c ≤ 2^36)
  have t : ((2 : Int) ^ c) = ((2^c : Nat) : Int) := (Int.natCast_pow 2 c).symm
  rw [t]
  generalize 2^c = p at *
  rw [IntWalk.u64_in _ (by omega), u64_andNot_nat _ _ (by omega) (by omega)]
theorem less_lt (m c : Nat) (hm : m < 137438953472) : (m &&& (18446744073709551615 - 2^c)) < 137438953472 := Nat.lt_of_le_of_lt Nat.and_le_left hm
theorem less_lst (m c : Nat) (hc : c < 37) : lst (m &&& (18446744073709551615 - 2^c)) = (lst m).filter (fun x => decide (x.val ≠ c)) :=
  lst_filter _ _ _ fun x => andNot_bit m c (by omega) x.val (by have := x.isLt; omega)

set_option maxHeartbeats 1000000 in
theorem propose_any (v : Value) (l : List (Int × Int)) (hl : l.length ≤ 1000) (m : Nat) (hm : m < 18446744073709551616) (least : Int) (w : World) (h : SR w v l.length 2 (tcells l)) :
    Calls Try.prog 41 #[v, .int .u64 m, .int .i64 least] w fun e w' => e = .returned (.int .u64 (propN l m least)) ∧ Below w.heap.size w w' := by
  obtain ⟨ls, hls⟩ : ∃ ls, lsI least = ls := ⟨_, rfl⟩
  have hlb := lsI_bd least
  have hcase := ls_cases least
  unfold propN
  rw [hls] at hlb hcase ⊢
  clear hls
  have h1 : bits .and .u64 (m : Int) 137438953471 = ((m &&& 137438953471 : Nat) : Int) := and64 rfl rfl (by omega) (by decide)
  have l1 : (m &&& 137438953471) ≤ 137438953471 := Nat.and_le_right
  have hlm := lst_mod m
  obtain ⟨m0, hm0⟩ : ∃ m0, (m &&& 137438953471) = m0 := ⟨_, rfl⟩
  rw [hm0] at h1 l1 hlm
  rw [← hlm]
  have hlen0 : (lst m0).length ≤ 37 := lstTo_len m0 37
  clear hm0 hlm
  obtain ⟨R, hR⟩ : ∃ R, propL l ls 37 (lst m0) = R := ⟨_, rfl⟩
  rw [hR]
  obtain ⟨Gt, hgt1, hgt2⟩ : ∃ Gt : Nat → Prop, (∀ P, Gt P → ls < (P : Int)) ∧ (∀ P, ¬ Gt P → ¬ ls < (P : Int)) := ⟨fun P => ls < (P : Int), fun _ h => h, fun _ h => h⟩
  obtain ⟨G, hG0, hGs, hGn, hGe⟩ : ∃ G : Nat → List (Fin 37) → Prop, G 0 (lst m0) ∧
      (∀ j L c, j < 37 → G j L → Gt L.length → candL l (nats L) = some c → G (j + 1) (L.filter (fun x => decide (x.val ≠ c)))) ∧
      (∀ j L, j < 37 → G j L → Gt L.length → candL l (nats L) = none → L = R) ∧ (∀ j L, j ≤ 37 → G j L → ¬ Gt L.length → L = R) := by
    refine ⟨fun j L => propL l ls (37 - j) L = R, hR, fun j L c hj h h1 h2 => ?_, fun j L hj h h1 h2 => ?_, fun j L hj h h1 => ?_⟩
    · dsimp only at h ⊢
      rw [show 37 - j = (37 - (j + 1)) + 1 by omega, propL, if_pos (hgt1 _ h1), h2] at h
      exact h
    · dsimp only at h
      rw [show 37 - j = (37 - (j + 1)) + 1 by omega, propL, if_pos (hgt1 _ h1), h2] at h
      exact h
    · dsimp only at h
      rcases Nat.lt_or_ge j 37 with hj' | hj'
      · rw [show 37 - j = (37 - (j + 1)) + 1 by omega, propL, if_neg (hgt2 _ h1)] at h
        exact h
      · rw [show 37 - j = 0 by omega] at h
        exact h
  have HGs := Lib.hid hGs
  have HGn := Lib.hid hGn
  have HGe := Lib.hid hGe
  have HSR := Lib.hid h
  have H1 := Lib.hid hgt1
  have H2 := Lib.hid hgt2
  clear hR h hGs hGn hGe hgt1 hgt2
  rcases hcase with ⟨hc, rfl⟩ | ⟨rfl, rfl⟩ | ⟨hc, rfl⟩ | ⟨rfl, rfl⟩ | ⟨hc, rfl⟩
  all_goals
    go_enter Try.func41, Try.ntmps41
    go_wp2_with fail
    go_loopw [1] (fun mv wr => ∃ j m' : Nat, (lst m').length + j ≤ 37 ∧ mv = .int .u64 m' ∧ m' < 137438953472 ∧ G j (lst m') ∧ Below w.heap.size w wr) (fun mv _ => (lst (intOf mv).toNat).length)
    case atStart => exact ⟨0, m0, by omega, rfl, by omega, hG0, Below.refl _ _⟩
    case round =>
      obtain ⟨j, m', hj, rfl, hm', hG, hB⟩ := hrel
      have hcnt := lst_count m'
      obtain ⟨P, hP⟩ : ∃ P, pop m' 37 = P := ⟨_, rfl⟩
      rw [hP] at hcnt
      rw [hcnt] at hj
      have HP := Lib.hid hP
      have HC := Lib.hid hcnt
      have cb := cand_any v l hl m' (by omega) wr (HSR.out.below hB)
      by_cases hgt : Gt P
      · have hgl := H1.out P hgt
        have hgt' : Gt (lst m').length := by rw [hcnt]; exact hgt
        have hj37 : j < 37 := by omega
        have gs := fun c h2 => HGs.out j (lst m') c hj37 hG hgt' h2
        have gn := fun h2 => HGn.out j (lst m') hj37 hG hgt' h2
        have gf := candL_lt l (nats (lst m'))
        obtain ⟨fo, hfo⟩ : ∃ fo, candL l (nats (lst m')) = fo := ⟨_, rfl⟩
        rw [hfo] at gs gn cb gf
        have CB := Lib.hid cb
        have GS := Lib.hid gs
        have GN := Lib.hid gn
        have GF := Lib.hid gf
        clear hP hcnt cb gs gn gf hfo hgt hgt'
        cases fo with
        | none =>
          unfold foI at CB
          have GN2 := Lib.hid (GN.out rfl)
          clear GN GS GF
          go_wp2_with (first
            | (go_at_call 49; refine (count_any _ (by omega) _).mono ?_; rw [HP.out]; rintro e w2 ⟨rfl, rfl⟩)
            | (go_at_call 58; refine CB.out.mono ?_; rintro e w3 ⟨rfl, hB3⟩))
          go_ret
          exact ⟨ret_eq (by rw [← GN2.out, ofN_lst m' hm']), hB.trans (hB3.mono hB.size)⟩
        | some c =>
          obtain ⟨_, hcm, _⟩ := GF.out c rfl
          have hc37 : c < 37 := by
            obtain ⟨x, _, rfl⟩ := List.mem_map.1 hcm
            exact x.isLt
          have hlb := less_bits m' c hm' hc37
          have hll := less_lt m' c hm'
          have hls := less_lst m' c hc37
          have hfl := filter_lt (lst m') c hcm
          have hG' := GS.out c rfl
          rw [← hls] at hG' hfl
          obtain ⟨m2, hm2⟩ : ∃ m2, (m' &&& (18446744073709551615 - 2^c)) = m2 := ⟨_, rfl⟩
          rw [hm2] at hlb hll hG' hfl
          rw [HC.out] at hfl
          unfold foI at CB
          clear hls hm2
          go_wp2_with (first
            | (go_at_call 49; refine (count_any _ (by omega) _).mono ?_; rw [HP.out]; rintro e w2 ⟨rfl, rfl⟩)
            | (go_at_call 58; refine CB.out.mono ?_; rintro e w3 ⟨rfl, hB3⟩))
          all_goals
            go_roundw
            case rel => exact ⟨j + 1, m2, by omega, rfl, hll, hG', hB.trans (hB3.mono hB.size)⟩
            case measure => simp only [intOf, Int.toNat_natCast]; rw [HC.out]; exact hfl
      · have hgl := H2.out P hgt
        have hgt' : ¬ Gt (lst m').length := by rw [hcnt]; exact hgt
        have ge := HGe.out j (lst m') (by omega) hG hgt'
        have GE := Lib.hid ge
        clear hP hcnt cb ge hgt hgt'
        go_wp2_with (first
            | (go_at_call 49; refine (count_any _ (by omega) _).mono ?_; rw [HP.out]; rintro e w2 ⟨rfl, rfl⟩))
        go_ret
        exact ⟨ret_eq (by rw [← GE.out, ofN_lst m' hm']), hB⟩
end Go.Proofs.Ytoaiiceglfmfcaa
