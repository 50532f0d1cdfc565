/- attpdu: the decoder's limits. -/
import Derived.Test.YthnffdlnhfhabaaAuS
import Derived.Test.YthnffdlnhfhabaaAuQ
namespace Go.Proofs.Ythnffdlnhfhabaa
open Go.RowKit

theorem st2_err (ki : Int) (s : Nm) (c : Nat) (b : List Nat) (h : (st2 ki s c b).1 ≠ 0) : (st2 ki s c b).2 = pd0 := by
  unfold st2 at h ⊢
  by_cases h1 : remE ki c b ≠ 0
  · rw [if_pos h1]
  · rw [if_neg h1] at h ⊢
    by_cases h2 : chkD (pdOf ki s c b) ≠ 0
    · rw [if_pos h2]
    · rw [if_neg h2] at h
      exact absurd rfl h
/-- an error has no PDU -/
theorem decP_err (b : List Nat) (h : (decP b).1 ≠ 0) : (decP b).2 = pd0 := by
  cases b with
  | nil => rfl
  | cons x r =>
    simp only [decP] at h ⊢
    cases hk : fldC (x : Int) with
    | none => rfl
    | some u =>
      rw [hk] at h
      simp only at h ⊢
      by_cases hl : 517 < r.length + 1
      · rw [if_pos hl]
      · rw [if_neg hl] at h ⊢
        unfold st1 at h ⊢
        by_cases h1 : (lps u nm0 r).1 ≠ 0
        · rw [if_pos h1]
        · rw [if_neg h1] at h ⊢
          exact st2_err _ _ _ _ h
theorem setN_bd (s : Nm) (i x : Nat) (hx : x < 65536) (h : s.ha < 65536 ∧ s.la < 65536) : (setN s i x).ha < 65536 ∧ (setN s i x).la < 65536 := by
  unfold setN
  split
  · exact h
  · split
    · exact ⟨hx, h.2⟩
    · split
      · exact ⟨h.1, hx⟩
      · split
        · exact h
        · split
          · exact h
          · split
            · exact h
            · exact h
theorem vnum_si (b : List Nat) (i : Nat) (hi : i < 7) (hb : ∀ x ∈ b, x < 256) : vnum (b.take (si i)) < 65536 := by
  have h := vnum_lt (b.take (si i)) fun x hx => hb x (List.mem_of_mem_take hx)
  have hl : (b.take (si i)).length ≤ 2 := by rw [List.length_take]; rcases si_two i hi with e | e <;> omega
  have : 256 ^ (b.take (si i)).length ≤ 256 ^ 2 := Nat.pow_le_pow_right (by decide) hl
  omega
/-- what is read of numbers -/
theorem lps_bd : ∀ (u : List Nat) (s : Nm) (b : List Nat), (∀ x ∈ b, x < 256) → s.ha < 65536 ∧ s.la < 65536 → ((lps u s b).2.1.ha < 65536 ∧ (lps u s b).2.1.la < 65536) ∧ (lps u s b).2.2.2.length ≤ b.length ∧ ∀ x ∈ (lps u s b).2.2.2, x < 256
  | [], s, b, hb, h => ⟨h, Nat.le_refl _, hb⟩
  | c :: u, s, b, hb, h => by
    rw [lps]
    by_cases hc : ix c < 7
    · rw [if_pos hc]
      by_cases h1 : b.length < si (ix c)
      · rw [if_pos h1]; exact ⟨h, Nat.le_refl _, hb⟩
      · rw [if_neg h1]
        by_cases h2 : ix c = 6 ∧ 1 < vnum (b.take (si (ix c))) ∧ b.length = 1
        · rw [if_pos h2]; exact ⟨h, Nat.le_refl _, hb⟩
        · rw [if_neg h2]
          obtain ⟨q1, q2, q3⟩ := lps_bd u (setN s (ix c) (vnum (b.take (si (ix c))))) (b.drop (si (ix c))) (fun x hx => hb x (List.mem_of_mem_drop hx)) (setN_bd _ _ _ (vnum_si b _ hc hb) h)
          exact ⟨q1, by rw [List.length_drop] at q2; omega, q3⟩
    · rw [if_neg hc]; exact ⟨h, Nat.le_refl _, hb⟩
theorem lsL_count (k : Int) (b : List Nat) : (lsL k b).length ≤ b.length := by
  cases b with
  | nil => exact Nat.le_refl _
  | cons x r =>
    rw [lsL]
    cases hN : lsN k x with
    | none => simp
    | some s =>
      simp only
      split
      · simp
      · rw [List.length_map, List.length_range, List.length_cons]
        have := Nat.div_le_self r.length s
        omega
/-- what is known of a PDU that was decoded -/
theorem decP_lim (b : List Nat) (hb : ∀ x ∈ b, x < 256) (P : Pd) (h : decP b = (0, P)) : P.s.ha < 65536 ∧ P.s.la < 65536 ∧ P.hi < 18446744073709551616 ∧ P.lo < 18446744073709551616 ∧ P.its.length ≤ b.length ∧ P.bs.length ≤ b.length ∧ ∀ d ∈ P.its, d.bs.length ≤ b.length := by
  cases b with
  | nil => cases h
  | cons x r =>
    have hr : ∀ y ∈ r, y < 256 := fun y hy => hb y (by simp [hy])
    simp only [decP] at h
    cases hk : fldC (x : Int) with
    | none => rw [hk] at h; cases h
    | some u =>
      rw [hk] at h
      simp only at h
      by_cases hl : 517 < r.length + 1
      · rw [if_pos hl] at h; cases h
      · rw [if_neg hl] at h
        obtain ⟨h1, h2⟩ := st1_inv _ _ _ h
        obtain ⟨_, _, rfl⟩ := st2_inv _ _ _ _ _ h2
        obtain ⟨⟨q1, q2⟩, q3, q4⟩ := lps_bd u nm0 r hr (by decide)
        have qd := decR_lt _ q4
        unfold pdOf
        refine ⟨q1, q2, ?_, ?_, ?_, ?_, ?_⟩
        · simp only; split
          · exact qd.1
          · decide
        · simp only; split
          · exact qd.2
          · decide
        · simp only; split
          · have := lsL_count x (lps u nm0 r).2.2.2
            rw [List.length_cons]; omega
          · exact Nat.zero_le _
        · simp only; split
          · rw [List.length_cons]; omega
          · exact Nat.zero_le _
        · simp only
          intro d hd
          split at hd
          · have := lsL_len x (lps u nm0 r).2.2.2 d hd
            rw [List.length_cons]; omega
          · cases hd
end Go.Proofs.Ythnffdlnhfhabaa
