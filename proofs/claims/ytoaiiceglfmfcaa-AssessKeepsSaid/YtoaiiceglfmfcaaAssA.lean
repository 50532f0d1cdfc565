/- Walks of assess: the counts, the rate and the verdict of one tally, and of the reference's. -/
import Derived.Test.YtoaiiceglfmfcaaSl
import Derived.Deep.QuietTactic
import Derived.BigQuiet
import Derived.WalkSmall
import Derived.Deep.RegionHeld3
namespace Go.Proofs.Ytoaiiceglfmfcaa
open Go.RowKit

/-- a count, limited -/
def limI (n : Int) : Int := if n < 0 then 0 else if 65536 < n then 65536 else n
theorem limI_bd (n : Int) : 0 ≤ limI n ∧ limI n ≤ 65536 := by unfold limI; split; omega; split <;> omega
def rateI (g b : Int) : Int := if limI g + limI b = 0 then 0 else limI b * 1000 / (limI g + limI b)
def badI (g b : Int) : Bool := decide (8 ≤ limI g + limI b) && decide (250 ≤ rateI g b)
theorem lim_cases (n : Int) : (n < 0 ∧ limI n = 0) ∨ (n = 0 ∧ limI n = 0) ∨ ((0 < n ∧ n ≤ 65536) ∧ limI n = n) ∨ (65536 < n ∧ limI n = 65536) := by
  unfold limI; split; exact .inl ⟨by assumption, rfl⟩; split; exact .inr (.inr (.inr ⟨by assumption, rfl⟩)); by_cases h : n = 0; exact .inr (.inl ⟨h, h⟩); exact .inr (.inr (.inl ⟨by omega, rfl⟩))

theorem rlim_any (n : Int) (w : World) : Calls Try.prog 57 #[.int .i64 n] w fun e w' => e = .returned (.int .i64 (limI n)) ∧ w = w' := by
  rcases lim_cases n with ⟨h, e⟩ | ⟨h, e⟩ | ⟨h, e⟩ | ⟨h, e⟩
  all_goals
    rw [e]
    clear e
    first | subst h | skip
    go_enter Try.func57, Try.ntmps57
    go_wp2
    go_ret
    exact ⟨rfl, rfl⟩

set_option maxHeartbeats 1000000 in
theorem counts_any (g b : Int) (w : World) : Calls Try.prog 56 #[.agg #[.int .i64 g, .int .i64 b]] w fun e w' => e = .returned (.tuple #[.int .i64 (limI g), .int .i64 (limI b)]) ∧ Below w.heap.size w w' := by
  rcases lim_cases g with ⟨h, e⟩ | ⟨h, e⟩ | ⟨h, e⟩ | ⟨h, e⟩
  all_goals
    rw [e]
    clear e
    first | subst h | skip
    rcases lim_cases b with ⟨h', e⟩ | ⟨h', e⟩ | ⟨h', e⟩ | ⟨h', e⟩
    all_goals
      rw [e]
      clear e
      first | subst h' | skip
      go_enter Try.func56, Try.ntmps56
      go_wp2
      go_quiet (fail)
      go_wp2
      go_ret2
      exact ⟨rfl, below_drewN ((Below.refl _ _).alloc (Nat.le_refl _) _) _⟩

theorem rlim_q (n : Int) (w : World) : Calls Try.prog 57 #[.int .i64 n] w fun e w' => e = .returned (.int .i64 (limI n)) ∧ w' = w :=
  (rlim_any n w).mono fun _ _ h => ⟨h.1, h.2.symm⟩

theorem rate_any (g b : Int) (w : World) : Calls Try.prog 35 #[.agg #[.int .i64 g, .int .i64 b]] w fun e w' => e = .returned (.int .i64 (rateI g b)) ∧ Below w.heap.size w w' := by
  have hg := limI_bd g
  have hb := limI_bd b
  obtain ⟨G, hG⟩ : ∃ G, limI g = G := ⟨_, rfl⟩
  obtain ⟨B, hB⟩ : ∃ B, limI b = B := ⟨_, rfl⟩
  unfold rateI
  rw [hG] at hg ⊢
  rw [hB] at hb ⊢
  have HG := Lib.hid hG
  have HB := Lib.hid hB
  clear hG hB
  by_cases h0 : G + B = 0
  · rw [if_pos h0]
    have h1 : (G + B == 0) = true := by simp [h0]
    clear h0
    go_enter Try.func35, Try.ntmps35
    go_wp2_with (go_at_call 56; refine (counts_any _ _ _).mono ?_; rw [HG.out, HB.out]; rintro e w1 ⟨rfl, hB1⟩)
    go_ret
    exact ⟨rfl, ((Below.refl _ _).alloc (Nat.le_refl _) _).trans (hB1.mono (by simp))⟩
  · rw [if_neg h0]
    have h1 : (G + B == 0) = false := by rw [beq_eq_false_iff_ne]; exact h0
    have h2 : 1 ≤ G + B := by omega
    clear h0
    go_enter Try.func35, Try.ntmps35
    go_wp2_with (go_at_call 56; refine (counts_any _ _ _).mono ?_; rw [HG.out, HB.out]; rintro e w1 ⟨rfl, hB1⟩)
    go_ret
    exact ⟨rfl, ((Below.refl _ _).alloc (Nat.le_refl _) _).trans (hB1.mono (by simp))⟩

theorem rrate_any (g b : Int) (w : World) : Calls Try.prog 36 #[.agg #[.int .i64 g, .int .i64 b]] w fun e w' => e = .returned (.int .i64 (rateI g b)) ∧ Below w.heap.size w w' := by
  have hg := limI_bd g
  have hb := limI_bd b
  have c1 := rlim_q g
  have c2 := rlim_q b
  obtain ⟨G, hG⟩ : ∃ G, limI g = G := ⟨_, rfl⟩
  obtain ⟨B, hB⟩ : ∃ B, limI b = B := ⟨_, rfl⟩
  unfold rateI
  rw [hG] at hg c1 ⊢
  rw [hB] at hb c2 ⊢
  have C1 := Lib.hid c1
  have C2 := Lib.hid c2
  clear hG hB c1 c2
  by_cases h0 : G + B = 0
  · rw [if_pos h0]
    have h1 : (G + B == 0) = true := by simp [h0]
    clear h0
    go_enter Try.func36, Try.ntmps36
    go_wp2
    go_quiet ((go_at_call 57; first | exact Calls.quiet_of_same (C1.out _) | exact Calls.quiet_of_same (C2.out _)))
    go_wp2
    go_ret
    exact ⟨rfl, below_drewN ((Below.refl _ _).alloc (Nat.le_refl _) _) _⟩
  · rw [if_neg h0]
    have h1 : (G + B == 0) = false := by rw [beq_eq_false_iff_ne]; exact h0
    have h2 : 1 ≤ G + B := by omega
    clear h0
    go_enter Try.func36, Try.ntmps36
    go_wp2
    go_quiet ((go_at_call 57; first | exact Calls.quiet_of_same (C1.out _) | exact Calls.quiet_of_same (C2.out _)))
    go_wp2
    go_ret
    exact ⟨rfl, below_drewN ((Below.refl _ _).alloc (Nat.le_refl _) _) _⟩

theorem bad_any (g b : Int) (w : World) : Calls Try.prog 37 #[.agg #[.int .i64 g, .int .i64 b]] w fun e w' => e = .returned (.bool (badI g b)) ∧ Below w.heap.size w w' := by
  have hg := limI_bd g
  have hb := limI_bd b
  have cr := rate_any g b
  obtain ⟨R, hR⟩ : ∃ R, rateI g b = R := ⟨_, rfl⟩
  obtain ⟨G, hG⟩ : ∃ G, limI g = G := ⟨_, rfl⟩
  obtain ⟨B, hB⟩ : ∃ B, limI b = B := ⟨_, rfl⟩
  unfold badI
  rw [hR] at cr ⊢
  rw [hG] at hg ⊢
  rw [hB] at hb ⊢
  have HG := Lib.hid hG
  have HB := Lib.hid hB
  have CR := Lib.hid cr
  clear hG hB cr hR
  by_cases h8 : 8 ≤ G + B
  · have h8' : decide (8 ≤ G + B) = true := by simpa using h8
    go_enter Try.func37, Try.ntmps37
    go_wp2_with (first
      | (go_at_call 56; refine (counts_any _ _ _).mono ?_; rw [HG.out, HB.out]; rintro e w1 ⟨rfl, hB1⟩; obtain ⟨hc1, hf1⟩ := bcell hB1)
      | (go_at_call 35; refine (CR.out _).mono ?_; rintro e w2 ⟨rfl, hB2⟩))
    go_ret
    exact ⟨ret_bool (by simp [h8]), (((Below.refl _ _).alloc (Nat.le_refl _) _).trans (hB1.mono (by simp))).trans (hB2.mono (by have := hB1.size; simp at this; omega))⟩
  · have h8' : decide (8 ≤ G + B) = false := by simpa using h8
    go_enter Try.func37, Try.ntmps37
    go_wp2_with (first
      | (go_at_call 56; refine (counts_any _ _ _).mono ?_; rw [HG.out, HB.out]; rintro e w1 ⟨rfl, hB1⟩; obtain ⟨hc1, hf1⟩ := bcell hB1))
    go_ret
    exact ⟨ret_bool (by simp; omega), ((Below.refl _ _).alloc (Nat.le_refl _) _).trans (hB1.mono (by simp))⟩

theorem rbad_any (g b : Int) (w : World) : Calls Try.prog 38 #[.agg #[.int .i64 g, .int .i64 b]] w fun e w' => e = .returned (.bool (badI g b)) ∧ Below w.heap.size w w' := by
  have hg := limI_bd g
  have hb := limI_bd b
  have cr := rrate_any g b
  have c1 := rlim_any g
  have c2 := rlim_any b
  obtain ⟨R, hR⟩ : ∃ R, rateI g b = R := ⟨_, rfl⟩
  obtain ⟨G, hG⟩ : ∃ G, limI g = G := ⟨_, rfl⟩
  obtain ⟨B, hB⟩ : ∃ B, limI b = B := ⟨_, rfl⟩
  unfold badI
  rw [hR] at cr ⊢
  rw [hG] at hg c1 ⊢
  rw [hB] at hb c2 ⊢
  have C1 := Lib.hid c1
  have C2 := Lib.hid c2
  have CR := Lib.hid cr
  have hgb : IntKind.i64.wrap (G + B) = G + B := IntWalk.i64_in _ (by omega)
  clear hG hB cr hR c1 c2
  by_cases h8 : 8 ≤ G + B
  · have h8' : decide (8 ≤ G + B) = true := by simpa using h8
    go_enter Try.func38, Try.ntmps38
    go_wp2_with fail
    generalize hW : w.alloc (.cells _ 52) = W
    have k0 : W.cell? ⟨w.heap.size, 0, none⟩ = some (.int .i64 g) := by rw [← hW]; exact cellNew _ _ _ _ _ rfl
    have k1 : W.cell? ⟨w.heap.size, 1, none⟩ = some (.int .i64 b) := by rw [← hW]; exact cellNew _ _ _ _ _ rfl
    have hBW : Below w.heap.size w W := by rw [← hW]; exact (Below.refl _ _).alloc (Nat.le_refl _) _
    have hs : w.heap.size < W.heap.size := by rw [← hW]; simp
    clear hW
    go_region_held3 (fun W' => W'.cell? ⟨w.heap.size, 0, none⟩ = some (.int .i64 g) ∧ W'.cell? ⟨w.heap.size, 1, none⟩ = some (.int .i64 b)) (go_keep) (first | (go_at_call 57; first | (refine (C1.out _).mono ?_; rintro e w' ⟨rfl, rfl⟩) | (refine (C2.out _).mono ?_; rintro e w' ⟨rfl, rfl⟩)) | (go_at_call 36; refine (CR.out _).mono ?_; rintro e w2 ⟨rfl, hB2⟩; have k01 := (hB2.cell (p := ⟨w.heap.size, 0, none⟩) (by simpa using hs)).trans k0; have k11 := (hB2.cell (p := ⟨w.heap.size, 1, none⟩) (by simpa using hs)).trans k1))
    go_wp2
    go_ret
    exact ⟨ret_bool (by simp [h8]), (Below.drew hBW).trans (hB2.mono hBW.size)⟩
  · have h8' : decide (8 ≤ G + B) = false := by simpa using h8
    have q1 : ∀ w, Calls Try.prog 57 #[.int .i64 g] w fun e w' => e = .returned (.int .i64 G) ∧ w' = w := fun w => (C1.out w).mono fun _ _ h => ⟨h.1, h.2.symm⟩
    have q2 : ∀ w, Calls Try.prog 57 #[.int .i64 b] w fun e w' => e = .returned (.int .i64 B) ∧ w' = w := fun w => (C2.out w).mono fun _ _ h => ⟨h.1, h.2.symm⟩
    have Q1 := Lib.hid q1
    have Q2 := Lib.hid q2
    clear q1 q2
    go_enter Try.func38, Try.ntmps38
    go_wp2_with fail
    go_quiet ((go_at_call 57; first | exact Calls.quiet_of_same (Q1.out _) | exact Calls.quiet_of_same (Q2.out _)))
    go_wp2
    go_ret
    exact ⟨ret_bool (by simp; omega), below_drewN ((Below.refl _ _).alloc (Nat.le_refl _) _) _⟩
end Go.Proofs.Ytoaiiceglfmfcaa
