/- attpdu: bytes that are decoded are those of the PDU. -/
import Derived.Test.YthnffdlnhfhabaaAuP
import Derived.Test.YthnffdlnhfhabaaAuA
namespace Go.Proofs.Ythnffdlnhfhabaa
open Go.RowKit

theorem putB_take (b : List Nat) (k : Nat) (hb : ∀ x ∈ b, x < 256) (h : k ≤ b.length) : putB (vnum (b.take k)) k = b.take k := by
  have := putB_vnum (b.take k) fun x hx => hb x (List.mem_of_mem_take hx)
  rwa [List.length_take, Nat.min_eq_left h] at this
/-- a number that was read -/
theorem lps_inv (c : Nat) (u : List Nat) (s : Nm) (b : List Nat) (k : Nat) (hb : ∀ x ∈ b, x < 256) (hc : ix c < 7) (hk : si (ix c) = k) (h : (lps (c :: u) s b).1 = 0) :
    ∃ (v : Nat) (b' : List Nat), b = putB v k ++ b' ∧ lps (c :: u) s b = lps u (setN s (ix c) v) b' ∧ (ix c = 6 → b.length = 1 → v ≤ 1) ∧ (∀ x ∈ b', x < 256) := by
  rw [lps, if_pos hc, hk] at h ⊢
  by_cases h1 : b.length < k
  · rw [if_pos h1] at h
    cases h
  · rw [if_neg h1] at h ⊢
    by_cases h2 : ix c = 6 ∧ 1 < vnum (b.take k) ∧ b.length = 1
    · rw [if_pos h2] at h
      cases h
    · rw [if_neg h2]
      refine ⟨vnum (b.take k), b.drop k, ?_, rfl, fun e1 e2 => ?_, fun x hx => hb x (List.mem_of_mem_drop hx)⟩
      · rw [putB_take b k hb (by omega), List.take_append_drop]
      · apply Decidable.byContradiction
        intro h3
        exact h2 ⟨e1, by omega, e2⟩
theorem chn_flat (s : Nat) : ∀ (N : Nat) (r : List Nat), r.length = N * s → ((List.range N).map (chn s r)).flatten = r
  | 0, r, h => by
    have : r = [] := List.eq_nil_of_length_eq_zero (by omega)
    subst this
    rfl
  | N+1, r, h => by
    have e : (List.range (N + 1)).map (chn s r) = r.take s :: (List.range N).map (chn s (r.drop s)) := by
      rw [List.range_succ_eq_map, List.map_cons, List.map_map]
      refine congr (congrArg _ ?_) (List.map_congr_left fun j _ => ?_)
      · unfold chn
        rw [Nat.zero_mul, List.drop_zero]
      · show (r.drop ((j + 1) * s)).take s = ((r.drop s).drop (j * s)).take s
        rw [List.drop_drop, Nat.add_mul, Nat.one_mul, Nat.add_comm]
    rw [e, List.flatten_cons, chn_flat s N (r.drop s) (by rw [List.length_drop, h, Nat.add_mul]; omega), List.take_append_drop]
theorem lsN_lo (k : Int) (x s : Nat) (h : lsN k x = some s) : 2 ≤ s ∧ (k = 17 → 4 ≤ s) := by
  unfold lsN at h
  split at h
  · rename_i h5
    split at h
    · cases h; exact ⟨by omega, fun _ => by omega⟩
    · split at h
      · cases h; exact ⟨by omega, fun _ => by omega⟩
      · cases h
  · split at h
    · rename_i h9
      split at h
      · cases h
      · cases h; exact ⟨by omega, fun e => by omega⟩
    · split at h
      · cases h
      · cases h; exact ⟨by omega, fun e => by omega⟩
/-- bytes of a list that are read are those of the list -/
theorem list_uniq (k : Int) (hk : k = 5 ∨ k = 9 ∨ k = 17) (b : List Nat) (hb : ∀ x ∈ b, x < 256) (h : lsE k b = 0) : elB k ((lsL k b).map itOf) = b := by
  cases b with
  | nil => cases h
  | cons x r =>
    have hx := hb x (by simp)
    have hr : ∀ y ∈ r, y < 256 := fun y hy => hb y (by simp [hy])
    rw [lsE] at h
    rw [lsL]
    cases hN : lsN k x with
    | none => rw [hN] at h; cases h
    | some s =>
      rw [hN] at h
      simp only at h ⊢
      obtain ⟨hs2, hs4⟩ := lsN_lo k x s hN
      by_cases hc : r = [] ∨ r.length % s ≠ 0
      · rw [if_pos hc] at h; cases h
      · rw [if_neg hc] at h ⊢
        have hne : r ≠ [] := fun e => hc (.inl e)
        have hmod : r.length % s = 0 := Decidable.byContradiction fun e => hc (.inr e)
        have her := erL_of k s r _ 0 h
        obtain ⟨N, hNN⟩ : ∃ N, r.length / s = N := ⟨_, rfl⟩
        have hlen : r.length = N * s := by
          have := Nat.div_add_mod r.length s
          rw [hmod, hNN, Nat.mul_comm] at this
          omega
        rw [hNN] at her ⊢
        have hcl : ∀ j, j < N → (chn s r j).length = s := fun j hj => chn_len s r j (by
          have : (j + 1) * s ≤ N * s := Nat.mul_le_mul_right s hj
          rw [Nat.add_mul, Nat.one_mul] at this
          omega)
        have hcb : ∀ j, ∀ y ∈ chn s r j, y < 256 := fun j y hy => hr y (by
          unfold chn at hy
          exact List.mem_of_mem_drop (List.mem_of_mem_take hy))
        have hit : ∀ j, j < N → itB k (itOf (dtD k (chn s r j))) = chn s r j := fun j hj =>
          (itB_dtD k hk _ (hcb j) (by rw [hcl j hj]; exact hs2) (fun e => by rw [hcl j hj]; exact hs4 e) (her j (by omega) (by omega))).1
        have hN0 : 0 < N := by
          rcases Nat.eq_zero_or_pos N with e | e
          · subst e
            rw [Nat.zero_mul] at hlen
            exact absurd (List.eq_nil_of_length_eq_zero hlen) hne
          · exact e
        have hfl : ((List.range N).map fun j => dtD k (chn s r j)).map itOf = (List.range N).map fun j => itOf (dtD k (chn s r j)) := by rw [List.map_map]; rfl
        rw [hfl]
        have hmapit : ((List.range N).map fun j => itOf (dtD k (chn s r j))).flatMap (itB k) = r := by
          rw [List.flatMap_def, List.map_map]
          have : (List.range N).map (itB k ∘ fun j => itOf (dtD k (chn s r j))) = (List.range N).map (chn s r) := List.map_congr_left fun j hj => hit j (List.mem_range.1 hj)
          rw [this]
          exact chn_flat s N r hlen
        obtain ⟨M, rfl⟩ : ∃ M, N = M + 1 := ⟨N - 1, by omega⟩
        have hcons : (List.range (M + 1)).map (fun j => itOf (dtD k (chn s r j))) = itOf (dtD k (chn s r 0)) :: ((List.range M).map fun j => itOf (dtD k (chn s r (j + 1)))) := by
          rw [List.range_succ_eq_map, List.map_cons, List.map_map]
          rfl
        have hsz : sizeI k (itOf (dtD k (chn s r 0))).hi (itOf (dtD k (chn s r 0))).lo (itOf (dtD k (chn s r 0))).n = s := by
          rw [← itB_len k _ rfl, hit 0 hN0, hcl 0 hN0]
        have hel : byt (elN k (itOf (dtD k (chn s r 0)))) 0 = x := by
          unfold elN
          rw [hsz]
          unfold lsN at hN
          rcases hk with rfl | rfl | rfl
          · rw [if_pos rfl] at hN ⊢
            split at hN
            · cases hN; subst_vars; rfl
            · split at hN
              · cases hN; subst_vars; rfl
              · cases hN
          · simp only [show ((9 : Int) = 5) = False by decide, if_false, if_true] at hN ⊢
            split at hN
            · cases hN
            · cases hN; exact byt0_lt x hx
          · simp only [show ((17 : Int) = 5) = False by decide, show ((17 : Int) = 9) = False by decide, if_false] at hN ⊢
            split at hN
            · cases hN
            · cases hN; exact byt0_lt x hx
        rw [hcons] at hmapit ⊢
        rw [elB, hmapit, hel]
theorem lps_rest' (c : Nat) (s : Nm) (b : List Nat) (hc : ¬ ix c < 7) : lps [c] s b = (0, s, c, b) := by rw [lps, if_neg hc]
theorem st2_inv (ki : Int) (s : Nm) (c : Nat) (b : List Nat) (P : Pd) (h : st2 ki s c b = (0, P)) : remE ki c b = 0 ∧ chkD P = 0 ∧ P = pdOf ki s c b := by
  unfold st2 at h
  by_cases h1 : remE ki c b ≠ 0
  · rw [if_pos h1] at h
    exact absurd (congrArg Prod.fst h) h1
  · rw [if_neg h1] at h
    by_cases h2 : chkD (pdOf ki s c b) ≠ 0
    · rw [if_pos h2] at h
      exact absurd (congrArg Prod.fst h) h2
    · rw [if_neg h2] at h
      obtain rfl : pdOf ki s c b = P := congrArg Prod.snd h
      exact ⟨Decidable.byContradiction h1, Decidable.byContradiction h2, rfl⟩
theorem st1_inv (ki : Int) (q : Int × Nm × Nat × List Nat) (P : Pd) (h : st1 ki q = (0, P)) : q.1 = 0 ∧ st2 ki q.2.1 q.2.2.1 q.2.2.2 = (0, P) := by
  unfold st1 at h
  by_cases h1 : q.1 ≠ 0
  · rw [if_pos h1] at h
    exact absurd (congrArg Prod.fst h) h1
  · rw [if_neg h1] at h
    exact ⟨Decidable.byContradiction h1, h⟩
theorem unl_nil (b : List Nat) (h : unlessI (decide (b.length = 0)) 2 = 0) : b = [] := by
  cases b with
  | nil => rfl
  | cons x l => simp [unlessI] at h
set_option linter.unusedSimpArgs false in
theorem uniq_AHC (ki : Int) (r : List Nat) (hr : ∀ x ∈ r, x < 256) (P : Pd) (h : st1 ki (lps [65, 72, 67] nm0 r) = (0, P)) : chkD P = 0 ∧ P.ki = ki ∧ flB ki P.s.ak P.s.ha P.s.la P.hi P.lo P.s.of P.s.mt P.s.co P.s.cm P.bs (P.its.map itOf) [65, 72, 67] = r := by
  obtain ⟨h1, h2⟩ := st1_inv _ _ _ h
  obtain ⟨v0, r0, e0, q0, x0, b0⟩ := lps_inv 65 _ _ r 1 hr (by decide) rfl h1
  rw [q0] at h1 h2
  obtain ⟨v1, r1, e1, q1, x1, b1⟩ := lps_inv 72 _ _ r0 2 b0 (by decide) rfl h1
  rw [q1] at h1 h2
  obtain ⟨v2, r2, e2, q2, x2, b2⟩ := lps_inv 67 _ _ r1 1 b1 (by decide) rfl h1
  rw [q2] at h1 h2
  simp only [lps] at h2
  obtain ⟨h3, h4, rfl⟩ := st2_inv _ _ _ _ _ h2
  refine ⟨h4, rfl, ?_⟩
  obtain rfl := unl_nil _ h3
  rw [e0, e1, e2]
  simp [flB, ix, leF, fiB, gI, si, siF, List.idxOf_cons, pdOf, setN, nm0]
set_option linter.unusedSimpArgs false in
theorem uniq_M (ki : Int) (r : List Nat) (hr : ∀ x ∈ r, x < 256) (P : Pd) (h : st1 ki (lps [77] nm0 r) = (0, P)) : chkD P = 0 ∧ P.ki = ki ∧ flB ki P.s.ak P.s.ha P.s.la P.hi P.lo P.s.of P.s.mt P.s.co P.s.cm P.bs (P.its.map itOf) [77] = r := by
  obtain ⟨h1, h2⟩ := st1_inv _ _ _ h
  obtain ⟨v0, r0, e0, q0, x0, b0⟩ := lps_inv 77 _ _ r 2 hr (by decide) rfl h1
  rw [q0] at h1 h2
  simp only [lps] at h2
  obtain ⟨h3, h4, rfl⟩ := st2_inv _ _ _ _ _ h2
  refine ⟨h4, rfl, ?_⟩
  obtain rfl := unl_nil _ h3
  rw [e0]
  simp [flB, ix, leF, fiB, gI, si, siF, List.idxOf_cons, pdOf, setN, nm0]
set_option linter.unusedSimpArgs false in
theorem uniq_HL (ki : Int) (r : List Nat) (hr : ∀ x ∈ r, x < 256) (P : Pd) (h : st1 ki (lps [72, 76] nm0 r) = (0, P)) : chkD P = 0 ∧ P.ki = ki ∧ flB ki P.s.ak P.s.ha P.s.la P.hi P.lo P.s.of P.s.mt P.s.co P.s.cm P.bs (P.its.map itOf) [72, 76] = r := by
  obtain ⟨h1, h2⟩ := st1_inv _ _ _ h
  obtain ⟨v0, r0, e0, q0, x0, b0⟩ := lps_inv 72 _ _ r 2 hr (by decide) rfl h1
  rw [q0] at h1 h2
  obtain ⟨v1, r1, e1, q1, x1, b1⟩ := lps_inv 76 _ _ r0 2 b0 (by decide) rfl h1
  rw [q1] at h1 h2
  simp only [lps] at h2
  obtain ⟨h3, h4, rfl⟩ := st2_inv _ _ _ _ _ h2
  refine ⟨h4, rfl, ?_⟩
  obtain rfl := unl_nil _ h3
  rw [e0, e1]
  simp [flB, ix, leF, fiB, gI, si, siF, List.idxOf_cons, pdOf, setN, nm0]
set_option linter.unusedSimpArgs false in
theorem uniq_HLT (ki : Int) (r : List Nat) (hr : ∀ x ∈ r, x < 256) (P : Pd) (h : st1 ki (lps [72, 76, 84] nm0 r) = (0, P)) : chkD P = 0 ∧ P.ki = ki ∧ flB ki P.s.ak P.s.ha P.s.la P.hi P.lo P.s.of P.s.mt P.s.co P.s.cm P.bs (P.its.map itOf) [72, 76, 84] = r := by
  obtain ⟨h1, h2⟩ := st1_inv _ _ _ h
  obtain ⟨v0, r0, e0, q0, x0, b0⟩ := lps_inv 72 _ _ r 2 hr (by decide) rfl h1
  rw [q0] at h1 h2
  obtain ⟨v1, r1, e1, q1, x1, b1⟩ := lps_inv 76 _ _ r0 2 b0 (by decide) rfl h1
  rw [q1] at h1 h2
  rw [lps_rest' 84 _ _ (by decide)] at h2
  obtain ⟨h3, h4, rfl⟩ := st2_inv _ _ _ _ _ h2
  refine ⟨h4, rfl, ?_⟩
  have hT : (decR r1).2.2 = 0 := by unfold remE at h3; rwa [if_pos rfl] at h3
  have hx := (decR_back _ b1).2.2 hT
  rw [e0, e1]
  simp [flB, ix, leF, fiB, gI, si, siF, List.idxOf_cons, pdOf, setN, nm0, hx]
set_option linter.unusedSimpArgs false in
theorem uniq_H (ki : Int) (r : List Nat) (hr : ∀ x ∈ r, x < 256) (P : Pd) (h : st1 ki (lps [72] nm0 r) = (0, P)) : chkD P = 0 ∧ P.ki = ki ∧ flB ki P.s.ak P.s.ha P.s.la P.hi P.lo P.s.of P.s.mt P.s.co P.s.cm P.bs (P.its.map itOf) [72] = r := by
  obtain ⟨h1, h2⟩ := st1_inv _ _ _ h
  obtain ⟨v0, r0, e0, q0, x0, b0⟩ := lps_inv 72 _ _ r 2 hr (by decide) rfl h1
  rw [q0] at h1 h2
  simp only [lps] at h2
  obtain ⟨h3, h4, rfl⟩ := st2_inv _ _ _ _ _ h2
  refine ⟨h4, rfl, ?_⟩
  obtain rfl := unl_nil _ h3
  rw [e0]
  simp [flB, ix, leF, fiB, gI, si, siF, List.idxOf_cons, pdOf, setN, nm0]
set_option linter.unusedSimpArgs false in
theorem uniq_HO (ki : Int) (r : List Nat) (hr : ∀ x ∈ r, x < 256) (P : Pd) (h : st1 ki (lps [72, 79] nm0 r) = (0, P)) : chkD P = 0 ∧ P.ki = ki ∧ flB ki P.s.ak P.s.ha P.s.la P.hi P.lo P.s.of P.s.mt P.s.co P.s.cm P.bs (P.its.map itOf) [72, 79] = r := by
  obtain ⟨h1, h2⟩ := st1_inv _ _ _ h
  obtain ⟨v0, r0, e0, q0, x0, b0⟩ := lps_inv 72 _ _ r 2 hr (by decide) rfl h1
  rw [q0] at h1 h2
  obtain ⟨v1, r1, e1, q1, x1, b1⟩ := lps_inv 79 _ _ r0 2 b0 (by decide) rfl h1
  rw [q1] at h1 h2
  simp only [lps] at h2
  obtain ⟨h3, h4, rfl⟩ := st2_inv _ _ _ _ _ h2
  refine ⟨h4, rfl, ?_⟩
  obtain rfl := unl_nil _ h3
  rw [e0, e1]
  simp [flB, ix, leF, fiB, gI, si, siF, List.idxOf_cons, pdOf, setN, nm0]
set_option linter.unusedSimpArgs false in
theorem uniq_V (ki : Int) (r : List Nat) (_hr : ∀ x ∈ r, x < 256) (P : Pd) (h : st1 ki (lps [86] nm0 r) = (0, P)) : chkD P = 0 ∧ P.ki = ki ∧ flB ki P.s.ak P.s.ha P.s.la P.hi P.lo P.s.of P.s.mt P.s.co P.s.cm P.bs (P.its.map itOf) [86] = r := by
  obtain ⟨h1, h2⟩ := st1_inv _ _ _ h
  rw [lps_rest' 86 _ _ (by decide)] at h2
  obtain ⟨h3, h4, rfl⟩ := st2_inv _ _ _ _ _ h2
  refine ⟨h4, rfl, ?_⟩
  simp [flB, ix, leF, fiB, gI, si, siF, List.idxOf_cons, pdOf, setN, nm0]
set_option linter.unusedSimpArgs false in
theorem uniq_HV (ki : Int) (r : List Nat) (hr : ∀ x ∈ r, x < 256) (P : Pd) (h : st1 ki (lps [72, 86] nm0 r) = (0, P)) : chkD P = 0 ∧ P.ki = ki ∧ flB ki P.s.ak P.s.ha P.s.la P.hi P.lo P.s.of P.s.mt P.s.co P.s.cm P.bs (P.its.map itOf) [72, 86] = r := by
  obtain ⟨h1, h2⟩ := st1_inv _ _ _ h
  obtain ⟨v0, r0, e0, q0, x0, b0⟩ := lps_inv 72 _ _ r 2 hr (by decide) rfl h1
  rw [q0] at h1 h2
  rw [lps_rest' 86 _ _ (by decide)] at h2
  obtain ⟨h3, h4, rfl⟩ := st2_inv _ _ _ _ _ h2
  refine ⟨h4, rfl, ?_⟩
  rw [e0]
  simp [flB, ix, leF, fiB, gI, si, siF, List.idxOf_cons, pdOf, setN, nm0]
set_option linter.unusedSimpArgs false in
theorem uniq_HOV (ki : Int) (r : List Nat) (hr : ∀ x ∈ r, x < 256) (P : Pd) (h : st1 ki (lps [72, 79, 86] nm0 r) = (0, P)) : chkD P = 0 ∧ P.ki = ki ∧ flB ki P.s.ak P.s.ha P.s.la P.hi P.lo P.s.of P.s.mt P.s.co P.s.cm P.bs (P.its.map itOf) [72, 79, 86] = r := by
  obtain ⟨h1, h2⟩ := st1_inv _ _ _ h
  obtain ⟨v0, r0, e0, q0, x0, b0⟩ := lps_inv 72 _ _ r 2 hr (by decide) rfl h1
  rw [q0] at h1 h2
  obtain ⟨v1, r1, e1, q1, x1, b1⟩ := lps_inv 79 _ _ r0 2 b0 (by decide) rfl h1
  rw [q1] at h1 h2
  rw [lps_rest' 86 _ _ (by decide)] at h2
  obtain ⟨h3, h4, rfl⟩ := st2_inv _ _ _ _ _ h2
  refine ⟨h4, rfl, ?_⟩
  rw [e0, e1]
  simp [flB, ix, leF, fiB, gI, si, siF, List.idxOf_cons, pdOf, setN, nm0]
set_option linter.unusedSimpArgs false in
theorem uniq_X (ki : Int) (r : List Nat) (hr : ∀ x ∈ r, x < 256) (P : Pd) (h : st1 ki (lps [88] nm0 r) = (0, P)) : chkD P = 0 ∧ P.ki = ki ∧ flB ki P.s.ak P.s.ha P.s.la P.hi P.lo P.s.of P.s.mt P.s.co P.s.cm P.bs (P.its.map itOf) [88] = r := by
  obtain ⟨h1, h2⟩ := st1_inv _ _ _ h
  obtain ⟨v0, r0, e0, q0, x0, b0⟩ := lps_inv 88 _ _ r 1 hr (by decide) rfl h1
  rw [q0] at h1 h2
  simp only [lps] at h2
  obtain ⟨h3, h4, rfl⟩ := st2_inv _ _ _ _ _ h2
  refine ⟨h4, rfl, ?_⟩
  obtain rfl := unl_nil _ h3
  have hv1 : v0 ≤ 1 := x0 rfl (by rw [e0]; simp [putB_len])
  rw [e0]
  have : v0 = 0 ∨ v0 = 1 := by omega
  rcases this with rfl | rfl
  all_goals rfl
set_option linter.unusedSimpArgs false in
theorem uniq_n (ki : Int) (r : List Nat) (_hr : ∀ x ∈ r, x < 256) (P : Pd) (h : st1 ki (lps [] nm0 r) = (0, P)) : chkD P = 0 ∧ P.ki = ki ∧ flB ki P.s.ak P.s.ha P.s.la P.hi P.lo P.s.of P.s.mt P.s.co P.s.cm P.bs (P.its.map itOf) [] = r := by
  obtain ⟨h1, h2⟩ := st1_inv _ _ _ h
  simp only [lps] at h2
  obtain ⟨h3, h4, rfl⟩ := st2_inv _ _ _ _ _ h2
  refine ⟨h4, rfl, ?_⟩
  obtain rfl := unl_nil _ h3
  simp [flB, ix, leF, fiB, gI, si, siF, List.idxOf_cons, pdOf, setN, nm0]
set_option linter.unusedSimpArgs false in
theorem uniq_I (ki : Int) (r : List Nat) (hr : ∀ x ∈ r, x < 256) (P : Pd) (hk : ki = 5 ∨ ki = 9 ∨ ki = 17) (h : st1 ki (lps [73] nm0 r) = (0, P)) : chkD P = 0 ∧ P.ki = ki ∧ flB ki P.s.ak P.s.ha P.s.la P.hi P.lo P.s.of P.s.mt P.s.co P.s.cm P.bs (P.its.map itOf) [73] = r := by
  obtain ⟨h1, h2⟩ := st1_inv _ _ _ h
  rw [lps_rest' 73 _ _ (by decide)] at h2
  obtain ⟨h3, h4, rfl⟩ := st2_inv _ _ _ _ _ h2
  refine ⟨h4, rfl, ?_⟩
  have hI : lsE ki r = 0 := h3
  have hx := list_uniq ki hk _ hr hI
  simp [flB, ix, leF, fiB, gI, si, siF, List.idxOf_cons, pdOf, setN, nm0, hx]
/-- bytes that are decoded -/
theorem uniq_any (b : List Nat) (hb : ∀ x ∈ b, x < 256) (P : Pd) (h : decP b = (0, P)) : chkD P = 0 ∧ encP P.ki P.s.ak P.s.ha P.s.la P.hi P.lo P.s.of P.s.mt P.s.co P.s.cm P.bs (P.its.map itOf) = b := by
  cases b with
  | nil => cases h
  | cons x r =>
    have hx := hb x (by simp)
    have hr : ∀ y ∈ r, y < 256 := fun y hy => hb y (by simp [hy])
    have key : ∀ u, fldC (x : Int) = some u → (st1 x (lps u nm0 r) = (0, P) → chkD P = 0 ∧ P.ki = x ∧ flB x P.s.ak P.s.ha P.s.la P.hi P.lo P.s.of P.s.mt P.s.co P.s.cm P.bs (P.its.map itOf) u = r) → chkD P = 0 ∧ encP P.ki P.s.ak P.s.ha P.s.la P.hi P.lo P.s.of P.s.mt P.s.co P.s.cm P.bs (P.its.map itOf) = x :: r := by
      intro u hu hst
      simp only [decP, hu] at h
      by_cases hl : 517 < r.length + 1
      · rw [if_pos hl] at h
        cases h
      · rw [if_neg hl] at h
        obtain ⟨h1, h2, h3⟩ := hst h
        refine ⟨h1, ?_⟩
        unfold encP
        rw [h2, hu]
        simp only [Int.toNat_natCast, Option.getD_some]
        rw [byt0_lt x hx, h3]
    rcases att_kinds (x : Int) with hx1 | hx1 | hx1 | hx1 | hx1 | hx1 | hx1 | hx1 | hx1 | hx1 | hx1 | hx1 | hx1 | hx1 | hx1 | hx1 | hx1 | hx1 | hx1 | hx1 | hx1 | hx1 | hx1 | hne
    · obtain rfl : x = 1 := by omega
      exact key _ rfl (uniq_AHC 1 r hr P)
    · obtain rfl : x = 2 := by omega
      exact key _ rfl (uniq_M 2 r hr P)
    · obtain rfl : x = 3 := by omega
      exact key _ rfl (uniq_M 3 r hr P)
    · obtain rfl : x = 4 := by omega
      exact key _ rfl (uniq_HL 4 r hr P)
    · obtain rfl : x = 5 := by omega
      exact key _ rfl (uniq_I 5 r hr P (by decide))
    · obtain rfl : x = 8 := by omega
      exact key _ rfl (uniq_HLT 8 r hr P)
    · obtain rfl : x = 9 := by omega
      exact key _ rfl (uniq_I 9 r hr P (by decide))
    · obtain rfl : x = 10 := by omega
      exact key _ rfl (uniq_H 10 r hr P)
    · obtain rfl : x = 11 := by omega
      exact key _ rfl (uniq_V 11 r hr P)
    · obtain rfl : x = 12 := by omega
      exact key _ rfl (uniq_HO 12 r hr P)
    · obtain rfl : x = 13 := by omega
      exact key _ rfl (uniq_V 13 r hr P)
    · obtain rfl : x = 16 := by omega
      exact key _ rfl (uniq_HLT 16 r hr P)
    · obtain rfl : x = 17 := by omega
      exact key _ rfl (uniq_I 17 r hr P (by decide))
    · obtain rfl : x = 18 := by omega
      exact key _ rfl (uniq_HV 18 r hr P)
    · obtain rfl : x = 19 := by omega
      exact key _ rfl (uniq_n 19 r hr P)
    · obtain rfl : x = 22 := by omega
      exact key _ rfl (uniq_HOV 22 r hr P)
    · obtain rfl : x = 23 := by omega
      exact key _ rfl (uniq_HOV 23 r hr P)
    · obtain rfl : x = 24 := by omega
      exact key _ rfl (uniq_X 24 r hr P)
    · obtain rfl : x = 25 := by omega
      exact key _ rfl (uniq_n 25 r hr P)
    · obtain rfl : x = 27 := by omega
      exact key _ rfl (uniq_HV 27 r hr P)
    · obtain rfl : x = 29 := by omega
      exact key _ rfl (uniq_HV 29 r hr P)
    · obtain rfl : x = 30 := by omega
      exact key _ rfl (uniq_n 30 r hr P)
    · obtain rfl : x = 82 := by omega
      exact key _ rfl (uniq_HV 82 r hr P)
    · simp only [decP, fldC_none (x : Int) hne] at h
      cases h
end Go.Proofs.Ythnffdlnhfhabaa
