/- air: what is heard does not change when a transmission of another device on another channel is taken out: plain. -/
import Derived.Test.YthemdbgcamkecaaAirU
namespace Go.Proofs.Ythemdbgcamkecaa
open Go.RowKit

/-- the place of number j when number k is taken out -/
def er (k j : Nat) : Nat := if j < k then j else j - 1
def sh (k : Nat) (z : Int) : Int := if z < 0 then -1 else (er k z.toNat : Int)
theorem er_get (ts : List Tr) (k j : Nat) (hne : j ≠ k) : (ts.eraseIdx k).getD (er k j) default = ts.getD j default := by
  unfold er
  rw [List.getD_eq_getElem?_getD, List.getD_eq_getElem?_getD, List.getElem?_eraseIdx]
  by_cases h : j < k
  · rw [if_pos h, if_pos h]
  · rw [if_neg h, if_neg (by omega), show j - 1 + 1 = j by omega]
theorem er_lt {n k j : Nat} (hk : k < n) (hj : j < n) (hne : j ≠ k) : er k j < n - 1 := by
  unfold er
  split <;> omega
theorem sh_nat (k j : Nat) : sh k (j : Int) = er k j := by
  unfold sh
  rw [if_neg (by omega), Int.toNat_natCast]
theorem best_er {ok ok' : Nat → Bool} {lt lt' : Nat → Nat → Bool} {n k : Nat} (hok : ∀ j, j < n → j ≠ k → ok' (er k j) = ok j) (hk : ok k = false)
    (hlt : ∀ i j, i < n → j < n → i ≠ k → j ≠ k → lt' (er k i) (er k j) = lt i j) : ∀ m, m ≤ n → bestE ok' lt' (if m ≤ k then m else m - 1) = sh k (bestE ok lt m)
  | 0, _ => by rw [if_pos (Nat.zero_le _)]; rfl
  | m+1, hm => by
    have ih := best_er hok hk hlt m (by omega)
    by_cases hmk : m = k
    · subst hmk
      rw [if_pos (Nat.le_refl _)] at ih
      rw [if_neg (by omega), Nat.add_sub_cancel, ih, bestE_skip hk]
    · have e1 : (if m ≤ k then m else m - 1) = er k m := by
        unfold er
        split <;> split <;> omega
      have e2 : (if m + 1 ≤ k then m + 1 else m + 1 - 1) = er k m + 1 := by
        unfold er
        split <;> split <;> omega
      rw [e1] at ih
      rw [e2]
      have ho := hok m (by omega) hmk
      by_cases h : ok m = true
      · rw [h] at ho
        rcases bestE_cases ok lt m with hb | ⟨j, hb, hj, hoj⟩
        · rw [hb] at ih
          rw [bestE_first ho (by rw [ih]; rfl), bestE_first h hb, sh_nat]
        · have hjk : j ≠ k := fun e => by rw [e, hk] at hoj; cases hoj
          rw [hb, sh_nat] at ih
          have hl := hlt m j (by omega) (by omega) hmk hjk
          by_cases hlj : lt m j = true
          · rw [hlj] at hl
            rw [bestE_lt ho ih hl, bestE_lt h hb hlj, sh_nat]
          · have hlf : lt m j = false := by simpa using hlj
            rw [hlf] at hl
            rw [bestE_ge ih hl, bestE_ge hb hlf, sh_nat]
      · have hf : ok m = false := by simpa using h
        rw [hf] at ho
        rw [bestE_skip ho, bestE_skip hf, ih]

/-- what disturbs is the same -/
theorem dist_er {ls : List (Int × Int)} {js : List (Int × Int × Int)} {ss : List (Int × Int)} {ts : List Tr} {k j : Nat} {dev : Int} (hk : k < ts.length) (hj : j < ts.length) (hne : j ≠ k)
    (hf : (ts.getD k default).fr ≠ dev) (hc : (ts.getD k default).ch ≠ (ts.getD j default).ch) : distE ls js ss ts j dev = distE ls js ss (ts.eraseIdx k) (er k j) dev := by
  have hlen : (ts.eraseIdx k).length = ts.length - 1 := by rw [List.length_eraseIdx, if_pos hk]
  have hel := er_lt hk hj hne
  have hany : (List.range ts.length).any (colI ls dev j (ts.getD j default) ts) = (List.range (ts.eraseIdx k).length).any (colI ls dev (er k j) (ts.getD j default) (ts.eraseIdx k)) := by
    rw [Bool.eq_iff_iff, List.any_eq_true, List.any_eq_true, hlen]
    constructor
    · rintro ⟨x, hx, hcol⟩
      rw [List.mem_range] at hx
      have hxk : x ≠ k := fun e => by
        subst e
        unfold colI at hcol
        rw [if_neg (by omega)] at hcol
        unfold colB at hcol
        rw [if_neg hf] at hcol
        unfold overB at hcol
        rw [decide_eq_false hc] at hcol
        simp at hcol
      refine ⟨er k x, by rw [List.mem_range]; exact er_lt hk hx hxk, ?_⟩
      unfold colI at hcol ⊢
      rw [er_get ts k x hxk]
      by_cases hxj : x = j
      · rw [if_pos (by omega)] at hcol
        cases hcol
      · rw [if_neg (by omega)] at hcol
        rw [if_neg (fun e => hxj (by have := Int.ofNat.inj e; unfold er at this; split at this <;> split at this <;> omega))]
        exact hcol
    · rintro ⟨y, hy, hcol⟩
      rw [List.mem_range] at hy
      obtain ⟨x, hx, hxk, rfl⟩ : ∃ x, x < ts.length ∧ x ≠ k ∧ er k x = y := by
        by_cases h : y < k
        · exact ⟨y, by omega, by omega, by unfold er; rw [if_pos h]⟩
        · exact ⟨y + 1, by omega, by omega, by unfold er; rw [if_neg (by omega)]; omega⟩
      refine ⟨x, by rw [List.mem_range]; exact hx, ?_⟩
      unfold colI at hcol ⊢
      rw [er_get ts k x hxk] at hcol
      by_cases hxj : x = j
      · rw [hxj, if_pos rfl] at hcol
        cases hcol
      · rw [if_neg (by omega)]
        rw [if_neg (fun e => hxj (by have := Int.ofNat.inj e; unfold er at this; split at this <;> split at this <;> omega))] at hcol
        exact hcol
  have h1 : ¬ ((j : Int) < 0 ∨ (ts.length : Int) ≤ (j : Int)) := by omega
  have h2 : ¬ (((er k j : Nat) : Int) < 0 ∨ ((ts.eraseIdx k).length : Int) ≤ ((er k j : Nat) : Int)) := by omega
  unfold distE
  rw [if_neg h1, if_neg h2, Int.toNat_natCast, Int.toNat_natCast, er_get ts k j hne, hany]

/-- what is heard without number k -/
theorem hear_er {ls : List (Int × Int)} {js : List (Int × Int × Int)} {ss : List (Int × Int)} {ts : List Tr} {k : Nat} {dev LC LS LE : Int} (hk : k < ts.length) (hf : (ts.getD k default).fr ≠ dev) (hc : (ts.getD k default).ch ≠ LC) :
    hearR ls js ss ts dev (bestE (okK ls dev LC LS LE ts) (ltE ts) ts.length) = hearR ls js ss (ts.eraseIdx k) dev (bestE (okK ls dev LC LS LE (ts.eraseIdx k)) (ltE (ts.eraseIdx k)) (ts.eraseIdx k).length) ∧
    decide (0 ≤ bestE (okK ls dev LC LS LE ts) (ltE ts) ts.length) = decide (0 ≤ bestE (okK ls dev LC LS LE (ts.eraseIdx k)) (ltE (ts.eraseIdx k)) (ts.eraseIdx k).length) := by
  have hlen : (ts.eraseIdx k).length = ts.length - 1 := by rw [List.length_eraseIdx, if_pos hk]
  have hokk : okK ls dev LC LS LE ts k = false := by
    unfold okK okB
    rw [decide_eq_false hc]
    rfl
  have hb := best_er (ok := okK ls dev LC LS LE ts) (ok' := okK ls dev LC LS LE (ts.eraseIdx k)) (lt := ltE ts) (lt' := ltE (ts.eraseIdx k)) (n := ts.length) (k := k)
    (fun j _ hne => by unfold okK; rw [er_get ts k j hne]) hokk (fun i j _ _ hi hj => by unfold ltE; rw [er_get ts k i hi, er_get ts k j hj]) ts.length (Nat.le_refl _)
  rw [if_neg (by omega), ← hlen] at hb
  rw [hb]
  rcases bestE_cases (okK ls dev LC LS LE ts) (ltE ts) ts.length with h | ⟨j, h, hj, hoj⟩
  · rw [h]
    exact ⟨rfl, rfl⟩
  · have hjk : j ≠ k := fun e => by rw [e, hokk] at hoj; cases hoj
    have hcj : (ts.getD j default).ch = LC := by
      unfold okK okB at hoj
      simp only [Bool.and_eq_true, decide_eq_true_eq] at hoj
      exact hoj.1.1.1
    rw [h, sh_nat]
    refine ⟨?_, by rw [decide_eq_true (by omega), decide_eq_true (by omega)]⟩
    unfold hearR
    rw [if_neg (show ¬ ((j : Int) < 0) by omega), if_neg (show ¬ (((er k j : Nat) : Int) < 0) by omega), Int.toNat_natCast, Int.toNat_natCast, er_get ts k j hjk, ← dist_er hk hj hjk hf (by rw [hcj]; exact hc)]
end Go.Proofs.Ythemdbgcamkecaa
