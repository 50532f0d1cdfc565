/- attpdu: the plain law of Room: a value of that length fits, a longer one does not. -/
import Derived.Test.YthnffdlnhfhabaaAuQ
import Derived.Test.YthnffdlnhfhabaaAuC
namespace Go.Proofs.Ythnffdlnhfhabaa
open Go.RowKit

theorem anyC_congr (u : List Nat) (z z' : Nat → Bool) (h : ∀ j, j < 10 → u.contains (le j) = false → z j = z' j) : ∀ f, f ≤ 10 → anyC u z f = anyC u z' f
  | 0, _ => rfl
  | f+1, hf => by
    rw [anyC, anyC, anyC_congr u z z' h f (by omega)]
    cases hc : u.contains (le (9 - f))
    · rw [h (9 - f) (by omega) hc]
    · simp
theorem errC_congr (u : List Nat) (e e' : Nat → Int) (h : ∀ j, j < 10 → u.contains (le j) = true → e j = e' j) : ∀ f, f ≤ 10 → errC u e f = errC u e' f
  | 0, _ => rfl
  | f+1, hf => by
    rw [errC, errC, errC_congr u e e' h f (by omega)]
    cases hc : u.contains (le (9 - f))
    · simp
    · rw [h (9 - f) (by omega) hc]
theorem room_bd (k m : Int) : 0 ≤ roomI k m ∧ roomI k m ≤ 517 := by
  unfold roomI mtuI
  repeat' split
  all_goals omega
/-- a longer value is checked alike -/
theorem chkP_longer (ki ak : Int) (ha la hi lo : Nat) (of mt co : Int) (cm : Bool) (n n' m : Nat) (its : List It) (u : List Nat) (hk : fldC ki = some u) (hu : u.contains 86 = true) (h : chkP ki ak ha la hi lo of mt co cm n m its = 0) (hn : n' ≤ 512) : chkP ki ak ha la hi lo of mt co cm n' m its = 0 := by
  have hv := val_ok ki ak ha la hi lo of mt co cm n m its u hk h hu
  rw [← h]
  unfold chkP
  rw [hk]
  simp only
  have e1 : anyC u (zB ak ha la hi lo of mt co cm n' m) 10 = anyC u (zB ak ha la hi lo of mt co cm n m) 10 := anyC_congr u _ _ (fun j hj hc => by
    rcases (show j = 0 ∨ j = 1 ∨ j = 2 ∨ j = 3 ∨ j = 4 ∨ j = 5 ∨ j = 6 ∨ j = 7 ∨ j = 8 ∨ j = 9 by omega) with rfl | rfl | rfl | rfl | rfl | rfl | rfl | rfl | rfl | rfl
    all_goals first | rfl | (exfalso; have h8 : u.contains 86 = false := hc; rw [hu] at h8; cases h8)) 10 (Nat.le_refl _)
  have e2 : errC u (cI ki ak ha la of mt co n' its) 10 = errC u (cI ki ak ha la of mt co n its) 10 := errC_congr u _ _ (fun j hj hc => by
    rcases (show j = 0 ∨ j = 1 ∨ j = 2 ∨ j = 3 ∨ j = 4 ∨ j = 5 ∨ j = 6 ∨ j = 7 ∨ j = 8 ∨ j = 9 by omega) with rfl | rfl | rfl | rfl | rfl | rfl | rfl | rfl | rfl | rfl
    all_goals first | rfl | (show unlessI (decide ((n' : Int) ≤ 512)) 4 = unlessI (decide ((n : Int) ≤ 512)) 4; rw [decide_eq_true (by omega : (n' : Int) ≤ 512), decide_eq_true (by omega : (n : Int) ≤ 512)])) 10 (Nat.le_refl _)
  rw [e1, e2]
/-- the law of Room -/
theorem fits (ki ak : Int) (ha la hi lo : Nat) (of mt co : Int) (cm : Bool) (N : Nat) (mu : Int) (h1 : 1 ≤ N) (hR : roomI ki mu = (N : Int)) (hm1 : 23 ≤ mu) (hm2 : mu ≤ 517) (hc : chkP ki ak ha la hi lo of mt co cm N 0 [] = 0) :
    (∀ bs : List Nat, bs.length = N → ((encP ki ak ha la hi lo of mt co cm bs []).length : Int) ≤ mu) ∧
    (N ≠ 512 → chkP ki ak ha la hi lo of mt co cm (N + 1) 0 [] = 0 ∧ ∀ bs : List Nat, bs.length = N + 1 → mu < ((encP ki ak ha la hi lo of mt co cm bs []).length : Int)) := by
  have hM : mtuI mu = mu := by unfold mtuI; omega
  have key : ∀ u (x : Nat), fldC ki = some u → u.contains 86 = true → roomI ki mu = min 512 (mu - x) → (∀ bs : List Nat, (encP ki ak ha la hi lo of mt co cm bs []).length = x + bs.length) →
      (∀ bs : List Nat, bs.length = N → ((encP ki ak ha la hi lo of mt co cm bs []).length : Int) ≤ mu) ∧
      (N ≠ 512 → chkP ki ak ha la hi lo of mt co cm (N + 1) 0 [] = 0 ∧ ∀ bs : List Nat, bs.length = N + 1 → mu < ((encP ki ak ha la hi lo of mt co cm bs []).length : Int)) := by
    intro u x hk hu hr hl
    rw [hR] at hr
    refine ⟨fun bs hb => by rw [hl, hb]; omega, fun hne => ⟨chkP_longer _ _ _ _ _ _ _ _ _ _ N _ _ _ u hk hu hc (by omega), fun bs hb => by rw [hl, hb]; omega⟩⟩
  have bad : ∀ u, fldC ki = some u → u.contains 86 = false → False := fun u hk hu => by
    have hz : ((N : Int) == 0) = true := chkP_unused ki ak ha la hi lo of mt co cm N 0 [] u hk hc 8 (by decide) hu
    simp at hz
    omega
  have no : roomI ki mu ≠ 0 := by omega
  rcases att_kinds ki with rfl | rfl | rfl | rfl | rfl | rfl | rfl | rfl | rfl | rfl | rfl | rfl | rfl | rfl | rfl | rfl | rfl | rfl | rfl | rfl | rfl | rfl | rfl | hne
  case' inr.inr.inr.inr.inr.inr.inr.inr.inr.inr.inr.inr.inr.inr.inr.inr.inr.inr.inr.inr.inr.inr.inr =>
    have : chkP ki ak ha la hi lo of mt co cm N 0 [] = 12 := by unfold chkP; rw [fldC_none ki hne]
    rw [this] at hc
    cases hc
  all_goals first
    | exact (bad _ rfl rfl).elim
    | exact key _ 1 rfl rfl (by simp [roomI, hM]) (fun bs => by simp [encP, fldC, flB, ix, leF, fiB, gI, si, siF, List.idxOf_cons, putB_len]; omega)
    | exact key _ 3 rfl rfl (by simp [roomI, hM]) (fun bs => by simp [encP, fldC, flB, ix, leF, fiB, gI, si, siF, List.idxOf_cons, putB_len]; omega)
    | exact key _ 5 rfl rfl (by simp [roomI, hM]) (fun bs => by simp [encP, fldC, flB, ix, leF, fiB, gI, si, siF, List.idxOf_cons, putB_len]; omega)
end Go.Proofs.Ythnffdlnhfhabaa
