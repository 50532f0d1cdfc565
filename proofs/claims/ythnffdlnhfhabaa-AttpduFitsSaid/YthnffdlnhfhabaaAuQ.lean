/- attpdu: a PDU without an error is decoded from its bytes. -/
import Derived.Test.YthnffdlnhfhabaaAuP
import Derived.Test.YthnffdlnhfhabaaAuA
import Derived.Test.YthnffdlnhfhabaaAtZ0
namespace Go.Proofs.Ythnffdlnhfhabaa
open Go.RowKit

theorem lps_num (c : Nat) (u : List Nat) (s : Nm) (k v : Nat) (rest : List Nat) (hc : ix c < 7) (hk : si (ix c) = k) (hv : vnum (putB v k) = v) (h6 : ix c = 6 → v ≤ 1) : lps (c :: u) s (putB v k ++ rest) = lps u (setN s (ix c) v) rest := by
  rw [lps, if_pos hc, hk, if_neg (by rw [List.length_append, putB_len]; omega), take_app _ _ _ (putB_len _ _), drop_app _ _ _ (putB_len _ _), hv, if_neg (by rintro ⟨h, h1, _⟩; have := h6 h; omega)]
theorem lps_rest (c : Nat) (s : Nm) (b : List Nat) (hc : ¬ ix c < 7) : lps [c] s b = (0, s, c, b) := by rw [lps, if_neg hc]
theorem st2_back (ki : Int) (s : Nm) (c : Nat) (b : List Nat) (P : Pd) (h1 : remE ki c b = 0) (h2 : pdOf ki s c b = P) (h3 : chkD P = 0) : st2 ki s c b = (0, P) := by
  unfold st2
  rw [h1, h2, h3]
  simp
/-- the data of a PDU -/
def pdP (ki ak : Int) (ha la hi lo : Nat) (of mt co : Int) (cm : Bool) (bs : List Nat) (its : List It) : Pd := ⟨ki, ⟨ak, ha, la, of, mt, co, cm⟩, hi, lo, bs, its.map dat⟩
theorem chkD_pdP (ki ak : Int) (ha la hi lo : Nat) (of mt co : Int) (cm : Bool) (n m : Nat) (bs : List Nat) (its : List It) (hn : bs.length = n) (hm : its.length = m) (hl : ∀ t ∈ its, t.bs.length = t.n) : chkD (pdP ki ak ha la hi lo of mt co cm bs its) = chkP ki ak ha la hi lo of mt co cm n m its := by
  unfold chkD pdP
  simp only
  rw [chkP_of ki ak ha la hi lo of mt co cm n m its hl, hn, List.length_map, hm, List.map_map]
  rfl
set_option linter.unusedSimpArgs false in
theorem back_AHC (ki ak : Int) (ha la hi lo : Nat) (of mt co : Int) (cm : Bool) (n m : Nat) (bs : List Nat) (its : List It) (hk : fldC ki = some [65, 72, 67]) (hc : chkP ki ak ha la hi lo of mt co cm n m its = 0) (hn : bs.length = n) (hm : its.length = m) (hha : ha < 65536) (hla : la < 65536) (hhi : hi < 18446744073709551616) (hlo : lo < 18446744073709551616) (hok : ∀ t ∈ its, t.bs.length = t.n ∧ t.ha < 65536 ∧ t.la < 65536 ∧ t.hi < 18446744073709551616 ∧ t.lo < 18446744073709551616) : st1 ki (lps [65, 72, 67] nm0 (flB ki ak ha la hi lo of mt co cm bs its [65, 72, 67])) = (0, pdP ki ak ha la hi lo of mt co cm bs its) ∧ (flB ki ak ha la hi lo of mt co cm bs its [65, 72, 67]).length ≤ 516 := by
  have hcd := chkD_pdP ki ak ha la hi lo of mt co cm n m bs its hn hm (fun t ht => (hok t ht).1)
  rw [hc] at hcd
  have hz := fun j hj hu => chkP_unused ki ak ha la hi lo of mt co cm n m its _ hk hc j hj hu
  obtain rfl : la = 0 := by have : ((la : Int) == 0) = true := hz 2 (by decide) rfl; simp at this; omega
  obtain rfl : of = 0 := by have : (of == 0) = true := hz 3 (by decide) rfl; simpa using this
  obtain rfl : mt = 0 := by have : (mt == 0) = true := hz 4 (by decide) rfl; simpa using this
  obtain rfl : cm = false := by have : (!cm) = true := hz 6 (by decide) rfl; simpa using this
  have z7 : hi = 0 ∧ lo = 0 := by have : (decide (hi = 0) && decide (lo = 0)) = true := hz 7 (by decide) rfl; simpa using this
  obtain ⟨rfl, rfl⟩ := z7
  obtain rfl : bs = [] := by have h8 : ((n : Int) == 0) = true := hz 8 (by decide) rfl; simp at h8; exact List.eq_nil_of_length_eq_zero (by omega)
  obtain rfl : its = [] := by have h9 : ((m : Int) == 0) = true := hz 9 (by decide) rfl; simp at h9; exact List.eq_nil_of_length_eq_zero (by omega)
  obtain ⟨qA, rA, sA⟩ := gI_ok ki ak ha 0 0 0 0 0 co false n m _ _ hk hha hla hc 0 (by decide) rfl
  change 0 ≤ ak at qA
  change ak < 65536 at rA
  have sA : ak < 256 := sA rfl
  obtain ⟨XA, rfl⟩ := Int.eq_ofNat_of_zero_le qA
  obtain ⟨qC, rC, sC⟩ := gI_ok ki XA ha 0 0 0 0 0 co false n m _ _ hk hha hla hc 5 (by decide) rfl
  change 0 ≤ co at qC
  change co < 65536 at rC
  have sC : co < 256 := sC rfl
  obtain ⟨XC, rfl⟩ := Int.eq_ofNat_of_zero_le qC
  have hfl : flB ki XA ha 0 0 0 0 0 XC false [] [] [65, 72, 67] = putB XA 1 ++ (putB ha 2 ++ (putB XC 1 ++ ([]))) := by simp [flB, ix, leF, fiB, gI, si, siF, List.idxOf_cons]
  rw [hfl]
  constructor
  · rw [lps_num 65 _ _ 1 _ _ (by decide) rfl (vnum_put1 _ (by omega)) (fun h => absurd h (by decide)), lps_num 72 _ _ 2 _ _ (by decide) rfl (vnum_put2 _ (by omega)) (fun h => absurd h (by decide)), lps_num 67 _ _ 1 _ _ (by decide) rfl (vnum_put1 _ (by omega)) (fun h => absurd h (by decide)), show ∀ s b, lps [] s b = (0, s, 0, b) from fun _ _ => rfl]
    unfold st1
    rw [if_neg (by simp)]
    refine st2_back ki _ 0 _ _ (rfl) ?_ hcd
    unfold pdOf pdP
    skip
    try simp [setN, nm0, ix, leF, List.idxOf_cons]

  · first | (simp [putB_len]; done) | (simp [putB_len]; omega) | omega

set_option linter.unusedSimpArgs false in
theorem back_M (ki ak : Int) (ha la hi lo : Nat) (of mt co : Int) (cm : Bool) (n m : Nat) (bs : List Nat) (its : List It) (hk : fldC ki = some [77]) (hc : chkP ki ak ha la hi lo of mt co cm n m its = 0) (hn : bs.length = n) (hm : its.length = m) (hha : ha < 65536) (hla : la < 65536) (hhi : hi < 18446744073709551616) (hlo : lo < 18446744073709551616) (hok : ∀ t ∈ its, t.bs.length = t.n ∧ t.ha < 65536 ∧ t.la < 65536 ∧ t.hi < 18446744073709551616 ∧ t.lo < 18446744073709551616) : st1 ki (lps [77] nm0 (flB ki ak ha la hi lo of mt co cm bs its [77])) = (0, pdP ki ak ha la hi lo of mt co cm bs its) ∧ (flB ki ak ha la hi lo of mt co cm bs its [77]).length ≤ 516 := by
  have hcd := chkD_pdP ki ak ha la hi lo of mt co cm n m bs its hn hm (fun t ht => (hok t ht).1)
  rw [hc] at hcd
  have hz := fun j hj hu => chkP_unused ki ak ha la hi lo of mt co cm n m its _ hk hc j hj hu
  obtain rfl : ak = 0 := by have : (ak == 0) = true := hz 0 (by decide) rfl; simpa using this
  obtain rfl : la = 0 := by have : ((la : Int) == 0) = true := hz 2 (by decide) rfl; simp at this; omega
  obtain rfl : of = 0 := by have : (of == 0) = true := hz 3 (by decide) rfl; simpa using this
  obtain rfl : co = 0 := by have : (co == 0) = true := hz 5 (by decide) rfl; simpa using this
  obtain rfl : cm = false := by have : (!cm) = true := hz 6 (by decide) rfl; simpa using this
  have z7 : hi = 0 ∧ lo = 0 := by have : (decide (hi = 0) && decide (lo = 0)) = true := hz 7 (by decide) rfl; simpa using this
  obtain ⟨rfl, rfl⟩ := z7
  obtain rfl : ha = 0 := by have : ((ha : Int) == 0) = true := hz 1 (by decide) rfl; simp at this; omega
  obtain rfl : bs = [] := by have h8 : ((n : Int) == 0) = true := hz 8 (by decide) rfl; simp at h8; exact List.eq_nil_of_length_eq_zero (by omega)
  obtain rfl : its = [] := by have h9 : ((m : Int) == 0) = true := hz 9 (by decide) rfl; simp at h9; exact List.eq_nil_of_length_eq_zero (by omega)
  obtain ⟨qM, rM, sM⟩ := gI_ok ki 0 0 0 0 0 0 mt 0 false n m _ _ hk hha hla hc 4 (by decide) rfl
  change 0 ≤ mt at qM
  change mt < 65536 at rM
  obtain ⟨XM, rfl⟩ := Int.eq_ofNat_of_zero_le qM
  have hfl : flB ki 0 0 0 0 0 0 XM 0 false [] [] [77] = putB XM 2 ++ ([]) := by simp [flB, ix, leF, fiB, gI, si, siF, List.idxOf_cons]
  rw [hfl]
  constructor
  · rw [lps_num 77 _ _ 2 _ _ (by decide) rfl (vnum_put2 _ (by omega)) (fun h => absurd h (by decide)), show ∀ s b, lps [] s b = (0, s, 0, b) from fun _ _ => rfl]
    unfold st1
    rw [if_neg (by simp)]
    refine st2_back ki _ 0 _ _ (rfl) ?_ hcd
    unfold pdOf pdP
    skip
    try simp [setN, nm0, ix, leF, List.idxOf_cons]

  · first | (simp [putB_len]; done) | (simp [putB_len]; omega) | omega

set_option linter.unusedSimpArgs false in
theorem back_HL (ki ak : Int) (ha la hi lo : Nat) (of mt co : Int) (cm : Bool) (n m : Nat) (bs : List Nat) (its : List It) (hk : fldC ki = some [72, 76]) (hc : chkP ki ak ha la hi lo of mt co cm n m its = 0) (hn : bs.length = n) (hm : its.length = m) (hha : ha < 65536) (hla : la < 65536) (hhi : hi < 18446744073709551616) (hlo : lo < 18446744073709551616) (hok : ∀ t ∈ its, t.bs.length = t.n ∧ t.ha < 65536 ∧ t.la < 65536 ∧ t.hi < 18446744073709551616 ∧ t.lo < 18446744073709551616) : st1 ki (lps [72, 76] nm0 (flB ki ak ha la hi lo of mt co cm bs its [72, 76])) = (0, pdP ki ak ha la hi lo of mt co cm bs its) ∧ (flB ki ak ha la hi lo of mt co cm bs its [72, 76]).length ≤ 516 := by
  have hcd := chkD_pdP ki ak ha la hi lo of mt co cm n m bs its hn hm (fun t ht => (hok t ht).1)
  rw [hc] at hcd
  have hz := fun j hj hu => chkP_unused ki ak ha la hi lo of mt co cm n m its _ hk hc j hj hu
  obtain rfl : ak = 0 := by have : (ak == 0) = true := hz 0 (by decide) rfl; simpa using this
  obtain rfl : of = 0 := by have : (of == 0) = true := hz 3 (by decide) rfl; simpa using this
  obtain rfl : mt = 0 := by have : (mt == 0) = true := hz 4 (by decide) rfl; simpa using this
  obtain rfl : co = 0 := by have : (co == 0) = true := hz 5 (by decide) rfl; simpa using this
  obtain rfl : cm = false := by have : (!cm) = true := hz 6 (by decide) rfl; simpa using this
  have z7 : hi = 0 ∧ lo = 0 := by have : (decide (hi = 0) && decide (lo = 0)) = true := hz 7 (by decide) rfl; simpa using this
  obtain ⟨rfl, rfl⟩ := z7
  obtain rfl : bs = [] := by have h8 : ((n : Int) == 0) = true := hz 8 (by decide) rfl; simp at h8; exact List.eq_nil_of_length_eq_zero (by omega)
  obtain rfl : its = [] := by have h9 : ((m : Int) == 0) = true := hz 9 (by decide) rfl; simp at h9; exact List.eq_nil_of_length_eq_zero (by omega)
  have hfl : flB ki 0 ha la 0 0 0 0 0 false [] [] [72, 76] = putB ha 2 ++ (putB la 2 ++ ([])) := by simp [flB, ix, leF, fiB, gI, si, siF, List.idxOf_cons]
  rw [hfl]
  constructor
  · rw [lps_num 72 _ _ 2 _ _ (by decide) rfl (vnum_put2 _ (by omega)) (fun h => absurd h (by decide)), lps_num 76 _ _ 2 _ _ (by decide) rfl (vnum_put2 _ (by omega)) (fun h => absurd h (by decide)), show ∀ s b, lps [] s b = (0, s, 0, b) from fun _ _ => rfl]
    unfold st1
    rw [if_neg (by simp)]
    refine st2_back ki _ 0 _ _ (rfl) ?_ hcd
    unfold pdOf pdP
    skip
    try simp [setN, nm0, ix, leF, List.idxOf_cons]

  · first | (simp [putB_len]; done) | (simp [putB_len]; omega) | omega

set_option linter.unusedSimpArgs false in
theorem back_HLT (ki ak : Int) (ha la hi lo : Nat) (of mt co : Int) (cm : Bool) (n m : Nat) (bs : List Nat) (its : List It) (hk : fldC ki = some [72, 76, 84]) (hc : chkP ki ak ha la hi lo of mt co cm n m its = 0) (hn : bs.length = n) (hm : its.length = m) (hha : ha < 65536) (hla : la < 65536) (hhi : hi < 18446744073709551616) (hlo : lo < 18446744073709551616) (hok : ∀ t ∈ its, t.bs.length = t.n ∧ t.ha < 65536 ∧ t.la < 65536 ∧ t.hi < 18446744073709551616 ∧ t.lo < 18446744073709551616) : st1 ki (lps [72, 76, 84] nm0 (flB ki ak ha la hi lo of mt co cm bs its [72, 76, 84])) = (0, pdP ki ak ha la hi lo of mt co cm bs its) ∧ (flB ki ak ha la hi lo of mt co cm bs its [72, 76, 84]).length ≤ 516 := by
  have hcd := chkD_pdP ki ak ha la hi lo of mt co cm n m bs its hn hm (fun t ht => (hok t ht).1)
  rw [hc] at hcd
  have hz := fun j hj hu => chkP_unused ki ak ha la hi lo of mt co cm n m its _ hk hc j hj hu
  obtain rfl : ak = 0 := by have : (ak == 0) = true := hz 0 (by decide) rfl; simpa using this
  obtain rfl : of = 0 := by have : (of == 0) = true := hz 3 (by decide) rfl; simpa using this
  obtain rfl : mt = 0 := by have : (mt == 0) = true := hz 4 (by decide) rfl; simpa using this
  obtain rfl : co = 0 := by have : (co == 0) = true := hz 5 (by decide) rfl; simpa using this
  obtain rfl : cm = false := by have : (!cm) = true := hz 6 (by decide) rfl; simpa using this
  obtain rfl : bs = [] := by have h8 : ((n : Int) == 0) = true := hz 8 (by decide) rfl; simp at h8; exact List.eq_nil_of_length_eq_zero (by omega)
  obtain rfl : its = [] := by have h9 : ((m : Int) == 0) = true := hz 9 (by decide) rfl; simp at h9; exact List.eq_nil_of_length_eq_zero (by omega)
  have hfl : flB ki 0 ha la hi lo 0 0 0 false [] [] [72, 76, 84] = putB ha 2 ++ (putB la 2 ++ (encB hi lo)) := by simp [flB, ix, leF, fiB, gI, si, siF, List.idxOf_cons]
  rw [hfl]
  have he16 := encB_16 hi lo
  constructor
  · rw [lps_num 72 _ _ 2 _ _ (by decide) rfl (vnum_put2 _ (by omega)) (fun h => absurd h (by decide)), lps_num 76 _ _ 2 _ _ (by decide) rfl (vnum_put2 _ (by omega)) (fun h => absurd h (by decide)), lps_rest 84 _ _ (by decide)]
    unfold st1
    rw [if_neg (by simp)]
    refine st2_back ki _ 84 _ _ (by unfold remE; rw [if_pos rfl, decR_encB hi lo hhi hlo]) ?_ hcd
    unfold pdOf pdP
    simp [decR_encB hi lo hhi hlo]
    try simp [setN, nm0, ix, leF, List.idxOf_cons]

  · first | (simp [putB_len]; done) | (simp [putB_len]; omega) | omega

set_option linter.unusedSimpArgs false in
theorem back_H (ki ak : Int) (ha la hi lo : Nat) (of mt co : Int) (cm : Bool) (n m : Nat) (bs : List Nat) (its : List It) (hk : fldC ki = some [72]) (hc : chkP ki ak ha la hi lo of mt co cm n m its = 0) (hn : bs.length = n) (hm : its.length = m) (hha : ha < 65536) (hla : la < 65536) (hhi : hi < 18446744073709551616) (hlo : lo < 18446744073709551616) (hok : ∀ t ∈ its, t.bs.length = t.n ∧ t.ha < 65536 ∧ t.la < 65536 ∧ t.hi < 18446744073709551616 ∧ t.lo < 18446744073709551616) : st1 ki (lps [72] nm0 (flB ki ak ha la hi lo of mt co cm bs its [72])) = (0, pdP ki ak ha la hi lo of mt co cm bs its) ∧ (flB ki ak ha la hi lo of mt co cm bs its [72]).length ≤ 516 := by
  have hcd := chkD_pdP ki ak ha la hi lo of mt co cm n m bs its hn hm (fun t ht => (hok t ht).1)
  rw [hc] at hcd
  have hz := fun j hj hu => chkP_unused ki ak ha la hi lo of mt co cm n m its _ hk hc j hj hu
  obtain rfl : ak = 0 := by have : (ak == 0) = true := hz 0 (by decide) rfl; simpa using this
  obtain rfl : la = 0 := by have : ((la : Int) == 0) = true := hz 2 (by decide) rfl; simp at this; omega
  obtain rfl : of = 0 := by have : (of == 0) = true := hz 3 (by decide) rfl; simpa using this
  obtain rfl : mt = 0 := by have : (mt == 0) = true := hz 4 (by decide) rfl; simpa using this
  obtain rfl : co = 0 := by have : (co == 0) = true := hz 5 (by decide) rfl; simpa using this
  obtain rfl : cm = false := by have : (!cm) = true := hz 6 (by decide) rfl; simpa using this
  have z7 : hi = 0 ∧ lo = 0 := by have : (decide (hi = 0) && decide (lo = 0)) = true := hz 7 (by decide) rfl; simpa using this
  obtain ⟨rfl, rfl⟩ := z7
  obtain rfl : bs = [] := by have h8 : ((n : Int) == 0) = true := hz 8 (by decide) rfl; simp at h8; exact List.eq_nil_of_length_eq_zero (by omega)
  obtain rfl : its = [] := by have h9 : ((m : Int) == 0) = true := hz 9 (by decide) rfl; simp at h9; exact List.eq_nil_of_length_eq_zero (by omega)
  have hfl : flB ki 0 ha 0 0 0 0 0 0 false [] [] [72] = putB ha 2 ++ ([]) := by simp [flB, ix, leF, fiB, gI, si, siF, List.idxOf_cons]
  rw [hfl]
  constructor
  · rw [lps_num 72 _ _ 2 _ _ (by decide) rfl (vnum_put2 _ (by omega)) (fun h => absurd h (by decide)), show ∀ s b, lps [] s b = (0, s, 0, b) from fun _ _ => rfl]
    unfold st1
    rw [if_neg (by simp)]
    refine st2_back ki _ 0 _ _ (rfl) ?_ hcd
    unfold pdOf pdP
    skip
    try simp [setN, nm0, ix, leF, List.idxOf_cons]

  · first | (simp [putB_len]; done) | (simp [putB_len]; omega) | omega

set_option linter.unusedSimpArgs false in
theorem back_HO (ki ak : Int) (ha la hi lo : Nat) (of mt co : Int) (cm : Bool) (n m : Nat) (bs : List Nat) (its : List It) (hk : fldC ki = some [72, 79]) (hc : chkP ki ak ha la hi lo of mt co cm n m its = 0) (hn : bs.length = n) (hm : its.length = m) (hha : ha < 65536) (hla : la < 65536) (hhi : hi < 18446744073709551616) (hlo : lo < 18446744073709551616) (hok : ∀ t ∈ its, t.bs.length = t.n ∧ t.ha < 65536 ∧ t.la < 65536 ∧ t.hi < 18446744073709551616 ∧ t.lo < 18446744073709551616) : st1 ki (lps [72, 79] nm0 (flB ki ak ha la hi lo of mt co cm bs its [72, 79])) = (0, pdP ki ak ha la hi lo of mt co cm bs its) ∧ (flB ki ak ha la hi lo of mt co cm bs its [72, 79]).length ≤ 516 := by
  have hcd := chkD_pdP ki ak ha la hi lo of mt co cm n m bs its hn hm (fun t ht => (hok t ht).1)
  rw [hc] at hcd
  have hz := fun j hj hu => chkP_unused ki ak ha la hi lo of mt co cm n m its _ hk hc j hj hu
  obtain rfl : ak = 0 := by have : (ak == 0) = true := hz 0 (by decide) rfl; simpa using this
  obtain rfl : la = 0 := by have : ((la : Int) == 0) = true := hz 2 (by decide) rfl; simp at this; omega
  obtain rfl : mt = 0 := by have : (mt == 0) = true := hz 4 (by decide) rfl; simpa using this
  obtain rfl : co = 0 := by have : (co == 0) = true := hz 5 (by decide) rfl; simpa using this
  obtain rfl : cm = false := by have : (!cm) = true := hz 6 (by decide) rfl; simpa using this
  have z7 : hi = 0 ∧ lo = 0 := by have : (decide (hi = 0) && decide (lo = 0)) = true := hz 7 (by decide) rfl; simpa using this
  obtain ⟨rfl, rfl⟩ := z7
  obtain rfl : bs = [] := by have h8 : ((n : Int) == 0) = true := hz 8 (by decide) rfl; simp at h8; exact List.eq_nil_of_length_eq_zero (by omega)
  obtain rfl : its = [] := by have h9 : ((m : Int) == 0) = true := hz 9 (by decide) rfl; simp at h9; exact List.eq_nil_of_length_eq_zero (by omega)
  obtain ⟨qO, rO, sO⟩ := gI_ok ki 0 ha 0 0 0 of 0 0 false n m _ _ hk hha hla hc 3 (by decide) rfl
  change 0 ≤ of at qO
  change of < 65536 at rO
  obtain ⟨XO, rfl⟩ := Int.eq_ofNat_of_zero_le qO
  have hfl : flB ki 0 ha 0 0 0 XO 0 0 false [] [] [72, 79] = putB ha 2 ++ (putB XO 2 ++ ([])) := by simp [flB, ix, leF, fiB, gI, si, siF, List.idxOf_cons]
  rw [hfl]
  constructor
  · rw [lps_num 72 _ _ 2 _ _ (by decide) rfl (vnum_put2 _ (by omega)) (fun h => absurd h (by decide)), lps_num 79 _ _ 2 _ _ (by decide) rfl (vnum_put2 _ (by omega)) (fun h => absurd h (by decide)), show ∀ s b, lps [] s b = (0, s, 0, b) from fun _ _ => rfl]
    unfold st1
    rw [if_neg (by simp)]
    refine st2_back ki _ 0 _ _ (rfl) ?_ hcd
    unfold pdOf pdP
    skip
    try simp [setN, nm0, ix, leF, List.idxOf_cons]

  · first | (simp [putB_len]; done) | (simp [putB_len]; omega) | omega

set_option linter.unusedSimpArgs false in
theorem back_V (ki ak : Int) (ha la hi lo : Nat) (of mt co : Int) (cm : Bool) (n m : Nat) (bs : List Nat) (its : List It) (hk : fldC ki = some [86]) (hc : chkP ki ak ha la hi lo of mt co cm n m its = 0) (hn : bs.length = n) (hm : its.length = m) (hha : ha < 65536) (hla : la < 65536) (hhi : hi < 18446744073709551616) (hlo : lo < 18446744073709551616) (hok : ∀ t ∈ its, t.bs.length = t.n ∧ t.ha < 65536 ∧ t.la < 65536 ∧ t.hi < 18446744073709551616 ∧ t.lo < 18446744073709551616) : st1 ki (lps [86] nm0 (flB ki ak ha la hi lo of mt co cm bs its [86])) = (0, pdP ki ak ha la hi lo of mt co cm bs its) ∧ (flB ki ak ha la hi lo of mt co cm bs its [86]).length ≤ 516 := by
  have hcd := chkD_pdP ki ak ha la hi lo of mt co cm n m bs its hn hm (fun t ht => (hok t ht).1)
  rw [hc] at hcd
  have hz := fun j hj hu => chkP_unused ki ak ha la hi lo of mt co cm n m its _ hk hc j hj hu
  obtain rfl : ak = 0 := by have : (ak == 0) = true := hz 0 (by decide) rfl; simpa using this
  obtain rfl : la = 0 := by have : ((la : Int) == 0) = true := hz 2 (by decide) rfl; simp at this; omega
  obtain rfl : of = 0 := by have : (of == 0) = true := hz 3 (by decide) rfl; simpa using this
  obtain rfl : mt = 0 := by have : (mt == 0) = true := hz 4 (by decide) rfl; simpa using this
  obtain rfl : co = 0 := by have : (co == 0) = true := hz 5 (by decide) rfl; simpa using this
  obtain rfl : cm = false := by have : (!cm) = true := hz 6 (by decide) rfl; simpa using this
  have z7 : hi = 0 ∧ lo = 0 := by have : (decide (hi = 0) && decide (lo = 0)) = true := hz 7 (by decide) rfl; simpa using this
  obtain ⟨rfl, rfl⟩ := z7
  obtain rfl : ha = 0 := by have : ((ha : Int) == 0) = true := hz 1 (by decide) rfl; simp at this; omega
  obtain rfl : its = [] := by have h9 : ((m : Int) == 0) = true := hz 9 (by decide) rfl; simp at h9; exact List.eq_nil_of_length_eq_zero (by omega)
  have hfl : flB ki 0 0 0 0 0 0 0 0 false bs [] [86] = bs := by simp [flB, ix, leF, fiB, gI, si, siF, List.idxOf_cons]
  rw [hfl]
  have hv5 := val_ok _ _ _ _ _ _ _ _ _ _ n m _ _ hk hc rfl
  constructor
  · rw [lps_rest 86 _ _ (by decide)]
    unfold st1
    rw [if_neg (by simp)]
    refine st2_back ki _ 86 _ _ (rfl) ?_ hcd
    unfold pdOf pdP
    skip
    try simp [setN, nm0, ix, leF, List.idxOf_cons]

  · first | (simp [putB_len]; done) | (simp [putB_len]; omega) | omega

set_option linter.unusedSimpArgs false in
theorem back_HV (ki ak : Int) (ha la hi lo : Nat) (of mt co : Int) (cm : Bool) (n m : Nat) (bs : List Nat) (its : List It) (hk : fldC ki = some [72, 86]) (hc : chkP ki ak ha la hi lo of mt co cm n m its = 0) (hn : bs.length = n) (hm : its.length = m) (hha : ha < 65536) (hla : la < 65536) (hhi : hi < 18446744073709551616) (hlo : lo < 18446744073709551616) (hok : ∀ t ∈ its, t.bs.length = t.n ∧ t.ha < 65536 ∧ t.la < 65536 ∧ t.hi < 18446744073709551616 ∧ t.lo < 18446744073709551616) : st1 ki (lps [72, 86] nm0 (flB ki ak ha la hi lo of mt co cm bs its [72, 86])) = (0, pdP ki ak ha la hi lo of mt co cm bs its) ∧ (flB ki ak ha la hi lo of mt co cm bs its [72, 86]).length ≤ 516 := by
  have hcd := chkD_pdP ki ak ha la hi lo of mt co cm n m bs its hn hm (fun t ht => (hok t ht).1)
  rw [hc] at hcd
  have hz := fun j hj hu => chkP_unused ki ak ha la hi lo of mt co cm n m its _ hk hc j hj hu
  obtain rfl : ak = 0 := by have : (ak == 0) = true := hz 0 (by decide) rfl; simpa using this
  obtain rfl : la = 0 := by have : ((la : Int) == 0) = true := hz 2 (by decide) rfl; simp at this; omega
  obtain rfl : of = 0 := by have : (of == 0) = true := hz 3 (by decide) rfl; simpa using this
  obtain rfl : mt = 0 := by have : (mt == 0) = true := hz 4 (by decide) rfl; simpa using this
  obtain rfl : co = 0 := by have : (co == 0) = true := hz 5 (by decide) rfl; simpa using this
  obtain rfl : cm = false := by have : (!cm) = true := hz 6 (by decide) rfl; simpa using this
  have z7 : hi = 0 ∧ lo = 0 := by have : (decide (hi = 0) && decide (lo = 0)) = true := hz 7 (by decide) rfl; simpa using this
  obtain ⟨rfl, rfl⟩ := z7
  obtain rfl : its = [] := by have h9 : ((m : Int) == 0) = true := hz 9 (by decide) rfl; simp at h9; exact List.eq_nil_of_length_eq_zero (by omega)
  have hfl : flB ki 0 ha 0 0 0 0 0 0 false bs [] [72, 86] = putB ha 2 ++ (bs) := by simp [flB, ix, leF, fiB, gI, si, siF, List.idxOf_cons]
  rw [hfl]
  have hv5 := val_ok _ _ _ _ _ _ _ _ _ _ n m _ _ hk hc rfl
  constructor
  · rw [lps_num 72 _ _ 2 _ _ (by decide) rfl (vnum_put2 _ (by omega)) (fun h => absurd h (by decide)), lps_rest 86 _ _ (by decide)]
    unfold st1
    rw [if_neg (by simp)]
    refine st2_back ki _ 86 _ _ (rfl) ?_ hcd
    unfold pdOf pdP
    skip
    try simp [setN, nm0, ix, leF, List.idxOf_cons]

  · first | (simp [putB_len]; done) | (simp [putB_len]; omega) | omega

set_option linter.unusedSimpArgs false in
theorem back_HOV (ki ak : Int) (ha la hi lo : Nat) (of mt co : Int) (cm : Bool) (n m : Nat) (bs : List Nat) (its : List It) (hk : fldC ki = some [72, 79, 86]) (hc : chkP ki ak ha la hi lo of mt co cm n m its = 0) (hn : bs.length = n) (hm : its.length = m) (hha : ha < 65536) (hla : la < 65536) (hhi : hi < 18446744073709551616) (hlo : lo < 18446744073709551616) (hok : ∀ t ∈ its, t.bs.length = t.n ∧ t.ha < 65536 ∧ t.la < 65536 ∧ t.hi < 18446744073709551616 ∧ t.lo < 18446744073709551616) : st1 ki (lps [72, 79, 86] nm0 (flB ki ak ha la hi lo of mt co cm bs its [72, 79, 86])) = (0, pdP ki ak ha la hi lo of mt co cm bs its) ∧ (flB ki ak ha la hi lo of mt co cm bs its [72, 79, 86]).length ≤ 516 := by
  have hcd := chkD_pdP ki ak ha la hi lo of mt co cm n m bs its hn hm (fun t ht => (hok t ht).1)
  rw [hc] at hcd
  have hz := fun j hj hu => chkP_unused ki ak ha la hi lo of mt co cm n m its _ hk hc j hj hu
  obtain rfl : ak = 0 := by have : (ak == 0) = true := hz 0 (by decide) rfl; simpa using this
  obtain rfl : la = 0 := by have : ((la : Int) == 0) = true := hz 2 (by decide) rfl; simp at this; omega
  obtain rfl : mt = 0 := by have : (mt == 0) = true := hz 4 (by decide) rfl; simpa using this
  obtain rfl : co = 0 := by have : (co == 0) = true := hz 5 (by decide) rfl; simpa using this
  obtain rfl : cm = false := by have : (!cm) = true := hz 6 (by decide) rfl; simpa using this
  have z7 : hi = 0 ∧ lo = 0 := by have : (decide (hi = 0) && decide (lo = 0)) = true := hz 7 (by decide) rfl; simpa using this
  obtain ⟨rfl, rfl⟩ := z7
  obtain rfl : its = [] := by have h9 : ((m : Int) == 0) = true := hz 9 (by decide) rfl; simp at h9; exact List.eq_nil_of_length_eq_zero (by omega)
  obtain ⟨qO, rO, sO⟩ := gI_ok ki 0 ha 0 0 0 of 0 0 false n m _ _ hk hha hla hc 3 (by decide) rfl
  change 0 ≤ of at qO
  change of < 65536 at rO
  obtain ⟨XO, rfl⟩ := Int.eq_ofNat_of_zero_le qO
  have hfl : flB ki 0 ha 0 0 0 XO 0 0 false bs [] [72, 79, 86] = putB ha 2 ++ (putB XO 2 ++ (bs)) := by simp [flB, ix, leF, fiB, gI, si, siF, List.idxOf_cons]
  rw [hfl]
  have hv5 := val_ok _ _ _ _ _ _ _ _ _ _ n m _ _ hk hc rfl
  constructor
  · rw [lps_num 72 _ _ 2 _ _ (by decide) rfl (vnum_put2 _ (by omega)) (fun h => absurd h (by decide)), lps_num 79 _ _ 2 _ _ (by decide) rfl (vnum_put2 _ (by omega)) (fun h => absurd h (by decide)), lps_rest 86 _ _ (by decide)]
    unfold st1
    rw [if_neg (by simp)]
    refine st2_back ki _ 86 _ _ (rfl) ?_ hcd
    unfold pdOf pdP
    skip
    try simp [setN, nm0, ix, leF, List.idxOf_cons]

  · first | (simp [putB_len]; done) | (simp [putB_len]; omega) | omega

set_option linter.unusedSimpArgs false in
theorem back_X (ki ak : Int) (ha la hi lo : Nat) (of mt co : Int) (cm : Bool) (n m : Nat) (bs : List Nat) (its : List It) (hk : fldC ki = some [88]) (hc : chkP ki ak ha la hi lo of mt co cm n m its = 0) (hn : bs.length = n) (hm : its.length = m) (hha : ha < 65536) (hla : la < 65536) (hhi : hi < 18446744073709551616) (hlo : lo < 18446744073709551616) (hok : ∀ t ∈ its, t.bs.length = t.n ∧ t.ha < 65536 ∧ t.la < 65536 ∧ t.hi < 18446744073709551616 ∧ t.lo < 18446744073709551616) : st1 ki (lps [88] nm0 (flB ki ak ha la hi lo of mt co cm bs its [88])) = (0, pdP ki ak ha la hi lo of mt co cm bs its) ∧ (flB ki ak ha la hi lo of mt co cm bs its [88]).length ≤ 516 := by
  have hcd := chkD_pdP ki ak ha la hi lo of mt co cm n m bs its hn hm (fun t ht => (hok t ht).1)
  rw [hc] at hcd
  have hz := fun j hj hu => chkP_unused ki ak ha la hi lo of mt co cm n m its _ hk hc j hj hu
  obtain rfl : ak = 0 := by have : (ak == 0) = true := hz 0 (by decide) rfl; simpa using this
  obtain rfl : la = 0 := by have : ((la : Int) == 0) = true := hz 2 (by decide) rfl; simp at this; omega
  obtain rfl : of = 0 := by have : (of == 0) = true := hz 3 (by decide) rfl; simpa using this
  obtain rfl : mt = 0 := by have : (mt == 0) = true := hz 4 (by decide) rfl; simpa using this
  obtain rfl : co = 0 := by have : (co == 0) = true := hz 5 (by decide) rfl; simpa using this
  have z7 : hi = 0 ∧ lo = 0 := by have : (decide (hi = 0) && decide (lo = 0)) = true := hz 7 (by decide) rfl; simpa using this
  obtain ⟨rfl, rfl⟩ := z7
  obtain rfl : ha = 0 := by have : ((ha : Int) == 0) = true := hz 1 (by decide) rfl; simp at this; omega
  obtain rfl : bs = [] := by have h8 : ((n : Int) == 0) = true := hz 8 (by decide) rfl; simp at h8; exact List.eq_nil_of_length_eq_zero (by omega)
  obtain rfl : its = [] := by have h9 : ((m : Int) == 0) = true := hz 9 (by decide) rfl; simp at h9; exact List.eq_nil_of_length_eq_zero (by omega)
  have hfl : flB ki 0 0 0 0 0 0 0 0 cm [] [] [88] = putB (bitI cm).toNat 1 ++ ([]) := by simp [flB, ix, leF, fiB, gI, si, siF, List.idxOf_cons]
  rw [hfl]
  have hx1 : (bitI cm).toNat ≤ 1 := by cases cm <;> decide
  constructor
  · rw [lps_num 88 _ _ 1 _ _ (by decide) rfl (vnum_put1 _ (by omega)) (fun _ => hx1), show ∀ s b, lps [] s b = (0, s, 0, b) from fun _ _ => rfl]
    unfold st1
    rw [if_neg (by simp)]
    refine st2_back ki _ 0 _ _ (rfl) ?_ hcd
    unfold pdOf pdP
    skip
    try simp [setN, nm0, bitI, ix, leF, List.idxOf_cons]
    try (cases cm <;> rfl)
  · first | (simp [putB_len]; done) | (simp [putB_len]; omega) | omega

set_option linter.unusedSimpArgs false in
theorem back_n (ki ak : Int) (ha la hi lo : Nat) (of mt co : Int) (cm : Bool) (n m : Nat) (bs : List Nat) (its : List It) (hk : fldC ki = some []) (hc : chkP ki ak ha la hi lo of mt co cm n m its = 0) (hn : bs.length = n) (hm : its.length = m) (hha : ha < 65536) (hla : la < 65536) (hhi : hi < 18446744073709551616) (hlo : lo < 18446744073709551616) (hok : ∀ t ∈ its, t.bs.length = t.n ∧ t.ha < 65536 ∧ t.la < 65536 ∧ t.hi < 18446744073709551616 ∧ t.lo < 18446744073709551616) : st1 ki (lps [] nm0 (flB ki ak ha la hi lo of mt co cm bs its [])) = (0, pdP ki ak ha la hi lo of mt co cm bs its) ∧ (flB ki ak ha la hi lo of mt co cm bs its []).length ≤ 516 := by
  have hcd := chkD_pdP ki ak ha la hi lo of mt co cm n m bs its hn hm (fun t ht => (hok t ht).1)
  rw [hc] at hcd
  have hz := fun j hj hu => chkP_unused ki ak ha la hi lo of mt co cm n m its _ hk hc j hj hu
  obtain rfl : ak = 0 := by have : (ak == 0) = true := hz 0 (by decide) rfl; simpa using this
  obtain rfl : la = 0 := by have : ((la : Int) == 0) = true := hz 2 (by decide) rfl; simp at this; omega
  obtain rfl : of = 0 := by have : (of == 0) = true := hz 3 (by decide) rfl; simpa using this
  obtain rfl : mt = 0 := by have : (mt == 0) = true := hz 4 (by decide) rfl; simpa using this
  obtain rfl : co = 0 := by have : (co == 0) = true := hz 5 (by decide) rfl; simpa using this
  obtain rfl : cm = false := by have : (!cm) = true := hz 6 (by decide) rfl; simpa using this
  have z7 : hi = 0 ∧ lo = 0 := by have : (decide (hi = 0) && decide (lo = 0)) = true := hz 7 (by decide) rfl; simpa using this
  obtain ⟨rfl, rfl⟩ := z7
  obtain rfl : ha = 0 := by have : ((ha : Int) == 0) = true := hz 1 (by decide) rfl; simp at this; omega
  obtain rfl : bs = [] := by have h8 : ((n : Int) == 0) = true := hz 8 (by decide) rfl; simp at h8; exact List.eq_nil_of_length_eq_zero (by omega)
  obtain rfl : its = [] := by have h9 : ((m : Int) == 0) = true := hz 9 (by decide) rfl; simp at h9; exact List.eq_nil_of_length_eq_zero (by omega)
  have hfl : flB ki 0 0 0 0 0 0 0 0 false [] [] [] = [] := by simp [flB, ix, leF, fiB, gI, si, siF, List.idxOf_cons]
  rw [hfl]
  constructor
  · rw [show ∀ s b, lps [] s b = (0, s, 0, b) from fun _ _ => rfl]
    unfold st1
    rw [if_neg (by simp)]
    refine st2_back ki _ 0 _ _ (rfl) ?_ hcd
    unfold pdOf pdP
    skip
    try simp [setN, nm0, ix, leF, List.idxOf_cons]

  · first | (simp [putB_len]; done) | (simp [putB_len]; omega) | omega

set_option linter.unusedSimpArgs false in
theorem back_I (ki ak : Int) (ha la hi lo : Nat) (of mt co : Int) (cm : Bool) (n m : Nat) (bs : List Nat) (its : List It) (hk : fldC ki = some [73]) (hc : chkP ki ak ha la hi lo of mt co cm n m its = 0) (hn : bs.length = n) (hm : its.length = m) (hha : ha < 65536) (hla : la < 65536) (hhi : hi < 18446744073709551616) (hlo : lo < 18446744073709551616) (hok : ∀ t ∈ its, t.bs.length = t.n ∧ t.ha < 65536 ∧ t.la < 65536 ∧ t.hi < 18446744073709551616 ∧ t.lo < 18446744073709551616) : st1 ki (lps [73] nm0 (flB ki ak ha la hi lo of mt co cm bs its [73])) = (0, pdP ki ak ha la hi lo of mt co cm bs its) ∧ (flB ki ak ha la hi lo of mt co cm bs its [73]).length ≤ 516 := by
  have hcd := chkD_pdP ki ak ha la hi lo of mt co cm n m bs its hn hm (fun t ht => (hok t ht).1)
  rw [hc] at hcd
  have hz := fun j hj hu => chkP_unused ki ak ha la hi lo of mt co cm n m its _ hk hc j hj hu
  obtain rfl : ak = 0 := by have : (ak == 0) = true := hz 0 (by decide) rfl; simpa using this
  obtain rfl : la = 0 := by have : ((la : Int) == 0) = true := hz 2 (by decide) rfl; simp at this; omega
  obtain rfl : of = 0 := by have : (of == 0) = true := hz 3 (by decide) rfl; simpa using this
  obtain rfl : mt = 0 := by have : (mt == 0) = true := hz 4 (by decide) rfl; simpa using this
  obtain rfl : co = 0 := by have : (co == 0) = true := hz 5 (by decide) rfl; simpa using this
  obtain rfl : cm = false := by have : (!cm) = true := hz 6 (by decide) rfl; simpa using this
  have z7 : hi = 0 ∧ lo = 0 := by have : (decide (hi = 0) && decide (lo = 0)) = true := hz 7 (by decide) rfl; simpa using this
  obtain ⟨rfl, rfl⟩ := z7
  obtain rfl : ha = 0 := by have : ((ha : Int) == 0) = true := hz 1 (by decide) rfl; simp at this; omega
  obtain rfl : bs = [] := by have h8 : ((n : Int) == 0) = true := hz 8 (by decide) rfl; simp at h8; exact List.eq_nil_of_length_eq_zero (by omega)
  have hfl : flB ki 0 0 0 0 0 0 0 0 false [] its [73] = elB ki its := by simp [flB, ix, leF, fiB, gI, si, siF, List.idxOf_cons]
  rw [hfl]
  obtain ⟨l1, l2, l3⟩ := list_back ki (fldC_I ki _ hk (by decide)) its (chkP_list _ _ _ _ _ _ _ _ _ _ _ _ _ _ hk hc rfl) hok
  constructor
  · rw [lps_rest 73 _ _ (by decide)]
    unfold st1
    rw [if_neg (by simp)]
    refine st2_back ki _ 73 _ _ (l1) ?_ hcd
    unfold pdOf pdP
    simp [l2]
    try simp [setN, nm0, ix, leF, List.idxOf_cons]

  · first | (simp [putB_len]; done) | (simp [putB_len]; omega) | omega

theorem back_any (ki ak : Int) (ha la hi lo : Nat) (of mt co : Int) (cm : Bool) (n m : Nat) (bs : List Nat) (its : List It) (hc : chkP ki ak ha la hi lo of mt co cm n m its = 0) (hn : bs.length = n) (hm : its.length = m) (hha : ha < 65536) (hla : la < 65536) (hhi : hi < 18446744073709551616) (hlo : lo < 18446744073709551616) (hok : ∀ t ∈ its, t.bs.length = t.n ∧ t.ha < 65536 ∧ t.la < 65536 ∧ t.hi < 18446744073709551616 ∧ t.lo < 18446744073709551616) : decP (encP ki ak ha la hi lo of mt co cm bs its) = (0, pdP ki ak ha la hi lo of mt co cm bs its) ∧ 1 ≤ (encP ki ak ha la hi lo of mt co cm bs its).length ∧ (encP ki ak ha la hi lo of mt co cm bs its).length ≤ 517 := by
  have key : ∀ u, fldC ki = some u → byt ki.toNat 0 = ki.toNat → (ki.toNat : Int) = ki → (st1 ki (lps u nm0 (flB ki ak ha la hi lo of mt co cm bs its u)) = (0, pdP ki ak ha la hi lo of mt co cm bs its) ∧ (flB ki ak ha la hi lo of mt co cm bs its u).length ≤ 516) → decP (encP ki ak ha la hi lo of mt co cm bs its) = (0, pdP ki ak ha la hi lo of mt co cm bs its) ∧ 1 ≤ (encP ki ak ha la hi lo of mt co cm bs its).length ∧ (encP ki ak ha la hi lo of mt co cm bs its).length ≤ 517 := by
    intro u hu hb hk ⟨h1, h2⟩
    have he : encP ki ak ha la hi lo of mt co cm bs its = ki.toNat :: flB ki ak ha la hi lo of mt co cm bs its u := by unfold encP; rw [hu, hb]; rfl
    rw [he]
    refine ⟨?_, by simp, by rw [List.length_cons]; omega⟩
    simp only [decP, hk, hu]
    rw [if_neg (by omega)]
    exact h1
  rcases att_kinds ki with rfl | rfl | rfl | rfl | rfl | rfl | rfl | rfl | rfl | rfl | rfl | rfl | rfl | rfl | rfl | rfl | rfl | rfl | rfl | rfl | rfl | rfl | rfl | hne
  · exact key _ rfl rfl rfl (back_AHC 1 ak ha la hi lo of mt co cm n m bs its rfl hc hn hm hha hla hhi hlo hok)
  · exact key _ rfl rfl rfl (back_M 2 ak ha la hi lo of mt co cm n m bs its rfl hc hn hm hha hla hhi hlo hok)
  · exact key _ rfl rfl rfl (back_M 3 ak ha la hi lo of mt co cm n m bs its rfl hc hn hm hha hla hhi hlo hok)
  · exact key _ rfl rfl rfl (back_HL 4 ak ha la hi lo of mt co cm n m bs its rfl hc hn hm hha hla hhi hlo hok)
  · exact key _ rfl rfl rfl (back_I 5 ak ha la hi lo of mt co cm n m bs its rfl hc hn hm hha hla hhi hlo hok)
  · exact key _ rfl rfl rfl (back_HLT 8 ak ha la hi lo of mt co cm n m bs its rfl hc hn hm hha hla hhi hlo hok)
  · exact key _ rfl rfl rfl (back_I 9 ak ha la hi lo of mt co cm n m bs its rfl hc hn hm hha hla hhi hlo hok)
  · exact key _ rfl rfl rfl (back_H 10 ak ha la hi lo of mt co cm n m bs its rfl hc hn hm hha hla hhi hlo hok)
  · exact key _ rfl rfl rfl (back_V 11 ak ha la hi lo of mt co cm n m bs its rfl hc hn hm hha hla hhi hlo hok)
  · exact key _ rfl rfl rfl (back_HO 12 ak ha la hi lo of mt co cm n m bs its rfl hc hn hm hha hla hhi hlo hok)
  · exact key _ rfl rfl rfl (back_V 13 ak ha la hi lo of mt co cm n m bs its rfl hc hn hm hha hla hhi hlo hok)
  · exact key _ rfl rfl rfl (back_HLT 16 ak ha la hi lo of mt co cm n m bs its rfl hc hn hm hha hla hhi hlo hok)
  · exact key _ rfl rfl rfl (back_I 17 ak ha la hi lo of mt co cm n m bs its rfl hc hn hm hha hla hhi hlo hok)
  · exact key _ rfl rfl rfl (back_HV 18 ak ha la hi lo of mt co cm n m bs its rfl hc hn hm hha hla hhi hlo hok)
  · exact key _ rfl rfl rfl (back_n 19 ak ha la hi lo of mt co cm n m bs its rfl hc hn hm hha hla hhi hlo hok)
  · exact key _ rfl rfl rfl (back_HOV 22 ak ha la hi lo of mt co cm n m bs its rfl hc hn hm hha hla hhi hlo hok)
  · exact key _ rfl rfl rfl (back_HOV 23 ak ha la hi lo of mt co cm n m bs its rfl hc hn hm hha hla hhi hlo hok)
  · exact key _ rfl rfl rfl (back_X 24 ak ha la hi lo of mt co cm n m bs its rfl hc hn hm hha hla hhi hlo hok)
  · exact key _ rfl rfl rfl (back_n 25 ak ha la hi lo of mt co cm n m bs its rfl hc hn hm hha hla hhi hlo hok)
  · exact key _ rfl rfl rfl (back_HV 27 ak ha la hi lo of mt co cm n m bs its rfl hc hn hm hha hla hhi hlo hok)
  · exact key _ rfl rfl rfl (back_HV 29 ak ha la hi lo of mt co cm n m bs its rfl hc hn hm hha hla hhi hlo hok)
  · exact key _ rfl rfl rfl (back_n 30 ak ha la hi lo of mt co cm n m bs its rfl hc hn hm hha hla hhi hlo hok)
  · exact key _ rfl rfl rfl (back_HV 82 ak ha la hi lo of mt co cm n m bs its rfl hc hn hm hha hla hhi hlo hok)
  · have : chkP ki ak ha la hi lo of mt co cm n m its = 12 := by unfold chkP; rw [fldC_none ki hne]
    rw [this] at hc
    cases hc
end Go.Proofs.Ythnffdlnhfhabaa
