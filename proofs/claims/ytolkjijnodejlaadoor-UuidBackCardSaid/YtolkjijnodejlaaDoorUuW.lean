/- uuid: unhex of the reference. -/
import Derived.Test.YtolkjijnodejlaaDoorUuV
namespace Go.Proofs.YtolkjijnodejlaaDoor
open Go.RowKit

theorem uhF_cons_some {acc c d : Nat} {l : List Nat} (h : nib c = some d) : uhF acc (c :: l) = uhF (acc * 16 + d) l := by rw [uhF, h]
theorem uhF_cons_none {acc c : Nat} {l : List Nat} (h : nib c = none) : uhF acc (c :: l) = none := by rw [uhF, h]
set_option linter.unusedSimpArgs false in
set_option linter.unusedVariables false in
set_option maxRecDepth 100000 in
set_option maxHeartbeats 2000000 in
theorem runhex_any (ss : List Nat) (hb : ∀ x ∈ ss, x < 256) (hm : ss.length ≤ 16) (w : World) :
    Calls Tryd.prog 28 #[.string (strB ss)] w fun e w' => e = .returned (.tuple #[.int .u64 (((uhF 0 ss).getD 0 : Nat) : Int), .bool (uhF 0 ss).isSome]) ∧ w = w' := by
  have hs := strB_size ss
  obtain ⟨n, hn⟩ : ∃ n, ss.length = n := ⟨_, rfl⟩
  rw [hn] at hs hm
  obtain ⟨R, hR⟩ : ∃ R, uhF 0 ss = R := ⟨_, rfl⟩
  rw [hR]
  obtain ⟨r1, hr1⟩ : ∃ r : Int, ((R.getD 0 : Nat) : Int) = r := ⟨_, rfl⟩
  obtain ⟨r2, hr2⟩ : ∃ r, R.isSome = r := ⟨_, rfl⟩
  rw [hr1, hr2]
  have HR := Lib.hid hR
  have HR1 := Lib.hid hr1
  have HR2 := Lib.hid hr2
  have HN := Lib.hid hn
  have HB := Lib.hid hb
  clear hn hb hR hr1 hr2
  go_enter Tryd.func28, Tryd.ntmps28
  go_wp2
  go_loop [4, 5, 6] (fun x i _ => ∃ (k N : Nat), i = .int .i64 k ∧ k ≤ n ∧ x = .int .u64 (N : Int) ∧ Hid (N < 16 ^ k) ∧ Hid (uhF 0 ss = uhF N (ss.drop k))) (fun _ i _ => n - (intOf i).toNat)
  case atStart => exact ⟨0, 0, by simp, Nat.zero_le _, rfl, Lib.hid (by decide), Lib.hid rfl⟩
  case round =>
    obtain ⟨k, N, rfl, hk, rfl, hN, hu⟩ := hrel
    by_cases hlt : k < n
    · have g1 : decide (k < n) = true := by simpa using hlt
      have h0 : k < ss.length := by rw [HN.out]; exact hlt
      have r1' := fun W => run_idx_str ss HB.out k h0 W
      have hd := List.drop_eq_getElem_cons h0
      have hc := HB.out _ (List.getElem_mem h0)
      obtain ⟨c, hcc⟩ : ∃ a, ss[k] = a := ⟨_, rfl⟩
      simp only [hcc] at r1'
      rw [hcc] at hd hc
      have hu2 := hu.out
      rw [hd] at hu2
      have HU := Lib.hid hu2
      have hNb : N < 1152921504606846976 := by
        have h1 := hN.out
        have h2 : 16 ^ k ≤ 16 ^ 15 := Nat.pow_le_pow_right (by decide) (by omega)
        have h3 : (16 : Nat) ^ 15 = 1152921504606846976 := by decide
        omega
      have w1 : IntKind.i64.wrap ((k : Int) + 1) = (k : Int) + 1 := IntWalk.i64_in _ (by omega)
      have w2 : IntKind.u64.wrap ((N : Int) * 16) = (N : Int) * 16 := IntWalk.u64_in _ (by omega)
      clear hu2 hu hd hcc h0
      by_cases h1 : 48 ≤ c ∧ c ≤ 57
      · have hnib : nib c = some (c - 48) := by unfold nib; rw [if_pos h1]
        obtain ⟨d, hd⟩ : ∃ d, c - 48 = d := ⟨_, rfl⟩
        rw [hd] at hnib
        have hcd : c = d + 48 := by omega
        have hst := HU.out.trans (uhF_cons_some hnib)
        have HS : Hid (N * 16 + d < 16 ^ (k + 1)) := Lib.hid (by have := hN.out; rw [Nat.pow_succ]; omega)
        have HST := Lib.hid hst
        have t1 : decide ((48 : Int) ≤ (c : Int)) = true := by simp; omega
        have t2 : decide ((c : Int) ≤ (57 : Int)) = true := by simp; omega
        have t1' : decide (48 ≤ c) = true := by simp; omega
        have t2' : decide (c ≤ 57) = true := by simp; omega
        have w3 : IntKind.u8.wrap ((c : Int) - 48) = (d : Int) := by rw [IntWalk.u8_in _ (by omega)]; omega
        have w4 : IntKind.u64.wrap (d : Int) = (d : Int) := IntWalk.u64_in _ (by omega)
        have w5 : IntKind.u64.wrap ((N : Int) * 16 + (d : Int)) = (N : Int) * 16 + (d : Int) := IntWalk.u64_in _ (by omega)
        clear hst hnib HU hNb hN hcd hd h1
        go_wp2
        refine ⟨⟨k + 1, N * 16 + d, by simp, hlt, by simp, HS, HST⟩, ?_⟩
        simp [intOf]
        omega
      · by_cases h2 : 97 ≤ c ∧ c ≤ 102
        · have hnib : nib c = some (c - 87) := by unfold nib; rw [if_neg h1, if_pos h2]
          obtain ⟨d, hd⟩ : ∃ d, c - 87 = d := ⟨_, rfl⟩
          rw [hd] at hnib
          have hcd : c = d + 87 := by omega
          have hst := HU.out.trans (uhF_cons_some hnib)
          have HS : Hid (N * 16 + d < 16 ^ (k + 1)) := Lib.hid (by have := hN.out; rw [Nat.pow_succ]; omega)
          have HST := Lib.hid hst
          have t1 : decide ((48 : Int) ≤ (c : Int)) = true := by simp; omega
          have t2 : decide ((c : Int) ≤ (57 : Int)) = false := by simp; omega
          have t1' : decide (48 ≤ c) = true := by simp; omega
          have t2' : decide (c ≤ 57) = false := by simp; omega
          have t3 : decide ((97 : Int) ≤ (c : Int)) = true := by simp; omega
          have t4 : decide ((c : Int) ≤ (102 : Int)) = true := by simp; omega
          have t3' : decide (97 ≤ c) = true := by simp; omega
          have t4' : decide (c ≤ 102) = true := by simp; omega
          obtain ⟨e, he⟩ : ∃ e, d = e + 10 := ⟨d - 10, by omega⟩
          have w3 : IntKind.u8.wrap ((c : Int) - 97) = (e : Int) := by rw [IntWalk.u8_in _ (by omega)]; omega
          have w4 : IntKind.u64.wrap (e : Int) = (e : Int) := IntWalk.u64_in _ (by omega)
          have w5 : IntKind.u64.wrap ((N : Int) * 16 + (e : Int)) = (N : Int) * 16 + (e : Int) := IntWalk.u64_in _ (by omega)
          have w6 : IntKind.u64.wrap ((N : Int) * 16 + (e : Int) + 10) = ((N * 16 + d : Nat) : Int) := by rw [IntWalk.u64_in _ (by omega)]; omega
          obtain ⟨V, hV⟩ : ∃ V : Nat, N * 16 + d = V := ⟨_, rfl⟩
          rw [hV] at w6 HS HST
          clear hst hnib HU hNb hN hcd hd h1 h2 he hV
          go_wp2
          refine ⟨⟨k + 1, V, by simp, hlt, rfl, HS, HST⟩, ?_⟩
          simp [intOf]
          omega
        · have hnib : nib c = none := by unfold nib; rw [if_neg h1, if_neg h2]
          have hst := HU.out.trans (uhF_cons_none hnib)
          have hRn : R = none := HR.out.symm.trans hst
          have e1 : r1 = 0 := by rw [← HR1.out, hRn]; rfl
          have e2 : r2 = false := by rw [← HR2.out, hRn]; rfl
          subst e1 e2
          obtain ⟨q1, hq1⟩ : ∃ q, decide ((48 : Int) ≤ (c : Int)) = q := ⟨_, rfl⟩
          obtain ⟨q2, hq2⟩ : ∃ q, decide ((c : Int) ≤ (57 : Int)) = q := ⟨_, rfl⟩
          obtain ⟨q3, hq3⟩ : ∃ q, decide ((97 : Int) ≤ (c : Int)) = q := ⟨_, rfl⟩
          obtain ⟨q4, hq4⟩ : ∃ q, decide ((c : Int) ≤ (102 : Int)) = q := ⟨_, rfl⟩
          have hq1' : decide (48 ≤ c) = q1 := by rw [← hq1]; congr 1; simp; omega
          have hq2' : decide (c ≤ 57) = q2 := by rw [← hq2]; congr 1; simp; omega
          have hq3' : decide (97 ≤ c) = q3 := by rw [← hq3]; congr 1; simp; omega
          have hq4' : decide (c ≤ 102) = q4 := by rw [← hq4]; congr 1; simp; omega
          have ha : (q1 && q2) = false := by rw [← hq1', ← hq2']; simp; omega
          have hb2 : (q3 && q4) = false := by rw [← hq3', ← hq4']; simp; omega
          clear hst hnib HU hNb hN h1 h2 hRn HR1 HR2 HR w2
          cases q1 <;> cases q2 <;> cases q3 <;> cases q4
          all_goals first | exact absurd ha (by decide) | exact absurd hb2 (by decide) | skip
          all_goals
            clear ha hb2
            go_wp2
            refine bodyPost_ret (v := .tuple #[.int .u64 0, .bool false]) (by simp [results, Tryd.results28, go_sem] <;> rfl) rfl ?_
            exact ⟨rfl, rfl⟩
    · have g1 : decide (k < n) = false := by simpa using hlt
      have hst : R = some N := by
        rw [← HR.out, hu.out, List.drop_eq_nil_of_le (by rw [HN.out]; omega)]
        rfl
      have e1 : r1 = (N : Int) := by rw [← HR1.out, hst]; rfl
      have e2 : r2 = true := by rw [← HR2.out, hst]; rfl
      subst e1 e2
      clear hst HR1 HR2 HR
      go_wp2
      refine bodyPost_ret (v := .tuple #[.int .u64 N, .bool true]) (by simp [results, Tryd.results28, go_sem] <;> rfl) rfl ?_
      exact ⟨rfl, rfl⟩
end Go.Proofs.YtolkjijnodejlaaDoor
