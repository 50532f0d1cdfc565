/- octets.nibble, Unhex. -/
import Derived.Test.YtolkjijnodejlaaDoorUuN
namespace Go.Proofs.YtolkjijnodejlaaDoor
open Go.RowKit

/-- the number of a digit -/
def nib (c : Nat) : Option Nat := if 48 ≤ c ∧ c ≤ 57 then some (c - 48) else if 97 ≤ c ∧ c ≤ 102 then some (c - 87) else none
theorem nib_dig (d : Nat) (h : d < 16) : nib (dig d) = some d := by
  unfold nib dig
  by_cases h1 : d < 10
  · rw [if_pos h1, if_pos (by omega)]
    congr 1
    omega
  · rw [if_neg h1, if_neg (by omega), if_pos (by omega)]
    congr 1
    omega
theorem dig_nib (c d : Nat) (h : nib c = some d) : d < 16 ∧ dig d = c := by
  unfold nib at h
  unfold dig
  by_cases h1 : 48 ≤ c ∧ c ≤ 57
  · rw [if_pos h1] at h
    cases h
    exact ⟨by omega, by rw [if_pos (by omega)]; omega⟩
  · rw [if_neg h1] at h
    by_cases h2 : 97 ≤ c ∧ c ≤ 102
    · rw [if_pos h2] at h
      cases h
      exact ⟨by omega, by rw [if_neg (by omega)]; omega⟩
    · rw [if_neg h2] at h
      cases h
theorem nib_none (c : Nat) (h : ∀ j, j < 16 → dig j ≠ c) : nib c = none := by
  cases hn : nib c with
  | none => rfl
  | some d =>
    obtain ⟨h1, h2⟩ := dig_nib c d hn
    exact absurd h2 (h d h1)
set_option linter.unusedSimpArgs false in
set_option linter.unusedVariables false in
set_option maxRecDepth 100000 in
set_option maxHeartbeats 1000000 in
theorem nibble_any (c : Nat) (w : World) :
    Calls Tryd.prog 37 #[.int .u8 c] w fun e w' => e = .returned (.tuple #[.int .u8 (((nib c).getD 0 : Nat) : Int), .bool (nib c).isSome]) ∧ w = w' := by
  obtain ⟨⟨r1, r2⟩, hr⟩ : ∃ r : Int × Bool, ((((nib c).getD 0 : Nat) : Int), (nib c).isSome) = r := ⟨_, rfl⟩
  simp only [Prod.mk.injEq] at hr
  rw [hr.1, hr.2]
  have HR1 := Lib.hid hr.1
  have HR2 := Lib.hid hr.2
  clear hr
  go_enter Tryd.func37, Tryd.ntmps37
  go_wp2
  go_loop [4, 5] (fun _ i => ∃ k : Nat, i = .int .i64 k ∧ k ≤ 16 ∧ Hid (∀ j, j < k → dig j ≠ c)) (fun _ i => 16 - (intOf i).toNat)
  case atStart => exact ⟨0, by simp, by omega, fun j h => by omega⟩
  case round =>
    obtain ⟨k, rfl, hk, hno⟩ := hrel
    by_cases hlt : k < 16
    · have g1 : decide (k < 16) = true := by simpa using hlt
      have g1' : decide ((k : Int) < 16) = true := by simp; omega
      have hd := fun W => run_dig .i64 k hlt W
      have w1 : IntKind.i64.wrap ((k : Int) + 1) = (k : Int) + 1 := IntWalk.i64_in _ (by omega)
      have w2 : IntKind.u8.wrap (k : Int) = (k : Int) := IntWalk.u8_in _ (by omega)
      obtain ⟨q, hq⟩ : ∃ q, (((dig k : Nat) : Int) == (c : Int)) = q := ⟨_, rfl⟩
      have HQ := Lib.hid hq
      cases q
      · go_wp2
        refine ⟨⟨k + 1, by simp, by omega, fun j hj => ?_⟩, ?_⟩
        · by_cases e : j = k
          · subst e
            have := HQ.out
            rw [beq_eq_false_iff_ne] at this
            omega
          · exact hno.out j (by omega)
        · simp [intOf]
          omega
      · have hc : dig k = c := by have := HQ.out; rw [beq_iff_eq] at this; omega
        have hn : nib c = some k := by rw [← hc]; exact nib_dig k hlt
        have e1 : r1 = (k : Int) := by rw [← HR1.out, hn]; rfl
        have e2 : r2 = true := by rw [← HR2.out, hn]; rfl
        subst e1 e2
        clear hc hn
        go_wp2
        refine bodyPost_ret (v := .tuple #[.int .u8 k, .bool true]) (by simp [results, Tryd.results37, go_sem] <;> rfl) rfl ?_
        exact ⟨rfl, rfl⟩
    · have g1 : decide (k < 16) = false := by simpa using hlt
      have g1' : decide ((k : Int) < 16) = false := by simp; omega
      have hn : nib c = none := nib_none c fun j hj => hno.out j (by omega)
      have e1 : r1 = 0 := by rw [← HR1.out, hn]; rfl
      have e2 : r2 = false := by rw [← HR2.out, hn]; rfl
      subst e1 e2
      clear hn
      go_wp2
      refine bodyPost_ret (v := .tuple #[.int .u8 0, .bool false]) (by simp [results, Tryd.results37, go_sem] <;> rfl) rfl ?_
      exact ⟨rfl, rfl⟩
theorem strB_get (ss : List Nat) (hb : ∀ x ∈ ss, x < 256) (i : Nat) (h : i < ss.length) (hq : i < (strB ss).size) : ((strB ss)[i]'hq).toNat = ss[i] := by
  have e : (strB ss).data.toList[i]? = some (UInt8.ofNat ss[i]) := by
    unfold strB
    rw [strOfNums_data]
    simp [List.getElem?_eq_getElem h]
  have : (strB ss)[i]'hq = UInt8.ofNat ss[i] := by
    have h2 : i < (strB ss).data.toList.length := by simpa using hq
    rw [List.getElem?_eq_getElem h2] at e
    have e3 : (strB ss).data[i]'(by simpa using h2) = UInt8.ofNat ss[i] := by simpa using e
    exact e3
  rw [this]
  have := hb _ (List.getElem_mem h)
  simp
  omega
theorem run_idx_str (ss : List Nat) (hb : ∀ x ∈ ss, x < 256) (i : Nat) (h : i < ss.length) (W : World) : (Instr.index 9 (.string (strB ss)) (.int .i64 (i : Int))).run Tryd.prog W = .ok (.int .u8 (ss[i] : Nat)) W := by
  have hs := strB_size ss
  have hg := strB_get ss hb i h (by rw [hs]; exact h)
  go_simp
end Go.Proofs.YtolkjijnodejlaaDoor
