/- capture: natural, Decimal of the reference. -/
import Derived.Test.YtccknpdnapoboaaDoorCqT
import Derived.Test.YtccknpdnapoboaaDoorChU
import Derived.Lib.ItoaLen
namespace Go.Proofs.YtccknpdnapoboaaDoor
open Go.RowKit

theorem strB_data2 (ss : List Nat) : (strB ss).data.toList = ss.map UInt8.ofNat := by
  unfold strB
  rw [strOfNums_data, List.map_map]
  apply List.map_congr_left
  intro x _
  simp [Function.comp]
theorem strB_mk2 (l : List UInt8) (ss : List Nat) (h : l = ss.map UInt8.ofNat) : (⟨l.toArray⟩ : ByteArray) = strB ss := by
  apply ByteArray.ext
  rw [← Array.toList_inj, strB_data2, h]
/-- the digits of a number -/
def digN (n : Nat) : List Nat := (Lib.decDigits n).map UInt8.toNat
theorem ofNat_toNat8 (l : List UInt8) : (l.map UInt8.toNat).map UInt8.ofNat = l := by
  rw [List.map_map]
  have : (UInt8.ofNat ∘ UInt8.toNat) = id := by funext x; simp
  rw [this, List.map_id]
theorem digN_str (n : Nat) : (⟨(Lib.decDigits n).toArray⟩ : ByteArray) = strB (digN n) := strB_mk2 _ _ (ofNat_toNat8 _).symm
theorem digN_small (n : Nat) (h : n < 10) : digN n = [48 + n] := by
  unfold digN
  rw [Lib.decDigits, dif_pos h]
  simp
  omega
theorem digN_big (n : Nat) (h : ¬ n < 10) : digN n = digN (n / 10) ++ [48 + n % 10] := by
  unfold digN
  rw [Lib.decDigits, dif_neg h]
  simp
  omega
theorem digN_len (n : Nat) (h : n < 18446744073709551616) : (strB (digN n)).size ≤ 20 := by
  rw [strB_size]
  unfold digN
  rw [List.length_map, Lib.decDigits_length]
  exact Lib.nDigits_le20 n h
set_option linter.unusedSimpArgs false in
set_option linter.unusedVariables false in
set_option maxRecDepth 100000 in
set_option maxHeartbeats 4000000 in
theorem natural_any (n : Nat) (h : n < 18446744073709551616) (w : World) :
    Calls Tryd.prog 63 #[.int .u64 n] w fun e w' => e = .returned (.string (strB (digN n))) ∧ Below w.heap.size w w' := by
  induction n using Nat.strongRecOn generalizing w with
  | _ n ih =>
    have c1 : IntKind.u64.wrap (48 + (n : Int) % 10) = ((48 + n % 10 : Nat) : Int) := by rw [IntWalk.u64_in _ (by omega)]; omega
    have c1t : IntKind.u64.wrap (48 + ((n : Int).tmod 10)) = ((48 + n % 10 : Nat) : Int) := by rw [Int.tmod_eq_emod_of_nonneg (by omega), IntWalk.u64_in _ (by omega)]; omega
    obtain ⟨D, hD⟩ : ∃ D, 48 + n % 10 = D := ⟨_, rfl⟩
    have hD1 : D < 58 := by omega
    rw [hD] at c1 c1t
    have c2 : IntKind.u8.wrap (D : Int) = (D : Int) := IntWalk.u8_in _ (by omega)
    have hB1 : Below w.heap.size w (w.alloc (.cells #[.int .u8 (D : Int)] 5)) := (Below.refl _ _).alloc (Nat.le_refl _) _
    have hby : BytesAt (w.alloc (.cells #[.int .u8 (D : Int)] 5)) (.slice (some ⟨w.heap.size, 0, none⟩) 1 1) [D] :=
      ⟨sr_one (heap_alloc_new w (.cells #[.int .u8 (D : Int)] 5)) rfl, by unfold reachBytes; simp, fun x hx => by simp at hx; omega⟩
    have hcv := run_convert_b (P := Tryd.prog) hby 25 5 9 Tryd.underlying25 Tryd.underlying5 Tryd.underlying9
    clear hby
    by_cases hs : n < 10
    · have e1 := digN_small n hs
      rw [show 48 + n = D by omega] at e1
      rw [e1]
      have g1 : decide (n < 10) = true := by simpa using hs
      have g1' : decide ((n : Int) < 10) = true := by simp; omega
      obtain ⟨X, hX⟩ : ∃ X, strB [D] = X := ⟨_, rfl⟩
      rw [hX] at hcv ⊢
      clear ih hX e1 hD
      go_enter Tryd.func63, Tryd.ntmps63
      go_wp2
      go_ret
      exact ⟨rfl, hB1⟩
    · have e1 := digN_big n hs
      rw [hD] at e1
      rw [e1, ← strB_app]
      have g1 : decide (n < 10) = false := by simpa using hs
      have g1' : decide ((n : Int) < 10) = false := by simp; omega
      have hr := ih (n / 10) (by omega) (by omega)
      have c3 : IntKind.u64.wrap ((n : Int) / 10) = ((n / 10 : Nat) : Int) := by rw [IntWalk.u64_in _ (by omega)]; omega
      have c3t : ((n : Int).tdiv 10) = ((n / 10 : Nat) : Int) := by rw [Int.tdiv_eq_ediv_of_nonneg (by omega)]; omega
      obtain ⟨Q, hQ⟩ : ∃ Q, n / 10 = Q := ⟨_, rfl⟩
      rw [hQ] at hr c3 c3t ⊢
      have c5 : IntKind.u64.wrap (Q : Int) = (Q : Int) := IntWalk.u64_in _ (by omega)
      have hs1 : (strB [D]).size = 1 := by rw [strB_size]; rfl
      have hs2 := digN_len Q (by omega)
      obtain ⟨X, hX⟩ : ∃ X, strB [D] = X := ⟨_, rfl⟩
      obtain ⟨Y, hY⟩ : ∃ Y, strB (digN Q) = Y := ⟨_, rfl⟩
      rw [hX] at hcv hs1 ⊢
      rw [hY] at hr hs2 ⊢
      have hsa := fun W => run_string_add_sum (P := Tryd.prog) (w := W) Y X (by omega)
      clear hs1 hs2
      have HR := Lib.hid hr
      clear ih hX hY e1 hD hQ hr
      go_enter Tryd.func63, Tryd.ntmps63
      go_wp2_with fail
      refine (HR.out _).mono ?_
      rintro e w2 ⟨rfl, hB2⟩
      have HB2 := Lib.hid (hB1.trans (hB2.mono hB1.size))
      clear hB2 hB1
      go_wp2
      go_ret
      exact ⟨rfl, HB2.out⟩
/-- a number's text -/
def decS (n : Int) : ByteArray := ⟨(Lib.itoa n).toArray⟩
set_option linter.unusedSimpArgs false in
set_option linter.unusedVariables false in
set_option maxRecDepth 100000 in
set_option maxHeartbeats 4000000 in
theorem decimal_any (n : Int) (h : i64b n) (w : World) :
    Calls Tryd.prog 45 #[.int .i64 n] w fun e w' => e = .returned (.string (decS n)) ∧ Below w.heap.size w w' := by
  obtain ⟨h0, h1⟩ := h
  by_cases hneg : n < 0
  · obtain ⟨m, rfl⟩ : ∃ m : Nat, n = -((m : Int) + 1) := ⟨(-n - 1).toNat, by omega⟩
    have g1 : decide (-((m : Int) + 1) < 0) = true := by first | (simp; done) | simpa using hneg
    have c1 : IntKind.i64.wrap (-((m : Int) + 1) + 1) = -(m : Int) := by rw [IntWalk.i64_in _ (by omega)]; omega
    have c2 : IntKind.i64.wrap (- -(m : Int)) = (m : Int) := by rw [IntWalk.i64_in _ (by omega)]; omega
    have c2' : IntKind.i64.wrap ((m : Int)) = (m : Int) := IntWalk.i64_in _ (by omega)
    have c3 : IntKind.u64.wrap (m : Int) = (m : Int) := IntWalk.u64_in _ (by omega)
    have c4 : IntKind.u64.wrap ((m : Int) + 1) = ((m + 1 : Nat) : Int) := by rw [IntWalk.u64_in _ (by omega)]; omega
    have e1 : decS (-((m : Int) + 1)) = strB [45] ++ strB (digN (m + 1)) := by
      rw [strB_app]
      unfold decS
      rw [show (-((m : Int) + 1)) = -((m + 1 : Nat) : Int) by omega, Lib.itoa_neg _ (by omega)]
      refine strB_mk2 _ _ ?_
      rw [List.map_append]
      unfold digN
      rw [ofNat_toNat8]
      rfl
    rw [e1]
    have e2 : strB [45] = { data := #[45] } := rfl
    rw [e2]
    obtain ⟨M, hM⟩ : ∃ M, m + 1 = M := ⟨_, rfl⟩
    rw [hM] at c4 ⊢
    have hr := natural_any M (by omega) w
    obtain ⟨Y, hY⟩ : ∃ Y, strB (digN M) = Y := ⟨_, rfl⟩
    have hs2 := digN_len M (by omega)
    rw [hY] at hr hs2 ⊢
    have hsa := fun W => run_string_add_sum (P := Tryd.prog) (w := W) { data := #[45] } Y (by have e : ({ data := #[45] } : ByteArray).size = 1 := rfl; omega)
    have HR := Lib.hid hr
    clear e1 e2 hM hr hY hneg hs2
    go_enter Tryd.func45, Tryd.ntmps45
    go_wp2_with fail
    refine HR.out.mono ?_
    rintro e w2 ⟨rfl, hB2⟩
    have HB2 := Lib.hid hB2
    clear hB2 HR
    go_wp2
    go_ret
    exact ⟨rfl, HB2.out⟩
  · obtain ⟨m, rfl⟩ := Int.eq_ofNat_of_zero_le (show 0 ≤ n by omega)
    have g1 : decide ((m : Int) < 0) = false := by simp
    have c3 : IntKind.u64.wrap (m : Int) = (m : Int) := IntWalk.u64_in _ (by omega)
    have e1 : decS (m : Int) = strB (digN m) := by
      unfold decS
      rw [Lib.itoa_nonneg]
      exact digN_str m
    rw [e1]
    have hr := natural_any m (by omega) w
    obtain ⟨Y, hY⟩ : ∃ Y, strB (digN m) = Y := ⟨_, rfl⟩
    rw [hY] at hr ⊢
    have HR := Lib.hid hr
    clear e1 hr hY hneg
    go_enter Tryd.func45, Tryd.ntmps45
    go_wp2_with fail
    refine HR.out.mono ?_
    rintro e w2 ⟨rfl, hB2⟩
    have HB2 := Lib.hid hB2
    clear hB2 HR
    go_wp2
    go_ret
    exact ⟨rfl, HB2.out⟩
end Go.Proofs.YtccknpdnapoboaaDoor
