/- crc.feed, crc.Sum; feed and Sum of the reference. -/
import Derived.Test.YtccknpdnapoboaaDoorCpA
import Derived.Test.YtccknpdnapoboaaDoorCpP
import Derived.WalkSmall
import Derived.Deep.QuietTactic
import Derived.BigQuiet
namespace Go.Proofs.YtccknpdnapoboaaDoor
open Go.RowKit

/-- the table lies where its initialiser laid it -/
def Sums (w : World) : Prop := ∀ i, i < 16 → w.cell? ⟨0, i, none⟩ = some (.int .u32 (tabL.getD i 0 : Nat))
theorem Sums.below {w w' : World} (h : Sums w) (hs : 0 < w.heap.size) (hb : Below w.heap.size w w') : Sums w' := fun i hi => (hb.cell (p := ⟨0, i, none⟩) hs).trans (h i hi)
theorem Sums.pos {w : World} (h : Sums w) : 0 < w.heap.size := World.block_lt_of_cell? w _ (h 0 (by decide))
theorem Sums.keep {w w' : World} (h : Sums w) (hb : Below w.heap.size w w') : Sums w' := h.below h.pos hb
theorem xor32 {x y : Int} {X Y : Nat} (hx : x = X) (hy : y = Y) (h1 : X < 4294967296) (h2 : Y < 4294967296) : bits .xor .u32 x y = ((X ^^^ Y : Nat) : Int) := by
  subst hx hy
  exact u32_xor_nat _ _ h1 h2
theorem and32 {x y : Int} {X Y : Nat} (hx : x = X) (hy : y = Y) (h1 : X < 4294967296) (h2 : Y < 4294967296) : bits .and .u32 x y = ((X &&& Y : Nat) : Int) := by
  subst hx hy
  exact u32_and_nat _ _ h1 h2
theorem tabL_lt : ∀ i, i < 16 → tabL.getD i 0 < 16777216 := by decide
theorem and15n (x : Nat) : x &&& 15 = x % 16 := Nat.and_two_pow_sub_one_eq_mod x 4
theorem and24n (x : Nat) : x &&& 16777215 = x % 16777216 := Nat.and_two_pow_sub_one_eq_mod x 24
set_option linter.unusedSimpArgs false in
set_option linter.unusedVariables false in
set_option maxRecDepth 100000 in
set_option maxHeartbeats 1000000 in
theorem feed_any (r x : Nat) (hr : r < 16777216) (hx : x < 256) (w : World) (hs : Sums w) :
    Calls Tryd.prog 66 #[.int .u32 r, .int .u8 x] w fun e w' => e = .returned (.int .u32 (fd8 r x : Nat)) ∧ w = w' := by
  obtain ⟨A, hA⟩ : ∃ A, r ^^^ x = A := ⟨_, rfl⟩
  obtain ⟨i1, hi1⟩ : ∃ i, A % 16 = i := ⟨_, rfl⟩
  have c1 := hs i1 (by omega)
  have t1 := tabL_lt i1 (by omega)
  have h1 := half_tab r x
  rw [hA, hi1] at h1
  obtain ⟨T1, hT1⟩ : ∃ T, tabL.getD i1 0 = T := ⟨_, rfl⟩
  rw [hT1] at c1 t1 h1
  obtain ⟨r1, hr1⟩ : ∃ r', fd4 r x = r' := ⟨_, rfl⟩
  have b1 : r1 < 16777216 := by rw [← hr1]; exact fd4_lt r x hr
  rw [hr1] at h1
  obtain ⟨B, hB⟩ : ∃ B, r1 ^^^ (x / 16) = B := ⟨_, rfl⟩
  obtain ⟨i2, hi2⟩ : ∃ i, B % 16 = i := ⟨_, rfl⟩
  have c2 := hs i2 (by omega)
  have t2 := tabL_lt i2 (by omega)
  have h2 := half_tab r1 (x / 16)
  rw [hB, hi2] at h2
  obtain ⟨T2, hT2⟩ : ∃ T, tabL.getD i2 0 = T := ⟨_, rfl⟩
  rw [hT2] at c2 t2 h2
  have hfd : fd8 r x = r1 / 16 ^^^ T2 := by unfold fd8; rw [hr1, h2]
  obtain ⟨F, hF⟩ : ∃ F, fd8 r x = F := ⟨_, rfl⟩
  rw [hF] at hfd ⊢
  have hA32 : A < 4294967296 := by rw [← hA]; exact Nat.xor_lt_two_pow (n := 32) (by omega) (by omega)
  have hB32 : B < 4294967296 := by rw [← hB]; exact Nat.xor_lt_two_pow (n := 32) (by omega) (by omega)
  have e1 : bits .xor .u32 (r : Int) (x : Int) = (A : Int) := by rw [xor32 rfl rfl (by omega) (by omega), hA]
  have e2 : bits .and .u32 (A : Int) 15 = (i1 : Int) := by rw [and32 (y := 15) (Y := 15) rfl rfl hA32 (by omega), and15n, hi1]
  have e3 : bits .xor .u32 ((r : Int) / 16) (T1 : Int) = (r1 : Int) := by rw [xor32 (X := r / 16) (by simp) rfl (by omega) (by omega), ← h1]
  have e4 : bits .xor .u32 (r1 : Int) ((x : Int) / 16) = (B : Int) := by rw [xor32 (Y := x / 16) rfl (by simp) (by omega) (by omega), hB]
  have e5 : bits .and .u32 (B : Int) 15 = (i2 : Int) := by rw [and32 (y := 15) (Y := 15) rfl rfl hB32 (by omega), and15n, hi2]
  have e6 : bits .xor .u32 ((r1 : Int) / 16) (T2 : Int) = (F : Int) := by rw [xor32 (X := r1 / 16) (by simp) rfl (by omega) (by omega), ← hfd]
  have q1 : IntKind.u32.wrap (x : Int) = (x : Int) := IntWalk.u32_in _ (by omega)
  have q2 : IntKind.u32.wrap ((x : Int) / 16) = (x : Int) / 16 := IntWalk.u32_in _ (by omega)
  have j1 : (i1 : Int) < 16 := by omega
  have j2 : (i2 : Int) < 16 := by omega
  have j1' : i1 < 16 := by omega
  have j2' : i2 < 16 := by omega
  clear hs h1 h2 hfd hA hB hi1 hi2 hT1 hT2 hr1 hF
  go_enter Tryd.func66, Tryd.ntmps66
  go_wp2
  go_ret
  exact ⟨rfl, rfl⟩
set_option linter.unusedSimpArgs false in
set_option linter.unusedVariables false in
set_option maxRecDepth 100000 in
set_option maxHeartbeats 1000000 in
theorem sum_any (v : Value) (bs : List Nat) (w : World) (hs : Sums w) (h : BytesAt w v bs) :
    Calls Tryd.prog 52 #[.int .u32 0, v] w fun e w' => e = .returned (.int .u32 (sumF 0 bs : Nat)) ∧ w = w' := by
  obtain ⟨⟨hm, _, _, ao, cap, rfl, _, hc⟩, _, hlt⟩ := h
  have HC := Lib.hid hc
  have HLT := Lib.hid hlt
  obtain ⟨n, hn⟩ : ∃ n, bs.length = n := ⟨_, rfl⟩
  have HN := Lib.hid hn
  rw [hn] at hm ⊢
  unfold maxLen at hm
  clear hc hlt hn
  have e0 : bits .and .u32 (0 : Int) 16777215 = 0 := by
    have := and32 (x := 0) (y := 16777215) (X := 0) (Y := 16777215) rfl rfl (by omega) (by omega)
    rw [this]; rfl
  have HF := Lib.hid (fun (r x : Nat) (hr : r < 16777216) (hx : x < 256) => feed_any r x hr hx w hs)
  clear hs
  go_enter Tryd.func52, Tryd.ntmps52
  go_wp2
  clear e0
  go_loop [5, 7, 12] (fun r _ i => ∃ k : Nat, i = .int .i64 k ∧ k ≤ n ∧ r = .int .u32 (sumF 0 (bs.take k) : Nat)) (fun _ _ i => n - (intOf i).toNat)
  case atStart => exact ⟨0, by simp, Nat.zero_le _, by simp [sumF]⟩
  case round =>
    obtain ⟨k, rfl, hk, rfl⟩ := hrel
    by_cases hlt : k < n
    · have g1 : decide (k < n) = true := by simpa using hlt
      have hkl : k < bs.length := by rw [HN.out]; exact hlt
      obtain ⟨b, off, rfl, hb, hcell⟩ := HC.out (by omega)
      have ht := List.take_succ_eq_append_getElem hkl
      have hx2 := HLT.out _ (List.getElem_mem hkl)
      have hcl := hcell k (.int .u8 (bs[k] : Nat)) (by simp [bcells, List.getElem?_eq_getElem hkl])
      obtain ⟨x, hx⟩ : ∃ x, bs[k] = x := ⟨_, rfl⟩
      rw [hx] at ht hx2 hcl
      have hst := sumF_snoc 0 (bs.take k) x
      rw [← ht] at hst
      have hb1 := sumF_lt (bs.take k) 0 (by omega)
      obtain ⟨R, hR⟩ : ∃ R, sumF 0 (bs.take k) = R := ⟨_, rfl⟩
      rw [hR] at hst hb1 ⊢
      have hfe := HF.out R x hb1 hx2
      rw [← hst] at hfe
      have HFE := Lib.hid hfe
      clear ht hx hcell hst hR hfe
      have w1 : IntKind.i64.wrap ((k : Int) + 1) = (k : Int) + 1 := IntWalk.i64_in _ (by omega)
      have i1 : (k : Int) < (n : Int) := by omega
      go_wp2_with (go_at_call 66; refine HFE.out.mono ?_; rintro e w' ⟨rfl, rfl⟩)
      refine ⟨⟨k + 1, by simp, hlt, rfl⟩, ?_⟩
      simp [intOf]
      omega
    · have g1 : decide (k < n) = false := by simpa using hlt
      obtain rfl : k = n := by omega
      rw [List.take_of_length_le (show bs.length ≤ _ by rw [HN.out]; exact Nat.le_refl _)]
      clear HF
      go_wp2
      go_ret
      exact ⟨rfl, rfl⟩
/-! ### the reference -/
set_option linter.unusedSimpArgs false in
set_option linter.unusedVariables false in
set_option maxRecDepth 100000 in
set_option maxHeartbeats 1000000 in
theorem rfeed_any (r b : Nat) (hr : r < 16777216) (hb : b < 2) (w : World) :
    Calls Tryd.prog 67 #[.int .u32 r, .int .u32 b] w fun e w' => e = .returned (.int .u32 (fd1 r b : Nat)) ∧ w = w' := by
  have hf : fd1 r b = r / 2 ^^^ 14311424 * ((r + b) % 2) := rfl
  obtain ⟨F, hF⟩ : ∃ F, fd1 r b = F := ⟨_, rfl⟩
  rw [hF] at hf ⊢
  have hp := xor_par (r % 2) b
  have h2 : r % 2 ^^^ b < 2 := Nat.xor_lt_two_pow (n := 1) (by omega) (by omega)
  obtain ⟨X, hX⟩ : ∃ X, r % 2 ^^^ b = X := ⟨_, rfl⟩
  rw [hX] at hp h2
  have e1 : bits .xor .u32 ((r : Int) % 2) (b : Int) = (X : Int) := by rw [xor32 (X := r % 2) (by simp) rfl (by omega) (by omega), hX]
  have hX2 : X = (r + b) % 2 := by omega
  rw [← hX2] at hf
  clear hp hX hX2
  by_cases h : X = 1
  · subst h
    have e2 : bits .xor .u32 ((r : Int) / 2) 14311424 = (F : Int) := by rw [xor32 (X := r / 2) (y := 14311424) (Y := 14311424) (by simp) rfl (by omega) (by omega), hf]
    clear hf hF
    go_enter Tryd.func67, Tryd.ntmps67
    go_wp2
    go_ret
    exact ⟨rfl, rfl⟩
  · obtain rfl : X = 0 := by omega
    have e2 : (F : Int) = (r : Int) / 2 := by rw [hf]; simp
    rw [e2]
    clear hf hF e2
    go_enter Tryd.func67, Tryd.ntmps67
    go_wp2
    go_ret
    exact ⟨rfl, rfl⟩
theorem fdk_lt (r x : Nat) (h : r < 16777216) : ∀ k, fdk r x k < 16777216
  | 0 => h
  | k+1 => fd1_lt _ _ (fdk_lt r x h k)
theorem fdk_lo (r x k : Nat) : fdk r x (k + 1) = fd1 (fdk r x k) (x / 2 ^ k % 2) := by
  rw [fdk, fd1_lo]
set_option linter.unusedSimpArgs false in
set_option linter.unusedVariables false in
set_option maxRecDepth 100000 in
set_option maxHeartbeats 2000000 in
theorem rsum_any (v : Value) (bs : List Nat) (w : World) (h : BytesAt w v bs) :
    Calls Tryd.prog 55 #[.int .u32 0, v] w fun e w' => e = .returned (.int .u32 (sumF 0 bs : Nat)) ∧ w = w' := by
  obtain ⟨⟨hm, _, _, ao, cap, rfl, _, hc⟩, _, hlt⟩ := h
  have HC := Lib.hid hc
  have HLT := Lib.hid hlt
  obtain ⟨n, hn⟩ : ∃ n, bs.length = n := ⟨_, rfl⟩
  have HN := Lib.hid hn
  rw [hn] at hm ⊢
  unfold maxLen at hm
  clear hc hlt hn
  go_enter Tryd.func55, Tryd.ntmps55
  go_wp2
  go_loop [5, 6, 7, 8] (fun r i _ _ => ∃ k : Nat, i = .int .i64 k ∧ k ≤ n ∧ r = .int .u32 (sumF 0 (bs.take k) : Nat)) (fun _ i _ _ => n - (intOf i).toNat)
  case atStart => exact ⟨0, by simp, Nat.zero_le _, by simp [sumF]⟩
  case round =>
    obtain ⟨k, rfl, hk, rfl⟩ := hrel
    by_cases hlt : k < n
    · have g1 : decide (k < n) = true := by simpa using hlt
      have hkl : k < bs.length := by rw [HN.out]; exact hlt
      obtain ⟨b, off, rfl, hb, hcell⟩ := HC.out (by omega)
      have ht := List.take_succ_eq_append_getElem hkl
      have hx2 := HLT.out _ (List.getElem_mem hkl)
      have hcl := hcell k (.int .u8 (bs[k] : Nat)) (by simp [bcells, List.getElem?_eq_getElem hkl])
      obtain ⟨x, hx⟩ : ∃ x, bs[k] = x := ⟨_, rfl⟩
      rw [hx] at ht hx2 hcl
      have hst := sumF_snoc 0 (bs.take k) x
      rw [← ht, ← fdk8] at hst
      have hb1 := sumF_lt (bs.take k) 0 (by omega)
      obtain ⟨R, hR⟩ : ∃ R, sumF 0 (bs.take k) = R := ⟨_, rfl⟩
      rw [hR] at hst hb1 ⊢
      have HST := Lib.hid hst
      clear ht hx hcell hst hR
      have w1 : IntKind.i64.wrap ((k : Int) + 1) = (k : Int) + 1 := IntWalk.i64_in _ (by omega)
      have i1 : (k : Int) < (n : Int) := by omega
      have q1 : IntKind.u32.wrap (x : Int) = (x : Int) := IntWalk.u32_in _ (by omega)
      go_wp2
      go_loop [5, 7, 8] (fun r y j => ∃ m : Nat, j = .int .i64 m ∧ m ≤ 8 ∧ r = .int .u32 (fdk R x m : Nat) ∧ y = .int .u32 ((x / 2 ^ m : Nat) : Int)) (fun _ _ j => 8 - (intOf j).toNat)
      case atStart => exact ⟨0, by simp, by omega, by simp [fdk], by simp⟩
      case round =>
        obtain ⟨m, rfl, hm8, rfl, rfl⟩ := hrel
        by_cases hml : m < 8
        · have g2 : decide (m < 8) = true := by simpa using hml
          have g2' : decide ((m : Int) < 8) = true := by simp; omega
          have hlo := fdk_lo R x m
          have hlt2 := fdk_lt R x hb1 m
          obtain ⟨Y, hY⟩ : ∃ Y, x / 2 ^ m = Y := ⟨_, rfl⟩
          have hY1 : x / 2 ^ (m + 1) = Y / 2 := by rw [← hY, Nat.pow_succ, Nat.div_div_eq_div_mul]
          have hYb : Y < 256 := by rw [← hY]; exact Nat.lt_of_le_of_lt (Nat.div_le_self _ _) hx2
          rw [hY] at hlo ⊢
          obtain ⟨S, hS⟩ : ∃ S, fdk R x m = S := ⟨_, rfl⟩
          rw [hS] at hlo hlt2 ⊢
          have hfe := fun W => rfeed_any S (Y % 2) hlt2 (by omega) W
          rw [← hlo] at hfe
          rw [show ((Y % 2 : Nat) : Int) = (Y : Int) % 2 by simp] at hfe
          have HFE := Lib.hid hfe
          have HY1 := Lib.hid hY1
          clear hfe hY1 hY hS hlo
          have w2 : IntKind.i64.wrap ((m : Int) + 1) = (m : Int) + 1 := IntWalk.i64_in _ (by omega)
          go_wp2_with (go_at_call 67; refine (HFE.out _).mono ?_; rintro e w' ⟨rfl, rfl⟩)
          refine ⟨⟨m + 1, by simp, hml, rfl, by rw [HY1.out]; simp⟩, ?_⟩
          simp [intOf]
          omega
        · have g2 : decide (m < 8) = false := by simpa using hml
          have g2' : decide ((m : Int) < 8) = false := by simp; omega
          obtain rfl : m = 8 := by omega
          rw [← HST.out]
          go_wp2
          refine ⟨⟨k + 1, by simp, hlt, rfl⟩, ?_⟩
          simp [intOf]
          omega
    · have g1 : decide (k < n) = false := by simpa using hlt
      obtain rfl : k = n := by omega
      rw [List.take_of_length_le (show bs.length ≤ _ by rw [HN.out]; exact Nat.le_refl _)]
      go_wp2
      go_ret
      exact ⟨rfl, rfl⟩
end Go.Proofs.YtccknpdnapoboaaDoor
