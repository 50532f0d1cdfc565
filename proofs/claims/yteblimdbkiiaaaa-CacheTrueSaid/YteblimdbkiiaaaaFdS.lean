/- the stable sort's exchanges: swapRange. -/
import Derived.Test.YteblimdbkiiaaaaSortR
import Derived.BigRegion
namespace Go.Proofs.Yteblimdbkiiaaaa
open Go.RowKit

theorem Fd_size : Try.prog.cellsOf 53 = 6 := by kernel_rfl
set_option linter.unusedSimpArgs false in
set_option linter.unusedVariables false in
set_option maxRecDepth 100000 in
set_option maxHeartbeats 4000000 in
theorem Fd_swapr (es : Nat → El) (p : Nat → Nat) (b off n cap : Nat) (w : World) (hr : Row6 53 w b off es p n) (x y m : Nat) (hxy : x + m ≤ y) (hym : y + m ≤ n) (hn : n ≤ 1099511627776) (ho : ∀ x, (es x).one) (cv : Value) :
    Calls Try.prog 68 #[.slice (some ⟨b, off, none⟩) n cap, .int .i64 x, .int .i64 y, .int .i64 m, cv] w
      fun e w' => e = .returned (.tuple #[]) ∧ Row6 53 w' b off es (swr p x y m) n ∧ Sw b w w' := by
  go_enter Try.func68, Try.ntmps68
  go_wp2
  go_loopw [10] (fun vi wr => ∃ i : Nat, vi = .int .i64 i ∧ i ≤ m ∧ Row6 53 wr b off es (swr p x y i) n ∧ Sw b w wr) (fun vi _ => m - (intOf vi).toNat)
  case atStart => exact ⟨0, by go_num, Nat.zero_le _, by rw [swr_zero]; exact hr, Sw.refl _ _⟩
  case round =>
    obtain ⟨i, rfl, him, hri, hsw⟩ := hrel
    by_cases hlt : i < m
    · obtain ⟨s, hs⟩ : ∃ s, x + i = s := ⟨_, rfl⟩
      obtain ⟨t, ht⟩ : ∃ t, y + i = t := ⟨_, rfl⟩
      obtain ⟨q, hq⟩ : ∃ q, swr p x y i = q := ⟨_, rfl⟩
      have hqs : swr p x y (i + 1) = swp q s t := by rw [← hq, ← hs, ← ht]; exact (swr_succ (by omega)).symm
      rw [hq] at hri
      have hsn : s < n := by omega
      have htn : t < n := by omega
      have hst : ¬ s = t := by omega
      have hts : ¬ t = s := by omega
      have g1 : decide (i < m) = true := by simpa using hlt
      have w1 : IntKind.i64.wrap ((x : Int) + (i : Int)) = (s : Int) := by rw [IntWalk.i64_in _ (by omega)]; omega
      have w2 : IntKind.i64.wrap ((y : Int) + (i : Int)) = (t : Int) := by rw [IntWalk.i64_in _ (by omega)]; omega
      have w3 : IntKind.i64.wrap ((i : Int) + 1) = (i : Int) + 1 := IntWalk.i64_in _ (by omega)
      obtain ⟨f0, f1, f2, f3, f4, f5⟩ := hri.get hsn
      obtain ⟨k0, k1, k2, k3, k4, k5⟩ := hri.get htn
      have i1 : (s : Int) < (n : Int) := by omega
      have i2 : (t : Int) < (n : Int) := by omega
      have HRI := Lib.hid hri
      have HQS := Lib.hid hqs
      have HSW := Lib.hid hsw
      clear hri hqs hsw hr hq hs ht
      obtain ⟨o0, o1, o2, o3, o4, o5⟩ := ho (q s)
      obtain ⟨r0, r1, r2, r3, r4, r5⟩ := ho (q t)
      have z0 := HRI.out.fz (off + s * 6)
      have y0 := HRI.out.fz (off + t * 6)
      have a0 := fun W a m => run_store Try.prog W a _ m o0
      have b0 := fun W a m => run_store Try.prog W a _ m r0
      have z1 := HRI.out.fz (off + s * 6 + 1)
      have y1 := HRI.out.fz (off + t * 6 + 1)
      have a1 := fun W a m => run_store Try.prog W a _ m o1
      have b1 := fun W a m => run_store Try.prog W a _ m r1
      have z2 := HRI.out.fz (off + s * 6 + 2)
      have y2 := HRI.out.fz (off + t * 6 + 2)
      have a2 := fun W a m => run_store Try.prog W a _ m o2
      have b2 := fun W a m => run_store Try.prog W a _ m r2
      have z3 := HRI.out.fz (off + s * 6 + 3)
      have y3 := HRI.out.fz (off + t * 6 + 3)
      have a3 := fun W a m => run_store Try.prog W a _ m o3
      have b3 := fun W a m => run_store Try.prog W a _ m r3
      have z4 := HRI.out.fz (off + s * 6 + 4)
      have y4 := HRI.out.fz (off + t * 6 + 4)
      have a4 := fun W a m => run_store Try.prog W a _ m o4
      have b4 := fun W a m => run_store Try.prog W a _ m r4
      have z5 := HRI.out.fz (off + s * 6 + 5)
      have y5 := HRI.out.fz (off + t * 6 + 5)
      have a5 := fun W a m => run_store Try.prog W a _ m o5
      have b5 := fun W a m => run_store Try.prog W a _ m r5
      go_wp2
      go_region
      all_goals go_wp2
      obtain ⟨r1, s1⟩ := HRI.out.put hsn (q t)
      obtain ⟨r2, s2⟩ := r1.put htn (q s)
      rw [upd_swp hst, ← HQS.out] at r2
      refine ⟨⟨i + 1, by simp, hlt, r2.drew, (HSW.out.trans (s1.trans s2)).drew⟩, ?_⟩
      simp [intOf]
      omega
    · have e : i = m := by omega
      subst e
      have g1 : decide (i < i) = false := by simp
      go_wp2
      go_end0
      exact ⟨rfl, hri, hsw⟩
end Go.Proofs.Yteblimdbkiiaaaa
