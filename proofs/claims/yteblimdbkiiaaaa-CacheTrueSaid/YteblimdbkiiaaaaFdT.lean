/- the stable sort's exchanges: rotate. -/
import Derived.Test.YteblimdbkiiaaaaFdS
namespace Go.Proofs.Yteblimdbkiiaaaa
open Go.RowKit

set_option linter.unusedSimpArgs false in
set_option linter.unusedVariables false in
set_option maxRecDepth 100000 in
set_option maxHeartbeats 4000000 in
theorem Fd_rot (es : Nat → El) (p : Nat → Nat) (b off n cap : Nat) (w : World) (hr : Row6 53 w b off es p n) (hn : n ≤ 1099511627776) (ho : ∀ x, (es x).one) (a m e : Nat) (ham : a < m) (hme : m < e) (hen : e ≤ n) (cv : Value) :
    Calls Try.prog 67 #[.slice (some ⟨b, off, none⟩) n cap, .int .i64 a, .int .i64 m, .int .i64 e, cv] w
      fun x w' => x = .returned (.tuple #[]) ∧ Row6 53 w' b off es (rot p a m e) n ∧ Sw b w w' := by
  obtain ⟨i0, hi0⟩ : ∃ i, m - a = i := ⟨_, rfl⟩
  obtain ⟨j0, hj0⟩ : ∃ j, e - m = j := ⟨_, rfl⟩
  have w1 : IntKind.i64.wrap ((m : Int) - (a : Int)) = (i0 : Int) := by rw [IntWalk.i64_in _ (by omega)]; omega
  have w2 : IntKind.i64.wrap ((e : Int) - (m : Int)) = (j0 : Int) := by rw [IntWalk.i64_in _ (by omega)]; omega
  have hst : rot p (m - i0) m (m + j0) = rot p a m e := by rw [show m - i0 = a by omega, show m + j0 = e by omega]
  go_enter Try.func67, Try.ntmps67
  go_wp2
  clear w1 w2
  go_loopw [10, 11] (fun vi vj wr => ∃ (i j : Nat) (q : Nat → Nat), vi = .int .i64 i ∧ vj = .int .i64 j ∧ 0 < i ∧ 0 < j ∧ i ≤ m ∧ m + j ≤ n ∧ rot q (m - i) m (m + j) = rot p a m e ∧ Row6 53 wr b off es q n ∧ Sw b w wr) (fun vi vj _ => (intOf vi).toNat + (intOf vj).toNat)
  case atStart => exact ⟨i0, j0, p, rfl, rfl, by omega, by omega, by omega, by omega, hst, hr, Sw.refl _ _⟩
  case round =>
    obtain ⟨i, j, q, rfl, rfl, hi, hj, him, hjn, hq, hri, hsw⟩ := hrel
    obtain ⟨s, hs⟩ : ∃ s, m - i = s := ⟨_, rfl⟩
    have w1 : IntKind.i64.wrap ((m : Int) - (i : Int)) = (s : Int) := by rw [IntWalk.i64_in _ (by omega)]; omega
    have HQ := Lib.hid hq
    have HS := Lib.hid hs
    by_cases hne : i = j
    · subst hne
      have call := Fd_swapr es q b off n cap wr hri s m i (by omega) (by omega) hn ho cv
      have CALL := Lib.hid call
      clear call hr hst hq hs
      go_wp2_with (go_at_call 68; refine CALL.out.mono ?_; rintro x w3 ⟨rfl, hr3, hs3⟩)
      go_end0
      refine ⟨rfl, ?_, hsw.trans hs3⟩
      rw [← HS.out, rot_eq him, HQ.out] at hr3
      exact hr3
    · by_cases hgt : j < i
      · have g1 : decide (j < i) = true := by simpa using hgt
        obtain ⟨d, hd⟩ : ∃ d, i - j = d := ⟨_, rfl⟩
        have w2 : IntKind.i64.wrap ((i : Int) - (j : Int)) = (d : Int) := by rw [IntWalk.i64_in _ (by omega)]; omega
        have call := Fd_swapr es q b off n cap wr hri s m j (by omega) (by omega) hn ho cv
        have CALL := Lib.hid call
        have HD := Lib.hid hd
        clear call hr hst hq hs hd
        go_wp2_with (go_at_call 68; refine CALL.out.mono ?_; rintro x w3 ⟨rfl, hr3, hs3⟩)
        have hd := HD.out
        have hs := HS.out
        refine ⟨⟨d, j, swr q (m - i) m j, rfl, rfl, by omega, hj, by omega, hjn, ?_, by rw [hs]; exact hr3, hsw.trans hs3⟩, ?_⟩
        · rw [← hd, rot_gt him hgt, HQ.out]
        · simp [intOf]
          omega
      · have g1 : decide (j < i) = false := by simpa using hgt
        obtain ⟨d, hd⟩ : ∃ d, j - i = d := ⟨_, rfl⟩
        obtain ⟨u, hu⟩ : ∃ u, m + j = u := ⟨_, rfl⟩
        obtain ⟨v, hv⟩ : ∃ v, m + j - i = v := ⟨_, rfl⟩
        have w2 : IntKind.i64.wrap ((j : Int) - (i : Int)) = (d : Int) := by rw [IntWalk.i64_in _ (by omega)]; omega
        have w3 : IntKind.i64.wrap ((m : Int) + (j : Int)) = (u : Int) := by rw [IntWalk.i64_in _ (by omega)]; omega
        have w4 : IntKind.i64.wrap ((u : Int) - (i : Int)) = (v : Int) := by rw [IntWalk.i64_in _ (by omega)]; omega
        have call := Fd_swapr es q b off n cap wr hri s v i (by omega) (by omega) hn ho cv
        have CALL := Lib.hid call
        have HD := Lib.hid hd
        have HV := Lib.hid hv
        clear call hr hst hq hs hd hu hv
        go_wp2_with (go_at_call 68; refine CALL.out.mono ?_; rintro x w3 ⟨rfl, hr3, hs3⟩)
        have hd := HD.out
        have hs := HS.out
        have hv := HV.out
        refine ⟨⟨i, d, swr q (m - i) (m + j - i) i, rfl, rfl, hi, by omega, him, by omega, ?_, by rw [hs, hv]; exact hr3, hsw.trans hs3⟩, ?_⟩
        · rw [← hd, rot_lt him (by omega), HQ.out]
        · simp [intOf]
          omega
end Go.Proofs.Yteblimdbkiiaaaa
