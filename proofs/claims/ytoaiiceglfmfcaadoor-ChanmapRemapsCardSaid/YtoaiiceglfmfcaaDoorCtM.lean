/- chanmap: the walks of the statements ChanmapChecks, ChanmapSets, ChanmapRemaps, ChanmapSpectrum. -/
import Derived.Test.YtoaiiceglfmfcaaDoorCtL
namespace Go.Proofs.YtoaiiceglfmfcaaDoor
open Go.RowKit

set_option linter.unusedSimpArgs false in
set_option linter.unusedVariables false in
set_option maxRecDepth 100000 in
set_option maxHeartbeats 1000000 in
theorem chanmapChecks_walk (v0 : Value) (w : World) (a0 : Arg Tryd.prog w 23 v0) (M : Int) (hM : w.cell? ⟨0, 0, none⟩ = some (.int .i64 M)) (hE : EVar w) :
    Calls Tryd.prog 3 #[v0] w fun e w' => e = .returned (.bool true) ∧ Below w.heap.size w w' := by
  obtain ⟨m, rfl, hm⟩ := a0.u64 Tryd.underlying23
  have h0 := Lib.hid (lives_any M w hE hM)
  have h1 := Lib.hid (fun W => check_any m hm W)
  have h2 := Lib.hid (fun W => rcheck_any m hm W)
  generalize chk m = C at h1 h2
  clear hM hE a0
  go_enter Tryd.func3, Tryd.ntmps3
  go_wp2_with fail
  refine h0.out.mono ?_
  rintro e w1 ⟨rfl, hB1⟩
  go_wp2_with fail
  refine (h1.out _).mono ?_
  rintro e w' ⟨rfl, rfl⟩
  go_wp2_with fail
  refine (h2.out _).mono ?_
  rintro e w2 ⟨rfl, hB2⟩
  have hBf := hB1.trans (hB2.mono hB1.size)
  go_wp2
  go_ret
  exact ⟨by simp, hBf⟩
set_option linter.unusedSimpArgs false in
set_option linter.unusedVariables false in
set_option maxRecDepth 100000 in
set_option maxHeartbeats 1000000 in
theorem chanmapRemaps_walk (v0 v1 : Value) (w : World) (a0 : Arg Tryd.prog w 23 v0) (a1 : Arg Tryd.prog w 3 v1) (M : Int) (hM : w.cell? ⟨0, 0, none⟩ = some (.int .i64 M)) (hE : EVar w) :
    Calls Tryd.prog 5 #[v0, v1] w fun e w' => e = .returned (.bool true) ∧ Below w.heap.size w w' := by
  obtain ⟨m, rfl, hm⟩ := a0.u64 Tryd.underlying23
  obtain ⟨c, rfl, _, _⟩ := a1.i64 Tryd.underlying3
  have h0 := Lib.hid (lives_any M w hE hM)
  have h1 := Lib.hid (fun W => remap_any m hm c W)
  have h2 := Lib.hid (fun W => rremap_any m hm c W)
  have h3 := Lib.hid (fun W => freq_any c W)
  have h4 := Lib.hid (fun W => rfreq_any c W)
  generalize remapI m c = R at h1 h2
  generalize freq c = F at h3 h4
  clear hM hE a0 a1
  go_enter Tryd.func5, Tryd.ntmps5
  go_wp2_with fail
  refine h0.out.mono ?_
  rintro e w1 ⟨rfl, hB1⟩
  go_wp2_with fail
  refine (h1.out _).mono ?_
  rintro e w2 ⟨rfl, hB2⟩
  have hB2' := hB1.trans (hB2.mono hB1.size)
  go_wp2_with fail
  refine (h2.out _).mono ?_
  rintro e w3 ⟨rfl, hB3⟩
  have hBf := hB2'.trans (hB3.mono hB2'.size)
  clear hB1 hB2 hB2' hB3
  go_wp2_with fail
  refine (h3.out _).mono ?_
  rintro e w' ⟨rfl, rfl⟩
  go_wp2_with fail
  refine (h4.out _).mono ?_
  rintro e w' ⟨rfl, rfl⟩
  go_wp2
  go_ret
  exact ⟨by simp, hBf⟩
set_option linter.unusedSimpArgs false in
set_option linter.unusedVariables false in
set_option maxRecDepth 100000 in
set_option maxHeartbeats 1000000 in
theorem chanmapSets_walk (v0 v1 : Value) (w : World) (a0 : Arg Tryd.prog w 23 v0) (a1 : Arg Tryd.prog w 3 v1) (M : Int) (hM : w.cell? ⟨0, 0, none⟩ = some (.int .i64 M)) (hE : EVar w) :
    Calls Tryd.prog 4 #[v0, v1] w fun e w' => e = .returned (.bool true) ∧ Below w.heap.size w w' := by
  obtain ⟨m, rfl, hm⟩ := a0.u64 Tryd.underlying23
  obtain ⟨c, rfl, _, _⟩ := a1.i64 Tryd.underlying3
  have hlst : (lst m).length ≤ 37 := lstTo_len m 37
  have h0 := Lib.hid (lives_any M w hE hM)
  have h1 := Lib.hid (fun W => has_any m hm c W)
  have h2 := Lib.hid (fun W => rhas_any m hm c W)
  have h3 := Lib.hid (fun W => count_any m hm W)
  have h4 := Lib.hid (fun W => rcount_any m hm W)
  have h5 := Lib.hid (fun W => list_any m hm W)
  have h6 := Lib.hid (fun W => rlist_any m hm W)
  have h7 := Lib.hid (fun W => nth_any m hm c W)
  have h8 := Lib.hid (fun W => rnth_any m hm c W)
  have h9 := Lib.hid (fun v1 v2 W => sameInts_any (lst m) _ rfl (by omega) v1 v2 W)
  have hsl := Lib.hid (fun (w : World) base v => sr_lst (w := w) (base := base) (m := m) (v := v))
  generalize hasI m c = A at h1 h2
  generalize pop m 37 = P at h3 h4
  generalize nthI m c = N at h7 h8
  generalize lst m = l at *
  clear hM hE a0 a1
  go_enter Tryd.func4, Tryd.ntmps4
  go_wp2_with fail
  refine h0.out.mono ?_
  rintro e w1 ⟨rfl, hB1⟩
  have HB1 := Lib.hid hB1
  clear hB1
  go_wp2_with fail
  refine (h1.out _).mono ?_
  rintro e w' ⟨rfl, rfl⟩
  go_wp2_with fail
  refine (h2.out _).mono ?_
  rintro e w' ⟨rfl, rfl⟩
  go_wp2_with fail
  refine (h3.out _).mono ?_
  rintro e w' ⟨rfl, rfl⟩
  go_wp2_with fail
  refine (h4.out _).mono ?_
  rintro e w2 ⟨rfl, hB2⟩
  have HB2 := Lib.hid (HB1.out.trans (hB2.mono HB1.out.size))
  clear hB2 HB1
  go_wp2_with fail
  refine (h5.out _).mono ?_
  rintro e w3 ⟨v3, rfl, ho3, hB3⟩
  have HB3 := Lib.hid (HB2.out.trans (hB3.mono HB2.out.size))
  have HS3 := Lib.hid (hsl.out _ _ _ ho3)
  clear hB3 HB2 ho3
  go_wp2_with fail
  refine (h6.out _).mono ?_
  rintro e w4 ⟨g4, c4, rfl, ho4, hB4⟩
  have HB4 := Lib.hid (HB3.out.trans (hB4.mono HB3.out.size))
  have HS4 := Lib.hid (hsl.out _ _ _ ho4)
  have HS3' := Lib.hid (HS3.out.below hB4)
  clear hB4 HB3 ho4 HS3
  go_wp2_with fail
  refine (h9.out _ _ _ HS3'.out HS4.out).mono ?_
  rintro e w5 ⟨rfl, hB5⟩
  have HB5 := Lib.hid (HB4.out.trans (hB5.mono HB4.out.size))
  clear hB5 HB4 HS3' HS4
  go_wp2_with fail
  refine (h7.out _).mono ?_
  rintro e w6 ⟨rfl, hB6⟩
  have HB6 := Lib.hid (HB5.out.trans (hB6.mono HB5.out.size))
  clear hB6 HB5
  go_wp2_with fail
  refine (h8.out _).mono ?_
  rintro e w7 ⟨rfl, hB7⟩
  have HB7 := Lib.hid (HB6.out.trans (hB7.mono HB6.out.size))
  clear hB7 HB6
  go_wp2
  go_ret
  exact ⟨by simp, HB7.out⟩
theorem freq_out (c : Int) (h : c < 0 ∨ 40 ≤ c) : freq c = 0 := by unfold freq; rw [if_pos h]
theorem freq_in (c : Int) (h : 0 ≤ c ∧ c < 40) : 2402 ≤ freq c ∧ freq c ≤ 2480 ∧ freq c % 2 = 0 := by
  unfold freq
  repeat' split
  all_goals omega
theorem freq_inj (a b : Int) (h : 0 ≤ a ∧ a < 40) (h' : 0 ≤ b ∧ b < 40) (e : freq a = freq b) : a = b := by
  unfold freq at e
  repeat' split at e
  all_goals omega
set_option linter.unusedSimpArgs false in
set_option linter.unusedVariables false in
set_option maxRecDepth 100000 in
set_option maxHeartbeats 1000000 in
theorem chanmapSpectrum_walk (v0 v1 : Value) (w : World) (a0 : Arg Tryd.prog w 3 v0) (a1 : Arg Tryd.prog w 3 v1) (M : Int) (hM : w.cell? ⟨0, 0, none⟩ = some (.int .i64 M)) (hE : EVar w) :
    Calls Tryd.prog 10 #[v0, v1] w fun e w' => e = .returned (.bool true) ∧ Below w.heap.size w w' := by
  obtain ⟨a, rfl, _, _⟩ := a0.i64 Tryd.underlying3
  obtain ⟨b, rfl, _, _⟩ := a1.i64 Tryd.underlying3
  have h0 := Lib.hid (lives_any M w hE hM)
  have h1 := Lib.hid (fun W => freq_any a W)
  have h2 := Lib.hid (fun W => freq_any b W)
  clear hM hE a0 a1
  by_cases ha : a < 0 ∨ 40 ≤ a
  · have hf := freq_out a ha
    rw [hf] at h1
    generalize freq b = G at h2
    rcases ha with ha | ha
    · have t1 : decide (a < 0) = true := by simpa using ha
      have t2 : decide (0 ≤ a) = false := by simp; omega
      clear hf
      go_enter Tryd.func10, Tryd.ntmps10
      go_wp2_with fail
      refine h0.out.mono ?_
      rintro e w1 ⟨rfl, hB1⟩
      go_wp2_with fail
      refine (h1.out _).mono ?_
      rintro e w' ⟨rfl, rfl⟩
      go_wp2_with fail
      refine (h2.out _).mono ?_
      rintro e w' ⟨rfl, rfl⟩
      go_wp2
      go_ret
      exact ⟨rfl, hB1⟩
    · have t1 : decide (a < 0) = false := by simp; omega
      have t3 : decide (40 ≤ a) = true := by simp; omega
      have t2 : decide (0 ≤ a) = true := by simp; omega
      have t4 : decide (a < 40) = false := by simp; omega
      clear hf
      go_enter Tryd.func10, Tryd.ntmps10
      go_wp2_with fail
      refine h0.out.mono ?_
      rintro e w1 ⟨rfl, hB1⟩
      go_wp2_with fail
      refine (h1.out _).mono ?_
      rintro e w' ⟨rfl, rfl⟩
      go_wp2_with fail
      refine (h2.out _).mono ?_
      rintro e w' ⟨rfl, rfl⟩
      go_wp2
      go_ret
      exact ⟨rfl, hB1⟩
  · have ha' : 0 ≤ a ∧ a < 40 := by omega
    have hin := freq_in a ha'
    have hinj := freq_inj a b ha'
    obtain ⟨F, hF⟩ : ∃ F, freq a = F := ⟨_, rfl⟩
    obtain ⟨G, hG⟩ : ∃ G, freq b = G := ⟨_, rfl⟩
    rw [hF] at h1 hin hinj
    rw [hG] at h2 hinj
    have hEq : a = b → F = G := fun e => by rw [← hF, ← hG, e]
    have t1 : decide (a < 0) = false := by simp; omega
    have t3 : decide (40 ≤ a) = false := by simp; omega
    have t2 : decide (0 ≤ a) = true := by simp; omega
    have t4 : decide (a < 40) = true := by simp; omega
    clear hF hG
    by_cases hb : b < 0 ∨ 40 ≤ b
    · clear hinj hEq hin
      rcases hb with hb | hb
      · have u1 : decide (b < 0) = true := by simpa using hb
        go_enter Tryd.func10, Tryd.ntmps10
        go_wp2_with fail
        refine h0.out.mono ?_
        rintro e w1 ⟨rfl, hB1⟩
        go_wp2_with fail
        refine (h1.out _).mono ?_
        rintro e w' ⟨rfl, rfl⟩
        go_wp2_with fail
        refine (h2.out _).mono ?_
        rintro e w' ⟨rfl, rfl⟩
        go_wp2
        go_ret
        exact ⟨rfl, hB1⟩
      · have u1 : decide (b < 0) = false := by simp; omega
        have u3 : decide (40 ≤ b) = true := by simp; omega
        go_enter Tryd.func10, Tryd.ntmps10
        go_wp2_with fail
        refine h0.out.mono ?_
        rintro e w1 ⟨rfl, hB1⟩
        go_wp2_with fail
        refine (h1.out _).mono ?_
        rintro e w' ⟨rfl, rfl⟩
        go_wp2_with fail
        refine (h2.out _).mono ?_
        rintro e w' ⟨rfl, rfl⟩
        go_wp2
        go_ret
        exact ⟨rfl, hB1⟩
    · have hb' : 0 ≤ b ∧ b < 40 := by omega
      have hinj := hinj hb'
      have u1 : decide (b < 0) = false := by simp; omega
      have u3 : decide (40 ≤ b) = false := by simp; omega
      obtain ⟨i1, i2, i3⟩ := hin
      have k1 : decide (2402 ≤ F) = true := by simpa using i1
      have k2 : decide (F ≤ 2480) = true := by simpa using i2
      have k3 : (F % 2 == 0) = true := by simpa using i3
      have hfin : ((a == b) == (F == G)) = true := by
        by_cases e : a = b
        · have := hEq e; subst e this; simp
        · have : F ≠ G := fun h => e (hinj h)
          have e1 : (a == b) = false := by simpa using e
          have e2 : (F == G) = false := by simpa using this
          rw [e1, e2]; rfl
      have hF0 : 0 ≤ F := by omega
      have HFIN := Lib.hid hfin
      obtain ⟨p, hp⟩ : ∃ p, (a == b) = p := ⟨_, rfl⟩
      obtain ⟨q, hq⟩ : ∃ q, (F == G) = q := ⟨_, rfl⟩
      have hpq : p = q := by rw [hp, hq] at hfin; simpa using hfin
      subst hpq
      clear hinj hEq hfin i3
      go_enter Tryd.func10, Tryd.ntmps10
      go_wp2_with fail
      refine h0.out.mono ?_
      rintro e w1 ⟨rfl, hB1⟩
      go_wp2_with fail
      refine (h1.out _).mono ?_
      rintro e w' ⟨rfl, rfl⟩
      go_wp2_with fail
      refine (h2.out _).mono ?_
      rintro e w' ⟨rfl, rfl⟩
      go_wp2
      go_ret
      exact ⟨by simp, hB1⟩
end Go.Proofs.YtoaiiceglfmfcaaDoor
