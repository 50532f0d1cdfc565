/- capture: Select of the reference. -/
import Derived.Test.YtccknpdnapoboaaDoorCqO
import Derived.Deep.DeepCutAuto
import Derived.Deep.CutRange
namespace Go.Proofs.YtccknpdnapoboaaDoor
open Go.RowKit

set_option linter.unusedSimpArgs false in
set_option linter.unusedVariables false in
set_option maxRecDepth 100000 in
set_option maxHeartbeats 8000000 in
theorem rselect_any (v : Value) (l : List Cp) (x0 x1 x2 x3 x4 : Int) (w : World) (h : Cps w v l) (hm : l.length ≤ 64) :
    Calls Tryd.prog 18 #[v, .agg #[.int .i64 x0, .int .i64 x1, .int .i64 x2, .int .i64 x3, .int .i64 x4]] w fun e w' => ∃ v', e = .returned v' ∧ Cps w' v' (l.filter (selB x0 x1 x2 x3 x4)) ∧ Below w.heap.size w w' := by
  obtain ⟨i5, hi5, hy0, hy1, hy2⟩ := info_parts Tryd.info_cp
  obtain ⟨n, hn⟩ : ∃ n, l.length = n := ⟨_, rfl⟩
  have hv : ∃ a c, v = .slice a n c := by
    obtain ⟨_, ao, cap, rfl, _⟩ := h
    exact ⟨ao, cap, by rw [hn]⟩
  obtain ⟨a, c, rfl⟩ := hv
  rw [hn] at hm
  have hn1 := heap_alloc_new w (.cells #[.int .i64 x0, .int .i64 x1, .int .i64 x2, .int .i64 x3, .int .i64 x4] 39)
  have ha1 : Below w.heap.size w (w.alloc (.cells #[.int .i64 x0, .int .i64 x1, .int .i64 x2, .int .i64 x3, .int .i64 x4] 39)) := (Below.refl _ _).alloc (Nat.le_refl _) _
  obtain ⟨U, hU⟩ : ∃ U, w.alloc (.cells #[.int .i64 x0, .int .i64 x1, .int .i64 x2, .int .i64 x3, .int .i64 x4] 39) = U := ⟨_, rfl⟩
  have hUs : U.heap.size = w.heap.size + 1 := by rw [← hU]; simp
  rw [hU] at hn1 ha1
  have HN := Lib.hid hn
  have HC := Lib.hid (h.below ha1)
  have HX := Lib.hid hn1
  have HU := Lib.hid ha1
  have hUlt : w.heap.size < U.heap.size := by omega
  clear h hn hn1 ha1 hUs
  go_enter Tryd.func18, Tryd.ntmps18
  go_upto_region 1 with fail
  try rw [hU]
  clear hU
  have HI0 : Hid (CpJ U.heap.size 35 (U.alloc (.cells #[] 35)) (.slice (some ⟨U.heap.size, 0, none⟩) 0 0) [] []) := Lib.hid ⟨rfl, World.ownsRow_made (base := U.heap.size) (e := 35) (size := 5) U #[] 0 (Nat.le_refl _) (by unfold maxLen; omega) rfl, fun j h => absurd h (by simp)⟩
  go_wp2_with fail
  go_loopw [5, 6, 7] (fun out i _ wr => ∃ (k : Nat) (vs : List Value), i = .int .i64 k ∧ k ≤ n ∧ Hid (CpJ U.heap.size 35 wr out ((l.take k).filter (selB x0 x1 x2 x3 x4)) vs) ∧ Below U.heap.size U wr) (fun _ i _ _ => n - (intOf i).toNat)
  case atStart => exact ⟨0, [], by simp, Nat.zero_le _, HI0, (Below.refl _ _).alloc (Nat.le_refl _) _⟩
  case round =>
    obtain ⟨k, vs, rfl, hk, hinv, hB⟩ := hrel
    by_cases hlt : k < n
    · have g1 : decide (k < n) = true := by simpa using hlt
      have g1' : decide ((k : Int) < (n : Int)) = true := by simp; omega
      have hkl : k < l.length := by rw [HN.out]; exact hlt
      obtain ⟨b, off, rfl, hb, hx⟩ := HC.out.2.elim fun ao h => h.elim fun cap h => by
        have e := h.1
        rw [HN.out] at e
        cases e
        exact h.2 (by omega)
      obtain ⟨ra, rc, d0, d1, d2, d3, d4, hby⟩ := hx k hkl
      have hnil := hby.nil_or
      replace d0 := kc d0 hB
      replace d1 := kc d1 hB
      replace d2 := kc d2 hB
      replace d3 := kc d3 hB
      replace d4 := kc d4 hB
      replace hby := hby.below hB
      have hstep : (l.take (k + 1)).filter (selB x0 x1 x2 x3 x4) = (l.take k).filter (selB x0 x1 x2 x3 x4) ++ if selB x0 x1 x2 x3 x4 l[k] = true then [l[k]] else [] := by
        rw [List.take_succ_eq_append_getElem hkl, List.filter_append]
        congr 1
        by_cases h : selB x0 x1 x2 x3 x4 l[k] = true <;> simp [h]
      obtain ⟨⟨T, C, F, KD, bs⟩, he⟩ : ∃ t, l[k] = t := ⟨_, rfl⟩
      rw [he] at d0 d1 d2 d3 d4 hby hstep hnil
      simp only at d0 d1 d2 d3 d4 hby hnil
      obtain ⟨L, hL⟩ : ∃ L, bs.length = L := ⟨_, rfl⟩
      rw [hL] at d4 hby hnil
      have hbr : b < wr.heap.size := Nat.lt_of_lt_of_le hb hB.size
      have hi1 : (k : Int) < (n : Int) := by omega
      have w1 : IntKind.i64.wrap ((k : Int) + 1) = (k : Int) + 1 := IntWalk.i64_in _ (by omega)
      obtain ⟨B0, hB0⟩ : ∃ x, fitB x0 C = x := ⟨_, rfl⟩
      obtain ⟨B1, hB1⟩ : ∃ x, fitB x1 F = x := ⟨_, rfl⟩
      obtain ⟨B2, hB2⟩ : ∃ x, fitB x2 KD = x := ⟨_, rfl⟩
      obtain ⟨B3, hB3⟩ : ∃ x, decide (x3 ≤ T) = x := ⟨_, rfl⟩
      obtain ⟨B4, hB4⟩ : ∃ x, decide (T < x4) = x := ⟨_, rfl⟩
      have hsel : selB x0 x1 x2 x3 x4 ⟨T, C, F, KD, bs⟩ = (B0 && (B1 && (B2 && (B3 && B4)))) := by unfold selB; rw [hB0, hB1, hB2, hB3, hB4]
      rw [hsel] at hstep
      have hf0 := fun W => fits_any x0 C W
      have hf1 := fun W => fits_any x1 F W
      have hf2 := fun W => fits_any x2 KD W
      simp only [hB0, hB1, hB2] at hf0 hf1 hf2
      have HF0 := Lib.hid hf0
      have HF1 := Lib.hid hf1
      have HF2 := Lib.hid hf2
      have HB0 := Lib.hid hB0
      have HB1 := Lib.hid hB1
      have HB2 := Lib.hid hB2
      have HSTEP := Lib.hid hstep
      have HBY := Lib.hid hby
      have HNIL := Lib.hid hnil
      have HL := Lib.hid hL
      have HBR := Lib.hid hB
      have hxr := (hB.block _ (by omega : w.heap.size < U.heap.size)).trans HX.out
      clear hf0 hf1 hf2 hB0 hB1 hB2 hsel hx he hby hL hstep hnil
      go_upto_region 6 with fail
      generalize hV : World.alloc wr _ = V
      obtain ⟨h6, hV6, h6z⟩ := alloc_named hV
      have hbox := (hV6.block _ (by have := HBR.out.size; omega : w.heap.size < wr.heap.size)).trans hxr
      have f0 := cell_of_row _ _ 0 _ _ _ h6
      have f1 := cell_of_row _ _ 1 _ _ _ h6
      have f2 := cell_of_row _ _ 2 _ _ _ h6
      have f3 := cell_of_row _ _ 3 _ _ _ h6
      have f4 := cell_of_row _ _ 4 _ _ _ h6
      simp at f0 f1 f2 f3 f4
      have y0 := cell_of_row _ _ 0 _ _ _ hbox
      have y1 := cell_of_row _ _ 1 _ _ _ hbox
      have y2 := cell_of_row _ _ 2 _ _ _ hbox
      have y3 := cell_of_row _ _ 3 _ _ _ hbox
      have y4 := cell_of_row _ _ 4 _ _ _ hbox
      simp at y0 y1 y2 y3 y4
      have HI := Lib.hid (hinv.out.below hV6)
      have HBV := Lib.hid (HBY.out.below hV6)
      have HF := Lib.hid (HBR.out.trans (hV6.mono HBR.out.size))
      clear hV h6 h6z hV6 hbox hxr d0 d1 d2 d3 d4 hinv HBY
      go_cut [66] (fun bb wx => bb = .bool (B0 && (B1 && (B2 && (B3 && B4)))) ∧ wx = V)
      case first =>
        by_cases e0 : x0 = -1
        · have t0 : (x0 == -1) = true := by simpa using e0
          have hb0 := HB0.out
          unfold fitB at hb0
          rw [decide_eq_true e0, Bool.true_or] at hb0
          subst hb0
          clear e0 HB0
          by_cases e1 : x1 = -1
          · have t1 : (x1 == -1) = true := by simpa using e1
            have hb1 := HB1.out
            unfold fitB at hb1
            rw [decide_eq_true e1, Bool.true_or] at hb1
            subst hb1
            clear e1 HB1
            by_cases e2 : x2 = -1
            · have t2 : (x2 == -1) = true := by simpa using e2
              have hb2 := HB2.out
              unfold fitB at hb2
              rw [decide_eq_true e2, Bool.true_or] at hb2
              subst hb2
              clear e2 HB2
              cases B3 with
              | false =>
                go_wp2_with fail
                go_meet
                exact ⟨by simp, rfl⟩
              | true =>
                cases B4 with
                | false =>
                  go_wp2_with fail
                  go_meet
                  exact ⟨by simp, rfl⟩
                | true =>
                  go_wp2_with fail
                  go_meet
                  exact ⟨by simp, rfl⟩
            have t2 : (x2 == -1) = false := by simpa using e2
            by_cases c2 : x2 = KD
            · have s2 : (x2 == KD) = true := by simpa using c2
              have hb2 := HB2.out
              unfold fitB at hb2
              rw [decide_eq_true c2, Bool.or_true] at hb2
              subst hb2
              clear e2 c2 HB2
              cases B3 with
              | false =>
                go_wp2_with fail
                go_meet
                exact ⟨by simp, rfl⟩
              | true =>
                cases B4 with
                | false =>
                  go_wp2_with fail
                  go_meet
                  exact ⟨by simp, rfl⟩
                | true =>
                  go_wp2_with fail
                  go_meet
                  exact ⟨by simp, rfl⟩
            have s2 : (x2 == KD) = false := by simpa using c2
            have hb2 := HB2.out
            unfold fitB at hb2
            rw [decide_eq_false e2, decide_eq_false c2, Bool.false_or] at hb2
            subst hb2
            clear e2 c2 HB2
            go_wp2_with fail
            go_meet
            exact ⟨by simp, rfl⟩
          have t1 : (x1 == -1) = false := by simpa using e1
          by_cases c1 : x1 = F
          · have s1 : (x1 == F) = true := by simpa using c1
            have hb1 := HB1.out
            unfold fitB at hb1
            rw [decide_eq_true c1, Bool.or_true] at hb1
            subst hb1
            clear e1 c1 HB1
            by_cases e2 : x2 = -1
            · have t2 : (x2 == -1) = true := by simpa using e2
              have hb2 := HB2.out
              unfold fitB at hb2
              rw [decide_eq_true e2, Bool.true_or] at hb2
              subst hb2
              clear e2 HB2
              cases B3 with
              | false =>
                go_wp2_with fail
                go_meet
                exact ⟨by simp, rfl⟩
              | true =>
                cases B4 with
                | false =>
                  go_wp2_with fail
                  go_meet
                  exact ⟨by simp, rfl⟩
                | true =>
                  go_wp2_with fail
                  go_meet
                  exact ⟨by simp, rfl⟩
            have t2 : (x2 == -1) = false := by simpa using e2
            by_cases c2 : x2 = KD
            · have s2 : (x2 == KD) = true := by simpa using c2
              have hb2 := HB2.out
              unfold fitB at hb2
              rw [decide_eq_true c2, Bool.or_true] at hb2
              subst hb2
              clear e2 c2 HB2
              cases B3 with
              | false =>
                go_wp2_with fail
                go_meet
                exact ⟨by simp, rfl⟩
              | true =>
                cases B4 with
                | false =>
                  go_wp2_with fail
                  go_meet
                  exact ⟨by simp, rfl⟩
                | true =>
                  go_wp2_with fail
                  go_meet
                  exact ⟨by simp, rfl⟩
            have s2 : (x2 == KD) = false := by simpa using c2
            have hb2 := HB2.out
            unfold fitB at hb2
            rw [decide_eq_false e2, decide_eq_false c2, Bool.false_or] at hb2
            subst hb2
            clear e2 c2 HB2
            go_wp2_with fail
            go_meet
            exact ⟨by simp, rfl⟩
          have s1 : (x1 == F) = false := by simpa using c1
          have hb1 := HB1.out
          unfold fitB at hb1
          rw [decide_eq_false e1, decide_eq_false c1, Bool.false_or] at hb1
          subst hb1
          clear e1 c1 HB1
          go_wp2_with fail
          go_meet
          exact ⟨by simp, rfl⟩
        have t0 : (x0 == -1) = false := by simpa using e0
        by_cases c0 : x0 = C
        · have s0 : (x0 == C) = true := by simpa using c0
          have hb0 := HB0.out
          unfold fitB at hb0
          rw [decide_eq_true c0, Bool.or_true] at hb0
          subst hb0
          clear e0 c0 HB0
          by_cases e1 : x1 = -1
          · have t1 : (x1 == -1) = true := by simpa using e1
            have hb1 := HB1.out
            unfold fitB at hb1
            rw [decide_eq_true e1, Bool.true_or] at hb1
            subst hb1
            clear e1 HB1
            by_cases e2 : x2 = -1
            · have t2 : (x2 == -1) = true := by simpa using e2
              have hb2 := HB2.out
              unfold fitB at hb2
              rw [decide_eq_true e2, Bool.true_or] at hb2
              subst hb2
              clear e2 HB2
              cases B3 with
              | false =>
                go_wp2_with fail
                go_meet
                exact ⟨by simp, rfl⟩
              | true =>
                cases B4 with
                | false =>
                  go_wp2_with fail
                  go_meet
                  exact ⟨by simp, rfl⟩
                | true =>
                  go_wp2_with fail
                  go_meet
                  exact ⟨by simp, rfl⟩
            have t2 : (x2 == -1) = false := by simpa using e2
            by_cases c2 : x2 = KD
            · have s2 : (x2 == KD) = true := by simpa using c2
              have hb2 := HB2.out
              unfold fitB at hb2
              rw [decide_eq_true c2, Bool.or_true] at hb2
              subst hb2
              clear e2 c2 HB2
              cases B3 with
              | false =>
                go_wp2_with fail
                go_meet
                exact ⟨by simp, rfl⟩
              | true =>
                cases B4 with
                | false =>
                  go_wp2_with fail
                  go_meet
                  exact ⟨by simp, rfl⟩
                | true =>
                  go_wp2_with fail
                  go_meet
                  exact ⟨by simp, rfl⟩
            have s2 : (x2 == KD) = false := by simpa using c2
            have hb2 := HB2.out
            unfold fitB at hb2
            rw [decide_eq_false e2, decide_eq_false c2, Bool.false_or] at hb2
            subst hb2
            clear e2 c2 HB2
            go_wp2_with fail
            go_meet
            exact ⟨by simp, rfl⟩
          have t1 : (x1 == -1) = false := by simpa using e1
          by_cases c1 : x1 = F
          · have s1 : (x1 == F) = true := by simpa using c1
            have hb1 := HB1.out
            unfold fitB at hb1
            rw [decide_eq_true c1, Bool.or_true] at hb1
            subst hb1
            clear e1 c1 HB1
            by_cases e2 : x2 = -1
            · have t2 : (x2 == -1) = true := by simpa using e2
              have hb2 := HB2.out
              unfold fitB at hb2
              rw [decide_eq_true e2, Bool.true_or] at hb2
              subst hb2
              clear e2 HB2
              cases B3 with
              | false =>
                go_wp2_with fail
                go_meet
                exact ⟨by simp, rfl⟩
              | true =>
                cases B4 with
                | false =>
                  go_wp2_with fail
                  go_meet
                  exact ⟨by simp, rfl⟩
                | true =>
                  go_wp2_with fail
                  go_meet
                  exact ⟨by simp, rfl⟩
            have t2 : (x2 == -1) = false := by simpa using e2
            by_cases c2 : x2 = KD
            · have s2 : (x2 == KD) = true := by simpa using c2
              have hb2 := HB2.out
              unfold fitB at hb2
              rw [decide_eq_true c2, Bool.or_true] at hb2
              subst hb2
              clear e2 c2 HB2
              cases B3 with
              | false =>
                go_wp2_with fail
                go_meet
                exact ⟨by simp, rfl⟩
              | true =>
                cases B4 with
                | false =>
                  go_wp2_with fail
                  go_meet
                  exact ⟨by simp, rfl⟩
                | true =>
                  go_wp2_with fail
                  go_meet
                  exact ⟨by simp, rfl⟩
            have s2 : (x2 == KD) = false := by simpa using c2
            have hb2 := HB2.out
            unfold fitB at hb2
            rw [decide_eq_false e2, decide_eq_false c2, Bool.false_or] at hb2
            subst hb2
            clear e2 c2 HB2
            go_wp2_with fail
            go_meet
            exact ⟨by simp, rfl⟩
          have s1 : (x1 == F) = false := by simpa using c1
          have hb1 := HB1.out
          unfold fitB at hb1
          rw [decide_eq_false e1, decide_eq_false c1, Bool.false_or] at hb1
          subst hb1
          clear e1 c1 HB1
          go_wp2_with fail
          go_meet
          exact ⟨by simp, rfl⟩
        have s0 : (x0 == C) = false := by simpa using c0
        have hb0 := HB0.out
        unfold fitB at hb0
        rw [decide_eq_false e0, decide_eq_false c0, Bool.false_or] at hb0
        subst hb0
        clear e0 c0 HB0
        go_wp2_with fail
        go_meet
        exact ⟨by simp, rfl⟩
      case rest =>
      obtain ⟨rfl, rfl⟩ := hcut
      rename World => V
      obtain ⟨BB, hBB⟩ : ∃ x, (B0 && (B1 && (B2 && (B3 && B4)))) = x := ⟨_, rfl⟩
      rw [hBB]
      cases BB with
      | false =>
        have hst := HSTEP.out
        rw [hBB] at hst
        simp only [Bool.false_eq_true, if_false, List.append_nil] at hst
        clear hBB
        have hi := HI.out
        rw [← hst] at hi
        have HI2 := Lib.hid hi
        clear hst hi HI
        go_wp2
        go_roundw
        case rel => exact ⟨k + 1, vs, by go_num, by omega, HI2, HF.out⟩
        case measure => simp [intOf]; omega
      | true =>
        have hst := HSTEP.out
        rw [hBB] at hst
        simp only [if_true] at hst
        have HST := Lib.hid hst
        have HBO := HBV
        have hubl : ∀ q, u5.ownBlock = some q → U.heap.size ≤ q := fun q hq => (HI.out.own.lt q hq).1
        clear hst HSTEP hBB

        have hB7 := (Below.refl V.heap.size V).alloc (Nat.le_refl _) (.cells #[.int .i64 T, .int .i64 C, .int .i64 F, .int .i64 KD, .slice ra L rc] 35)
        have hinv7 := HI.out.below hB7
        have hby7 := HBO.out.below hB7
        have hf7 := HF.out.trans (hB7.mono HF.out.size)
        have hnew : ∀ j u, [Value.int .i64 T, .int .i64 C, .int .i64 F, .int .i64 KD, .slice ra L rc][j]? = some u → (V.alloc (.cells #[.int .i64 T, .int .i64 C, .int .i64 F, .int .i64 KD, .slice ra L rc] 35)).cell? ((⟨V.heap.size, 0, none⟩ : Addr).add j) = some u := fun j u hj => by
          have := cellNew V #[.int .i64 T, .int .i64 C, .int .i64 F, .int .i64 KD, .slice ra L rc] 35 j u (by simpa using hj)
          rw [addr_add, Nat.zero_add]
          exact this
        have hov : bs = [] ∨ ∃ b, (Value.slice ra L rc).ownBlock = some b ∧ b < (V.alloc (.cells #[.int .i64 T, .int .i64 C, .int .i64 F, .int .i64 KD, .slice ra L rc] 35)).heap.size ∧ u5.ownBlock ≠ some b := by
          rcases HNIL.out with h | ⟨b', e1, e2⟩
          · exact .inl h
          · refine .inr ⟨b', e1, Nat.lt_of_lt_of_le e2 hf7.size, fun e => ?_⟩
            have q2 := hubl b' e
            omega
        have hsz7 : (V.alloc (.cells #[.int .i64 T, .int .i64 C, .int .i64 F, .int .i64 KD, .slice ra L rc] 35)).heap.size = V.heap.size + 1 := by simp
        have hflen : ((l.take k).filter (selB x0 x1 x2 x3 x4)).length ≤ 64 := Nat.le_trans (List.length_filter_le _ _) (Nat.le_trans (List.length_take_le _ _) (by omega))
        have HIN := Lib.hid hinv7.own
        have HI7 := Lib.hid hinv7
        have HOV := Lib.hid hov
        have HV7 := Lib.hid hby7
        have HF7 := Lib.hid hf7
        have hbase : U.heap.size ≤ (V.alloc (.cells #[.int .i64 T, .int .i64 C, .int .i64 F, .int .i64 KD, .slice ra L rc] 35)).heap.size := hf7.size
        clear hB7 hinv7 hby7 hf7 hov HI HBO HF
        go_wp2_with (at_builtin; refine wpList_append_own_at _ rfl _ _ 22 rfl U.heap.size 35 i5 _ 5 56 Tryd.underlying22 hi5 hy0 hy1 hy2 rfl (by decide) u5 ((l.take k).filter (selB x0 x1 x2 x3 x4)).length _ rfl HIN.out ⟨V.heap.size, 0, none⟩ 1 1 [Value.int .i64 T, .int .i64 C, .int .i64 F, .int .i64 KD, .slice ra L rc] rfl rfl hnew ?c2 (by unfold maxLen; omega) (by omega) hbase ?_)
        case c2 => intro u hu; simp at hu; rcases hu with rfl | rfl | rfl | rfl | rfl <;> rfl
        intro v6 w6 hown6 hg6 hnn6 hob6
        have hpush := HI7.out.push (t := ⟨T, C, F, KD, bs⟩) HV7.out HOV.out hown6 hg6 (by rw [hsz7]; exact hob6)
        rw [← HST.out] at hpush
        have hB8 := HF7.out.grown hg6 hbase (fun q hq => (HIN.out.lt q hq).1)
        have HP := Lib.hid hpush
        have HB8 := Lib.hid hB8
        clear hpush hown6 hg6 hnn6 hob6 hB8 HIN HI7 HOV HV7 HF7 hnew hbase hsz7 hflen
        go_wp2
        go_roundw
        case rel => exact ⟨k + 1, _, by go_num, by omega, HP, HB8.out⟩
        case measure => simp [intOf]; omega
    · have hk2 : k = n := by omega
      subst hk2
      have g1 : decide (k < k) = false := by simp
      have ht : l.take k = l := List.take_of_length_le (by rw [HN.out]; exact Nat.le_refl _)
      rw [ht] at hinv
      have hcp := hinv.out.cps
      have hfin := HU.out.trans (hB.mono (by omega))
      clear hinv ht hB
      go_wp2
      go_ret
      exact ⟨_, rfl, hcp, hfin⟩
end Go.Proofs.YtccknpdnapoboaaDoor
