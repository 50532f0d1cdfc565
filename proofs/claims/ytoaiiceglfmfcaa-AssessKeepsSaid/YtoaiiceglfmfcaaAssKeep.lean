/- assess: the walk of AssessKeeps. -/
import Derived.Test.YtoaiiceglfmfcaaAssK
namespace Go.Proofs.Ytoaiiceglfmfcaa
open Go.RowKit

theorem rhas_b (m : Nat) (hm : m < 18446744073709551616) (j : Nat) (hj : j < 37) (B : Bool) (h : m.testBit j = B) (w : World) :
    Calls Try.prog 26 #[.int .u64 m, .int .i64 j] w fun e w' => e = .returned (.bool B) ∧ w = w' := by
  have := rhas_any m hm (j : Int) w
  rwa [hasI_in m j hj, h] at this
theorem tof_bad (v : Value) (l : List (Int × Int)) (c : Nat) (hc : c < 37) (w : World) (h : SR w v l.length 2 (tcells l)) :
    ∃ x y, badL l c = badI x y ∧ rateL l c = rateI x y ∧ ∀ w', Below w.heap.size w w' → Calls Try.prog 43 #[v, .int .i64 c] w' fun e w2 => e = .returned (.agg #[.int .i64 x, .int .i64 y]) ∧ Below w'.heap.size w' w2 :=
  ⟨(tal l c).1, (tal l c).2, rfl, rfl, fun w' hb => tof_any v l c (by omega) w' (h.below hb)⟩

set_option maxHeartbeats 2000000 in
theorem ordered_any (v : Value) (l : List (Int × Int)) (m x : Nat) (hm : m < 18446744073709551616) (hx : x < 18446744073709551616) (nI : Int) (w : World) (h : SR w v l.length 2 (tcells l))
    (H : ∀ c : Nat, c < 37 → x.testBit c = true → badL l c = true → (pop x 37 : Int) = nI ∧ ∀ d : Nat, d < 37 → m.testBit d = true → x.testBit d = false → rateL l c ≤ rateL l d) :
    Calls Try.prog 44 #[v, .int .u64 m, .int .u64 x, .int .i64 nI] w fun e w' => e = .returned (.bool true) ∧ Below w.heap.size w w' := by
  have HH := Lib.hid H
  have HSR := Lib.hid h
  clear H h
  go_enter Try.func44, Try.ntmps44
  go_wp2
  go_loopw [9, 10] (fun c _ wr => ∃ k : Nat, k ≤ 37 ∧ c = .int .i64 k ∧ Below w.heap.size w wr) (fun c _ _ => 37 - (intOf c).toNat)
  case atStart => exact ⟨0, by omega, rfl, Below.refl _ _⟩
  case round =>
    obtain ⟨k, hk, rfl, hB⟩ := hrel
    by_cases hlt : k < 37
    · obtain ⟨bx, hbx⟩ : ∃ b, x.testBit k = b := ⟨_, rfl⟩
      have HX := Lib.hid (fun w => rhas_b x hx k hlt bx hbx w)
      have HHk := HH.out k hlt
      rw [hbx] at HHk
      clear hbx
      cases bx
      · clear HHk
        go_wp2_with (go_at_call 26; refine (HX.out _).mono ?_; rintro e w' ⟨rfl, rfl⟩)
        go_roundw
        case rel => exact ⟨k + 1, by omega, by go_num, hB⟩
        case measure => simp [intOf]; omega
      · obtain ⟨p, q, hb, hr, hof⟩ := tof_bad v l k hlt w HSR.out
        obtain ⟨B, hBB⟩ : ∃ B, badL l k = B := ⟨_, rfl⟩
        obtain ⟨R, hRR⟩ : ∃ R, rateL l k = R := ⟨_, rfl⟩
        rw [hBB] at hb HHk
        rw [hRR] at hr HHk
        have cb := bad_any p q
        have cr := rate_any p q
        rw [← hb] at cb
        rw [← hr] at cr
        have CB := Lib.hid cb
        have CR := Lib.hid cr
        have OF := Lib.hid hof
        clear cb cr hof hb hr hBB hRR
        cases B
        · clear HHk
          go_wp2_with fail
          refine (HX.out _).mono ?_
          rintro e w' ⟨rfl, rfl⟩
          go_wp2_with fail
          refine (OF.out _ hB).mono ?_
          rintro e w2 ⟨rfl, hB2⟩
          have hB2' := hB.trans (hB2.mono hB.size)
          go_wp2_with fail
          refine (CB.out _).mono ?_
          rintro e w3 ⟨rfl, hB3⟩
          go_wp2
          go_roundw
          case rel => exact ⟨k + 1, by omega, by go_num, hB2'.trans (hB3.mono hB2'.size)⟩
          case measure => simp [intOf]; omega
        · obtain ⟨hpop, hd⟩ := HHk rfl rfl
          have HD := Lib.hid hd
          have hpq : ((pop x 37 : Int) == nI) = true := by simpa using hpop
          have cc := rcount_any x hx
          obtain ⟨P, hP⟩ : ∃ P, pop x 37 = P := ⟨_, rfl⟩
          rw [hP] at hpq hpop cc
          have CC := Lib.hid cc
          clear hd hP cc
          go_wp2_with fail
          refine (HX.out _).mono ?_
          rintro e w' ⟨rfl, rfl⟩
          go_wp2_with fail
          refine (OF.out _ hB).mono ?_
          rintro e w2 ⟨rfl, hB2⟩
          have hB2' := hB.trans (hB2.mono hB.size)
          go_wp2_with fail
          refine (CB.out _).mono ?_
          rintro e w3 ⟨rfl, hB3⟩
          have hB3' := hB2'.trans (hB3.mono hB2'.size)
          go_wp2_with fail
          refine (CC.out _).mono ?_
          rintro e w4 ⟨rfl, hB4⟩
          have hB4' := hB3'.trans (hB4.mono hB3'.size)
          go_wp2
          go_loopw [10] (fun d wr => ∃ j : Nat, j ≤ 37 ∧ d = .int .i64 j ∧ Below w.heap.size w wr) (fun d _ => 37 - (intOf d).toNat)
          case atStart => exact ⟨0, by omega, rfl, hB4'⟩
          case round =>
            clear hB2 hB2' hB3 hB3' hB4 hB4' hB
            obtain ⟨j, hj, rfl, hB⟩ := hrel
            by_cases hjt : j < 37
            · obtain ⟨bm, hbm⟩ : ∃ b, m.testBit j = b := ⟨_, rfl⟩
              obtain ⟨bx, hbx⟩ : ∃ b, x.testBit j = b := ⟨_, rfl⟩
              have HM := Lib.hid (fun w => rhas_b m hm j hjt bm hbm w)
              have HX2 := Lib.hid (fun w => rhas_b x hx j hjt bx hbx w)
              have HDj := HD.out j hjt
              rw [hbm, hbx] at HDj
              clear hbm hbx
              by_cases hno : bm = true ∧ bx = false
              · obtain ⟨rfl, rfl⟩ := hno
                obtain ⟨p2, q2, _, hr2, hof2⟩ := tof_bad v l j hjt w HSR.out
                have hle := HDj rfl rfl
                obtain ⟨R2, hRR2⟩ : ∃ R, rateL l j = R := ⟨_, rfl⟩
                rw [hRR2] at hr2 hle
                have cr2 := rate_any p2 q2
                rw [← hr2] at cr2
                have CR2 := Lib.hid cr2
                have OF2 := Lib.hid hof2
                clear cr2 hof2 hr2 hRR2 HDj
                go_wp2_with fail
                refine (HM.out _).mono ?_
                rintro e w' ⟨rfl, rfl⟩
                go_wp2_with fail
                refine (HX2.out _).mono ?_
                rintro e w' ⟨rfl, rfl⟩
                go_wp2_with fail
                refine (OF2.out _ hB).mono ?_
                rintro e w5 ⟨rfl, hB5⟩
                have hB5' := hB.trans (hB5.mono hB.size)
                go_wp2_with fail
                refine (CR2.out _).mono ?_
                rintro e w6 ⟨rfl, hB6⟩
                have hB6' := hB5'.trans (hB6.mono hB5'.size)
                go_wp2_with fail
                refine (OF.out _ hB6').mono ?_
                rintro e w7 ⟨rfl, hB7⟩
                have hB7' := hB6'.trans (hB7.mono hB6'.size)
                go_wp2_with fail
                refine (CR.out _).mono ?_
                rintro e w8 ⟨rfl, hB8⟩
                have hB8' := hB7'.trans (hB8.mono hB7'.size)
                go_wp2
                go_roundw
                case rel => exact ⟨j + 1, by omega, by go_num, hB8'⟩
                case measure => simp [intOf]; omega
              · clear HDj
                cases bm
                · go_wp2_with fail
                  refine (HM.out _).mono ?_
                  rintro e w' ⟨rfl, rfl⟩
                  go_wp2
                  go_roundw
                  case rel => exact ⟨j + 1, by omega, by go_num, hB⟩
                  case measure => simp [intOf]; omega
                · cases bx
                  · exact absurd ⟨rfl, rfl⟩ hno
                  · go_wp2_with fail
                    refine (HM.out _).mono ?_
                    rintro e w' ⟨rfl, rfl⟩
                    go_wp2_with fail
                    refine (HX2.out _).mono ?_
                    rintro e w' ⟨rfl, rfl⟩
                    go_wp2
                    go_roundw
                    case rel => exact ⟨j + 1, by omega, by go_num, hB⟩
                    case measure => simp [intOf]; omega
            · go_wp2
              go_roundw
              case rel => exact ⟨k + 1, by omega, by go_num, hB⟩
              case measure => simp [intOf]; omega
    · go_wp2
      go_ret
      exact ⟨rfl, hB⟩

set_option maxHeartbeats 4000000 in
theorem assessKeeps_walk (v0 v1 v2 : Value) (w : World) (a0 : Arg Try.prog w 45 v0) (a1 : Arg Try.prog w 31 v1) (a2 : Arg Try.prog w 3 v2) :
    Calls Try.prog 12 #[v0, v1, v2] w fun e w' => e = .returned (.bool true) ∧ Below w.heap.size w w' := by
  obtain ⟨l, hs⟩ := arg_tallies a0
  obtain ⟨m, rfl, hm⟩ := a1.u64 Try.underlying31
  obtain ⟨least, rfl, _⟩ := a2.i64 Try.underlying3
  clear a0 a1 a2
  have HS := Lib.hid hs
  obtain ⟨hml, _, _, ao, cap, rfl, _, _⟩ := hs
  obtain ⟨n, hn⟩ : ∃ n, l.length = n := ⟨_, rfl⟩
  unfold maxLen at hml
  rw [hn] at hml ⊢
  have HN := Lib.hid hn
  clear hn
  by_cases h100 : n ≤ 100
  · have hg : decide ((100 : Int) < (n : Int)) = false := by simp; omega
    have hl : l.length ≤ 1000 := by rw [HN.out]; omega
    obtain ⟨k1, k2, k3, k4, k5⟩ := keep_law l m least
    have hcp := fun v w h => propose_any v l hl m (by omega) least w h
    obtain ⟨x, hx⟩ : ∃ x, propN l m least = x := ⟨_, rfl⟩
    rw [hx] at k1 k2 k3 k4 k5 hcp
    have CP := Lib.hid hcp
    clear hx hcp
    obtain ⟨nI, hnI⟩ : ∃ nI, leastI m least = nI := ⟨_, rfl⟩
    rw [hnI] at k2 k5
    have hord : ∀ z, z = nI → ∀ w, SR w (.slice ao n cap) l.length 2 (tcells l) → Calls Try.prog 44 #[.slice ao n cap, .int .u64 m, .int .u64 x, .int .i64 z] w fun e w' => e = .returned (.bool true) ∧ Below w.heap.size w w' := fun z hz w h => by
      subst hz
      exact ordered_any (.slice ao n cap) l m x (by omega) (by omega) z w h k5
    have HO := Lib.hid hord
    have cc := rcount_any m (by omega)
    have ccx := rcount_any x (by omega)
    unfold leastI at hnI
    have hcase := ls_cases least
    obtain ⟨ls, hls⟩ : ∃ ls, lsI least = ls := ⟨_, rfl⟩
    have hlb := lsI_bd least
    rw [hls] at hnI hcase hlb
    obtain ⟨P, hP⟩ : ∃ P, pop m 37 = P := ⟨_, rfl⟩
    rw [hP] at hnI cc
    obtain ⟨PX, hPX⟩ : ∃ P, pop x 37 = P := ⟨_, rfl⟩
    rw [hPX] at k2 ccx
    have hsh : x / 137438953472 = 0 := Nat.div_eq_of_lt k1
    have hsh2 : (x : Int) / 137438953472 = 0 := by omega
    have CC := Lib.hid cc
    have CCX := Lib.hid ccx
    have K3 := Lib.hid k3
    have K4 := Lib.hid k4
    have HL : Hid (((least < 2 ∧ ls = 2) ∨ (2 ≤ least ∧ least ≤ 37 ∧ ls = least) ∨ (37 < least ∧ ls = 37)) ∧ ((ls ≤ P ∧ nI = ls) ∨ (P < ls ∧ nI = P)) ∧ nI ≤ PX) := by
      refine ⟨by omega, ?_, k2⟩
      split at hnI
      · exact .inl ⟨by assumption, hnI.symm⟩
      · exact .inr ⟨by omega, hnI.symm⟩
    have tb : ∀ k : Nat, k < 37 → ∃ p q, badL l k = badI p q ∧ rateL l k = rateI p q ∧ ∀ w', Below w.heap.size w w' → Calls Try.prog 43 #[.slice ao n cap, .int .i64 k] w' fun e w2 => e = .returned (.agg #[.int .i64 p, .int .i64 q]) ∧ Below w'.heap.size w' w2 := fun k hk => by
      have := tof_bad _ l k hk w HS.out
      rwa [HN.out] at this
    have TB := Lib.hid tb
    clear tb k2 hlb hcase hnI hls hP hPX cc ccx k3 k4 k5 hord hsh
    go_enter Try.func12, Try.ntmps12
    go_wp2_with fail
    refine (lives14_any _).mono ?_
    rintro e w1 ⟨rfl, hB1⟩
    have s1 := HS.out.below hB1
    rw [HN.out] at s1
    have S1 := Lib.hid s1
    clear s1
    go_wp2_with fail
    refine (copied_any _ l hl _ (by rw [HN.out]; exact S1.out)).mono ?_
    rintro e w2 ⟨g2, c2, rfl, hown2, hB2⟩
    have s2 := SR.of_own hown2 (tcells_one _) (cap_of hown2)
    go_wp2_with fail
    refine (CP.out _ _ s2).mono ?_
    rintro e w3 ⟨rfl, hB3⟩
    have hB3' := (hB1.trans (hB2.mono hB1.size)).trans (hB3.mono (Nat.le_trans hB1.size hB2.size))
    clear hB1 hB2 hB3 s2 hown2 S1
    go_wp2_with fail
    all_goals
      refine (CC.out _).mono ?_
      rintro e w4 ⟨rfl, hB4⟩
      have hB4' := hB3'.trans (hB4.mono hB3'.size)
      go_wp2_with fail
      all_goals
        refine (CCX.out _).mono ?_
        rintro e w5 ⟨rfl, hB5⟩
        have hB5' := hB4'.trans (hB5.mono hB4'.size)
        clear hB4 hB4' hB5
        try (have hq1 : decide ((PX : Int) < 37) = false := by (have := HL.out; simp; omega))
        try (have hq2 : decide ((PX : Int) < least) = false := by (have := HL.out; simp; omega))
        try (have hq3 : decide ((PX : Int) < 2) = false := by (have := HL.out; simp; omega))
        try (have hq4 : decide (PX < P) = false := by (have := HL.out; simp; omega))
        go_wp2
        all_goals first | (exfalso; have := HL.out; omega) | skip
        all_goals
          go_loopw [9] (fun c wr => ∃ k : Nat, k ≤ 37 ∧ c = .int .i64 k ∧ Below w.heap.size w wr) (fun c _ => 37 - (intOf c).toNat)
          case atStart => exact ⟨0, by omega, rfl, hB5'⟩
          case round =>
            clear hB5'
            obtain ⟨k, hk, rfl, hB⟩ := hrel
            by_cases hlt : k < 37
            · have hk3 := K3.out k hlt
              have hk4 := K4.out k hlt
              obtain ⟨bm, hbm⟩ : ∃ b, m.testBit k = b := ⟨_, rfl⟩
              obtain ⟨bx, hbx⟩ : ∃ b, x.testBit k = b := ⟨_, rfl⟩
              have HM := Lib.hid (fun w => rhas_b m (by omega) k hlt bm hbm w)
              have HX := Lib.hid (fun w => rhas_b x (by omega) k hlt bx hbx w)
              obtain ⟨p, q, hb, _, hof⟩ := TB.out k hlt
              rw [hbm, hbx] at hk3 hk4
              clear hbm hbx
              cases bx
              · cases bm
                · clear hk3 hk4 hb hof
                  go_wp2_with (go_at_call 26; first | ((with_reducible refine (HM.out _).mono ?_); rintro e w' ⟨rfl, rfl⟩) | ((with_reducible refine (HX.out _).mono ?_); rintro e w' ⟨rfl, rfl⟩))
                  go_roundw
                  case rel => exact ⟨k + 1, by omega, by go_num, hB⟩
                  case measure => simp [intOf]; omega
                · have cb := bad_any p q
                  rw [← hb, hk4 rfl rfl] at cb
                  have CB := Lib.hid cb
                  have OF := Lib.hid hof
                  clear hk3 hk4 hb hof cb
                  go_wp2_with (first | (go_at_call 26; first | ((with_reducible refine (HM.out _).mono ?_); rintro e w' ⟨rfl, rfl⟩) | ((with_reducible refine (HX.out _).mono ?_); rintro e w' ⟨rfl, rfl⟩)) | (go_at_call 43; refine (OF.out _ hB).mono ?_; rintro e w6 ⟨rfl, hB6⟩; have hB6' := hB.trans (hB6.mono hB.size)) | (go_at_call 37; refine (CB.out _).mono ?_; rintro e w7 ⟨rfl, hB7⟩; have hB7' := hB6'.trans (hB7.mono hB6'.size)))
                  go_roundw
                  case rel => exact ⟨k + 1, by omega, by go_num, hB7'⟩
                  case measure => simp [intOf]; omega
              · obtain rfl : bm = true := hk3 rfl
                clear hk3 hk4 hb hof
                go_wp2_with (go_at_call 26; first | ((with_reducible refine (HM.out _).mono ?_); rintro e w' ⟨rfl, rfl⟩) | ((with_reducible refine (HX.out _).mono ?_); rintro e w' ⟨rfl, rfl⟩))
                go_roundw
                case rel => exact ⟨k + 1, by omega, by go_num, hB⟩
                case measure => simp [intOf]; omega
            · have sS := HS.out.below hB
              rw [HN.out] at sS
              have SS := Lib.hid sS
              clear sS
              go_wp2_with fail
              refine (HO.out _ (by have := HL.out; omega) _ (by rw [HN.out]; exact SS.out)).mono ?_
              rintro e w8 ⟨rfl, hB8⟩
              go_wp2
              go_ret
              exact ⟨rfl, hB.trans (hB8.mono hB.size)⟩
  · have hg : decide ((100 : Int) < (n : Int)) = true := by simp; omega
    go_enter Try.func12, Try.ntmps12
    go_wp2_with (go_at_call 28; refine (lives14_any _).mono ?_; rintro e w1 ⟨rfl, hB1⟩)
    go_ret
    exact ⟨rfl, by assumption⟩
end Go.Proofs.Ytoaiiceglfmfcaa
