/- air: the walk of AirDisturbs. -/
import Derived.Test.YthemdbgcamkecaaAirU
namespace Go.Proofs.Ythemdbgcamkecaa
open Go.RowKit

set_option linter.unusedSimpArgs false in
set_option linter.unusedVariables false in
set_option maxHeartbeats 4000000 in
theorem airDisturbs_walk (v0 v1 : Value) (w : World) (a0 : Arg Try.prog w 34 v0) (a1 : Arg Try.prog w 35 v1) :
    Calls Try.prog 5 #[v0, v1] w fun e w' => e = .returned (.bool true) ∧ Below w.heap.size w w' := by
  obtain ⟨d, lv, jv, sv, ls, js, ss, rfl, hair, _⟩ := arg_air a0
  obtain ⟨ts, htx, hbd⟩ := arg_txs a1
  have T := cells_new w [.int .i64 d, lv, jv, sv] 34
  have hBW : Below w.heap.size w (w.alloc (.cells #[.int .i64 d, lv, jv, sv] 34)) := (Below.refl _ _).alloc (Nat.le_refl _) _
  have HA := Lib.hid hair
  have HT := Lib.hid htx
  have HB := Lib.hid hbd
  obtain ⟨hmx, ao, cap, hv1, _⟩ := htx
  obtain ⟨n, hn⟩ : ∃ n, ts.length = n := ⟨_, rfl⟩
  have HN := Lib.hid hn
  rw [hn] at hv1 hmx
  unfold maxLen at hmx
  subst hv1
  clear hair hbd a0 a1 hn
  go_enter Try.func5, Try.ntmps5
  go_wp2_with fail
  generalize hW : w.alloc (.cells _ 34) = W at T hBW ⊢
  clear hW
  refine (lives_any _).mono ?_
  rintro e w1 ⟨rfl, hB1⟩
  have T1 := T.keep hB1
  have hC1 := hBW.trans (hB1.mono hBW.size)
  have hOpen := T.keep hB1
  simp only [Cells, blk, List.cons_append, List.nil_append, and_true, Nat.reduceAdd, Nat.add_zero, Nat.zero_add] at hOpen
  obtain ⟨k0, k1, k2, k3⟩ := hOpen
  clear T hB1
  have cf := few_any d lv jv sv (.slice ao n cap) ls.length js.length ss.length ts.length 2 3 2 (tcells ls) (jcells js) (tcells ss) ts w1 (HA.out.l.below hC1) (HA.out.j.below hC1) (HA.out.s.below hC1) (HT.out.below hC1) rfl
  obtain ⟨fw, hfw⟩ : ∃ b, decide (ls.length ≤ 64 ∧ js.length ≤ 64 ∧ ss.length ≤ 64 ∧ ts.length ≤ 64) = b := ⟨_, rfl⟩
  rw [hfw] at cf
  have HFW := Lib.hid hfw
  have CF := Lib.hid cf
  clear cf hfw
  go_wp2_with fail
  refine CF.out.mono ?_
  rintro e w2 ⟨rfl, hB2⟩
  have T2 := T1.keep hB2
  have hC2 := hC1.trans (hB2.mono hC1.size)
  clear k0 k1 k2 k3
  have hOpen := T1.keep hB2
  simp only [Cells, blk, List.cons_append, List.nil_append, and_true, Nat.reduceAdd, Nat.add_zero, Nat.zero_add] at hOpen
  obtain ⟨k0, k1, k2, k3⟩ := hOpen
  clear T1 hB2
  cases fw
  · go_wp2
    go_ret
    exact ⟨rfl, hC2⟩
  · have cc := rcheck_any d lv jv sv (.slice ao n cap) ls js ss ts w2 (HA.out.l.below hC2) (HA.out.j.below hC2) (HA.out.s.below hC2) (HT.out.below hC2)
    obtain ⟨E, hE⟩ : ∃ b, checkE d ls js ss ts = b := ⟨_, rfl⟩
    rw [hE] at cc
    have HE := Lib.hid hE
    have CC := Lib.hid cc
    clear cc hE
    go_wp2_with fail
    refine CC.out.mono ?_
    rintro e w3 ⟨rfl, hB3⟩
    have T3 := T2.keep hB3
    have hC3 := hC2.trans (hB3.mono hC2.size)
    clear k0 k1 k2 k3
    have hOpen := T2.keep hB3
    simp only [Cells, blk, List.cons_append, List.nil_append, and_true, Nat.reduceAdd, Nat.add_zero, Nat.zero_add] at hOpen
    obtain ⟨k0, k1, k2, k3⟩ := hOpen
    clear T2 hB3
    by_cases hE0 : E = 0
    · subst hE0
      obtain ⟨hd8, hfit, _⟩ := check_fits HE.out
      have HF := Lib.hid hfit
      have hn64 : n ≤ 64 := by
        have := HFW.out
        simp only [decide_eq_true_eq] at this
        rw [← HN.out]
        exact this.2.2.2
      clear hfit
      have k0s := k0
      go_wp2_with fail
      go_loopw [5, 6] (fun i _ wr => ∃ I : Int, -1 ≤ I ∧ I ≤ n + 1 ∧ i = .int .i64 I ∧ Below w3.heap.size w3 wr) (fun i _ _ => (n + 1 - intOf i).toNat)
      case atStart => exact ⟨-1, by omega, by omega, rfl, Below.refl _ _⟩
      case round =>
        obtain ⟨I, hI0, hI1, rfl, hB⟩ := hrel
        have hCr := hC3.trans (hB.mono hC3.size)
        have q0 := kc k0s hB
        by_cases hlt : I ≤ n
        · rename World => V
          go_wp2_with fail
          go_loopw [6] (fun j wr => ∃ J : Int, -1 ≤ J ∧ J ≤ d + 1 ∧ j = .int .i64 J ∧ Below V.heap.size V wr) (fun j _ => (d + 1 - intOf j).toNat)
          case atStart => exact ⟨-1, by omega, by omega, rfl, Below.refl _ _⟩
          case round =>
            obtain ⟨J, hJ0, hJ1, rfl, hBi⟩ := hrel
            have hCi := hCr.trans (hBi.mono hCr.size)
            have p0 := kc q0 hBi
            have Ti := (T3.keep hB).keep hBi
            by_cases hjl : J ≤ d
            · clear k0 k1 k2 k3
              go_wp2_with fail
              refine wp_region_held_drew (S := (fun W' : World => Cells W' (blk w.heap.size 0 0 [.int .i64 d, lv, jv, sv]))) (by kernel_rfl) (Ti.drew) (fun hHeld => ?_)
              refine wpAnyH_take (i := 0) (oi := _) (v := ?_) (by rw [List.getElem?_toArray]; rfl) (by kernel_rfl) (by kernel_rfl) (by kernel_rfl) (by exact fun _ _ _ h => h) (Or.inl ⟨by rfl, ?_⟩) (by assumption) ?_
              rotate_left
              · intro w hSw
                try simp only [Cells, blk, List.cons_append, List.nil_append, and_true, Nat.reduceAdd, Nat.add_zero, Nat.zero_add] at hSw
                go_simp
                try with_reducible rfl
              simp only [Act.put, List.setIfInBounds_toArray, List.set_cons_zero, List.set_cons_succ]
              refine wpAnyH_take (i := 2) (oi := _) (v := ?_) (by rw [List.getElem?_toArray]; rfl) (by kernel_rfl) (by kernel_rfl) (by kernel_rfl) (by exact fun _ _ _ h => h) (Or.inl ⟨by rfl, ?_⟩) (by assumption) ?_
              rotate_left
              · intro w hSw
                try simp only [Cells, blk, List.cons_append, List.nil_append, and_true, Nat.reduceAdd, Nat.add_zero, Nat.zero_add] at hSw
                go_simp
                try with_reducible rfl
              simp only [Act.put, List.setIfInBounds_toArray, List.set_cons_zero, List.set_cons_succ]
              refine wpAnyH_take (i := 4) (oi := _) (v := ?_) (by rw [List.getElem?_toArray]; rfl) (by kernel_rfl) (by kernel_rfl) (by kernel_rfl) (by exact fun _ _ _ h => h) (Or.inl ⟨by rfl, ?_⟩) (by assumption) ?_
              rotate_left
              · intro w hSw
                try simp only [Cells, blk, List.cons_append, List.nil_append, and_true, Nat.reduceAdd, Nat.add_zero, Nat.zero_add] at hSw
                go_simp
                try with_reducible rfl
              simp only [Act.put, List.setIfInBounds_toArray, List.set_cons_zero, List.set_cons_succ]
              refine wpAnyH_take (i := 5) (oi := _) (v := ?_) (by rw [List.getElem?_toArray]; rfl) (by kernel_rfl) (by kernel_rfl) (by kernel_rfl) (by exact fun _ _ _ h => h) (Or.inl ⟨by rfl, ?_⟩) (by assumption) ?_
              rotate_left
              · intro w hSw
                try simp only [Cells, blk, List.cons_append, List.nil_append, and_true, Nat.reduceAdd, Nat.add_zero, Nat.zero_add] at hSw
                go_simp
                try with_reducible rfl
              simp only [Act.put, List.setIfInBounds_toArray, List.set_cons_zero, List.set_cons_succ]
              refine wpAnyH_take (i := 7) (oi := _) (v := ?_) (by rw [List.getElem?_toArray]; rfl) (by kernel_rfl) (by kernel_rfl) (by kernel_rfl) (by exact fun _ _ _ h => h) (Or.inl ⟨by rfl, ?_⟩) (by assumption) ?_
              rotate_left
              · intro w hSw
                try simp only [Cells, blk, List.cons_append, List.nil_append, and_true, Nat.reduceAdd, Nat.add_zero, Nat.zero_add] at hSw
                go_simp
                try with_reducible rfl
              simp only [Act.put, List.setIfInBounds_toArray, List.set_cons_zero, List.set_cons_succ]
              refine wpAnyH_take (i := 8) (oi := _) (v := ?_) (by rw [List.getElem?_toArray]; rfl) (by kernel_rfl) (by kernel_rfl) (by kernel_rfl) (by exact fun _ _ _ h => h) (Or.inl ⟨by rfl, ?_⟩) (by assumption) ?_
              rotate_left
              · intro w hSw
                try simp only [Cells, blk, List.cons_append, List.nil_append, and_true, Nat.reduceAdd, Nat.add_zero, Nat.zero_add] at hSw
                go_simp
                try with_reducible rfl
              simp only [Act.put, List.setIfInBounds_toArray, List.set_cons_zero, List.set_cons_succ]
              refine wpAnyH_take (i := 9) (oi := _) (v := ?_) (by rw [List.getElem?_toArray]; rfl) (by kernel_rfl) (by kernel_rfl) (by kernel_rfl) (by exact fun _ _ _ h => h) (Or.inl ⟨by rfl, ?_⟩) (by assumption) ?_
              rotate_left
              · intro w hSw
                try simp only [Cells, blk, List.cons_append, List.nil_append, and_true, Nat.reduceAdd, Nat.add_zero, Nat.zero_add] at hSw
                go_simp
                try with_reducible rfl
              simp only [Act.put, List.setIfInBounds_toArray, List.set_cons_zero, List.set_cons_succ]
              refine wpAnyH_take (i := 10) (oi := _) (v := ?_) (by rw [List.getElem?_toArray]; rfl) (by kernel_rfl) (by kernel_rfl) (by kernel_rfl) (by exact fun _ _ _ h => h) (Or.inl ⟨by rfl, ?_⟩) (by assumption) ?_
              rotate_left
              · intro w hSw
                try simp only [Cells, blk, List.cons_append, List.nil_append, and_true, Nat.reduceAdd, Nat.add_zero, Nat.zero_add] at hSw
                go_simp
                try with_reducible rfl
              simp only [Act.put, List.setIfInBounds_toArray, List.set_cons_zero, List.set_cons_succ]
              refine wpAnyH_ready (rs := [1]) (by kernel_rfl) (by simp) (AllReadyH.cons (o := _) (by rw [List.getElem?_toArray]; rfl) (fun K hK => ?_) AllReadyH.nil)
              go_simp
              go_at_call 18
              refine (own_any d lv jv sv ls js ss _ (HA.out.l.below hCi.drew) (HA.out.j.below hCi.drew) (HA.out.s.below hCi.drew) HA.out.lb HA.out.jb HA.out.sb).mono ?_
              rintro e w5 ⟨lv2, jv2, sv2, rfl, s1, s2, s3, hB5⟩
              have T5 := Cells.keep (Ti.drew) hB5
              have hC5 := hCi.drew.trans (hB5.mono hCi.drew.size)
              clear hHeld
              refine hK.out _ _ (T5) (fun hHeld => ?_)
              clear hK K
              try simp only [Act.put, List.setIfInBounds_toArray, List.set_cons_zero, List.set_cons_succ]
              refine wpAnyH_ready (rs := [3]) (by kernel_rfl) (by simp) (AllReadyH.cons (o := _) (by rw [List.getElem?_toArray]; rfl) (fun K hK => ?_) AllReadyH.nil)
              go_simp
              go_at_call 19
              refine (copy_any (.slice ao n cap) ts w5 (HT.out.below hC5) HB.out).mono ?_
              rintro e w6 ⟨tv6, vs6, rfl, hinv, hB6⟩
              have T6 := T5.keep hB6
              have hC6 := hC5.trans (hB6.mono hC5.size)
              clear hHeld
              refine hK.out _ _ (T6) (fun hHeld => ?_)
              clear hK K
              try simp only [Act.put, List.setIfInBounds_toArray, List.set_cons_zero, List.set_cons_succ]
              refine wpAnyH_ready (rs := [6]) (by kernel_rfl) (by simp) (AllReadyH.cons (o := _) (by rw [List.getElem?_toArray]; rfl) (fun K hK => ?_) AllReadyH.nil)
              go_simp
              go_at_call 24
              refine (dist_any d lv2 jv2 sv2 tv6 ls js ss ts I J w6 HF.out (s1.1.below hB6) (s2.1.below hB6) (s3.1.below hB6) hinv.txs).mono ?_
              rintro e w7 ⟨rfl, hB7⟩
              have T7 := T6.keep hB7
              have hC7 := hC6.trans (hB7.mono hC6.size)
              obtain ⟨D, hD⟩ : ∃ D, distE ls js ss ts I J = D := ⟨_, rfl⟩
              rw [hD]
              have HD := Lib.hid hD
              clear hD
              clear hHeld
              refine hK.out _ _ (T7) (fun hHeld => ?_)
              clear hK K
              try simp only [Act.put, List.setIfInBounds_toArray, List.set_cons_zero, List.set_cons_succ]
              refine wpAnyH_ready (rs := [11]) (by kernel_rfl) (by simp) (AllReadyH.cons (o := _) (by rw [List.getElem?_toArray]; rfl) (fun K hK => ?_) AllReadyH.nil)
              go_simp
              go_at_call 25
              refine (rdist_any d lv jv sv (.slice ao n cap) ls js ss ts I J w7 HF.out (HA.out.l.below hC7) (HA.out.j.below hC7) (HA.out.s.below hC7) (HT.out.below hC7)).mono ?_
              rintro e w8 ⟨rfl, hB8⟩
              have T8 := T7.keep hB8
              have hC8 := hC7.trans (hB8.mono hC7.size)
              rw [HD.out]
              clear hHeld
              refine hK.out _ _ (T8) (fun hHeld => ?_)
              clear hK K
              try simp only [Act.put, List.setIfInBounds_toArray, List.set_cons_zero, List.set_cons_succ]
              refine wpAnyH_take (i := 12) (oi := _) (v := ?_) (by rw [List.getElem?_toArray]; rfl) (by kernel_rfl) (by kernel_rfl) (by kernel_rfl) (by exact fun _ _ _ h => h) (Or.inl ⟨by rfl, ?_⟩) (by assumption) ?_
              rotate_left
              · intro w hSw
                try simp only [Cells, blk, List.cons_append, List.nil_append, and_true, Nat.reduceAdd, Nat.add_zero, Nat.zero_add] at hSw
                go_simp
                try with_reducible rfl
              simp only [Act.put, List.setIfInBounds_toArray, List.set_cons_zero, List.set_cons_succ]
              refine wpAnyH_done (by kernel_rfl) ?_ _
              have hBn : Below V.heap.size V w8 := ((((hBi.drew.trans (hB5.mono hBi.size)).trans (hB6.mono (Nat.le_trans hBi.size hB5.size))).trans (hB7.mono (Nat.le_trans (Nat.le_trans hBi.size hB5.size) hB6.size)))).trans (hB8.mono (Nat.le_trans (Nat.le_trans (Nat.le_trans hBi.size hB5.size) hB6.size) hB7.size))
              have hwr : IntKind.i64.wrap (J + 1) = J + 1 := IntWalk.i64_in _ (by omega)
              go_wp2
              go_roundw
              case rel => exact ⟨J + 1, by omega, by omega, rfl, hBn⟩
              case measure => simp [intOf]; omega
            · have hwr : IntKind.i64.wrap (I + 1) = I + 1 := IntWalk.i64_in _ (by omega)
              have hBn : Below w3.heap.size w3 wr := hB.trans (hBi.mono hB.size)
              go_wp2
              go_roundw
              case rel => exact ⟨I + 1, by omega, by omega, rfl, hBn⟩
              case measure => simp [intOf]; omega
        · go_wp2
          go_ret
          exact ⟨rfl, hCr⟩
    · have hne : (E != 0) = true := by simpa using hE0
      go_wp2
      go_ret
      exact ⟨rfl, hC3⟩
end Go.Proofs.Ythemdbgcamkecaa
