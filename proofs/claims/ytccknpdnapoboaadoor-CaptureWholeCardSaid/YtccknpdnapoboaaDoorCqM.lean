/- CaptureWhole. -/
import Derived.Test.YtccknpdnapoboaaDoorCqL
namespace Go.Proofs.YtccknpdnapoboaaDoor
open Go.RowKit

theorem cutM_step (l : List Cp) (c k : Nat) (h : k < cutM l c) : pos l (k + 1) ≤ c := by
  have h1 := cutM_pos l c
  have h2 : pos l (k + 1) ≤ pos l (cutM l c) := by
    have e : l.take (cutM l c) = l.take (k + 1) ++ (l.drop (k + 1)).take (cutM l c - (k + 1)) := by
      rw [← List.take_add, show k + 1 + (cutM l c - (k + 1)) = cutM l c by omega]
    unfold pos
    rw [e, List.flatMap_append, List.length_append]
    omega
  omega
theorem drop_take_one {α : Type} (l : List α) (k : Nat) (h : k < l.length) : (l.drop k).take 1 = [l[k]] := by
  rw [List.drop_eq_getElem_cons h]
  rfl
set_option linter.unusedSimpArgs false in
set_option linter.unusedVariables false in
set_option maxRecDepth 100000 in
set_option maxHeartbeats 8000000 in
theorem captureWhole_walk (v0 v1 : Value) (w : World) (a0 : Arg Tryd.prog w 22 v0) (a1 : Arg Tryd.prog w 3 v1) (hs : Sums w) (hp : Pow10 w) :
    Calls Tryd.prog 5 #[v0, v1] w fun e w' => e = .returned (.bool true) ∧ Below w.heap.size w w' := by
  obtain ⟨i0, hi, hz0, hz1, hz2⟩ := info_parts Tryd.info_u8
  obtain ⟨l, ⟨hl, hcap⟩, hbd, _⟩ := arg_cpsC a0
  obtain ⟨cut, rfl, hw0, hw1⟩ := a1.i64 Tryd.underlying3
  clear a0 a1
  have HLV := Lib.hid (lives_any w hs hp)
  have HS := Lib.hid hs
  obtain ⟨n, hn⟩ : ∃ n, l.length = n := ⟨_, rfl⟩
  rw [hn] at hbd
  have hv : ∃ a c, v0 = .slice a n c := by
    obtain ⟨_, ao, cap, rfl, _⟩ := hl
    exact ⟨ao, cap, by rw [hn]⟩
  obtain ⟨a, c, rfl⟩ := hv
  have hc := hcap a n c rfl
  have HC := Lib.hid hl
  have HN := Lib.hid hn
  clear hs hp hl hn hcap
  by_cases hbig : n ≤ 64
  rotate_left
  · have t1 : decide (n ≤ 64) = false := by simpa using hbig
    go_enter Tryd.func5, Tryd.ntmps5
    go_wp2_with fail
    refine HLV.out.mono ?_
    rintro e w1 ⟨rfl, hB1⟩
    have HB1 := Lib.hid hB1
    clear hB1 HLV
    go_wp2_with fail
    refine (few_any a n c w1).mono ?_
    rintro e w' ⟨rfl, rfl⟩
    go_wp2
    go_ret
    exact ⟨rfl, HB1.out⟩
  have t1 : decide (n ≤ 64) = true := by simpa using hbig
  go_enter Tryd.func5, Tryd.ntmps5
  go_wp2_with fail
  refine HLV.out.mono ?_
  rintro e w1 ⟨rfl, hB1⟩
  have HB1 := Lib.hid hB1
  clear hB1 HLV
  go_wp2_with fail
  refine (few_any a n c w1).mono ?_
  rintro e w' ⟨rfl, rfl⟩
  have HCP := Lib.hid (copy_any (.slice a n c) l w1 (HC.out.below HB1.out) (by rw [HN.out]; omega))
  go_wp2_with fail
  refine HCP.out.mono ?_
  rintro e w2 ⟨v2, vs2, rfl, hinv, hB2⟩
  have HB2 := Lib.hid (HB1.out.trans (hB2.mono HB1.out.size))
  have HWR := Lib.hid (write_any v2 l w2 (HS.out.keep HB2.out) hinv.cps (by rw [HN.out]; omega))
  clear hinv hB2 HCP HB1
  go_wp2_with fail
  refine HWR.out.mono ?_
  rintro e w3 ⟨v3, rfl, hB3, hok3, hbad3⟩
  have HB3 := Lib.hid (HB2.out.trans (hB3.mono HB2.out.size))
  obtain ⟨E, hE⟩ : ∃ E, cpW l l.length = E := ⟨_, rfl⟩
  rw [hE] at hok3 hbad3 ⊢
  have HOK := Lib.hid hok3
  have HE := Lib.hid hE
  clear hok3 hE hB3 HB2 HWR
  by_cases hE0 : E = 0
  rotate_left
  · have t5 : (E != 0) = true := by simpa using hE0
    obtain rfl := hbad3 hE0
    go_wp2
    go_ret
    exact ⟨rfl, HB3.out⟩
  subst hE0
  have t5 : ((0 : Int) != 0) = false := rfl
  have hbc := HOK.out rfl
  obtain ⟨hb3, a3, c3, hv3, hc3⟩ := hbc
  have hall := wrB_all l
  have hpb := pos_bd l l.length HE.out (Nat.le_refl _)
  obtain ⟨N, hNN⟩ : ∃ N, (wrB l l.length).length = N := ⟨_, rfl⟩
  rw [hNN] at hv3 hc3 hall
  subst hv3
  have hN2 : N ≤ 100000 := by rw [HN.out] at hpb hall; omega
  have HBY := Lib.hid hb3
  have HNN := Lib.hid hNN
  have HALL := Lib.hid hall
  clear HOK hbad3 hb3 hNN hall hpb
  by_cases hc0 : cut < 0
  · have u1 : decide (cut < 0) = true := by simpa using hc0
    go_wp2
    go_ret
    exact ⟨rfl, HB3.out⟩
  have u1 : decide (cut < 0) = false := by simpa using hc0
  by_cases hcN : (N : Int) < cut
  · have u2 : decide ((N : Int) < cut) = true := by simpa using hcN
    go_wp2
    go_ret
    exact ⟨rfl, HB3.out⟩
  have u2 : decide ((N : Int) < cut) = false := by simpa using hcN
  obtain ⟨Q, rfl⟩ := Int.eq_ofNat_of_zero_le (show 0 ≤ cut by omega)
  obtain ⟨a4, hby4, hrun4⟩ := bytes_to w3 a3 N c3 Q _ HBY.out HNN.out hc3 (by omega)
  have hown4 := made0 w3
  have ha4 : Below w3.heap.size w3 (w3.alloc (.cells #[] 5)) := (Below.refl _ _).alloc (Nat.le_refl _) _
  have hsr4 := (hby4.below ha4).1
  have hlq : ((wrB l l.length).take Q).length = Q := by rw [List.length_take, HNN.out]; omega
  rw [hlq] at hsr4
  have HB4 := Lib.hid (HB3.out.trans (ha4.mono HB3.out.size))
  have HLT4 := Lib.hid hby4.2.2
  have HLQ := Lib.hid hlq
  clear hby4 hlq HBY
  go_wp2_with (at_builtin; refine wpList_append_all rfl _ _ 25 rfl w3.heap.size 5 i0 (.int .u8 0) 1 1 Tryd.underlying25 hi hz0 hz1 hz2 rfl (by decide) _ 0 _ rfl hown4 _ Q (bcells ((wrB l l.length).take Q)) rfl hsr4 (by unfold maxLen; omega) (by omega) ha4.size ?_)
  intro v5 w5 hown5 hg5 _
  have hB5 := HB4.out.grown hg5 HB4.out.size (fun q hq => by simp [Value.ownBlock] at hq; subst hq; exact HB3.out.size)
  have hb5 := bytesC_of_own hown5 (by simpa using HLQ.out) HLT4.out (by omega)
  obtain ⟨hb5, a5, c5, hv5, hc5⟩ := hb5
  rw [HLQ.out] at hv5 hc5
  subst hv5
  have hrd := read_any a5 Q c5 _ w5 (HS.out.keep hB5) hb5 HLQ.out hc5 (by omega)
  by_cases h4 : Q < 4
  · rw [rdA_few l Q h4] at hrd
    have HRD := Lib.hid hrd
    have HB5 := Lib.hid hB5
    have u3 : decide (Q < 4) = true := by simpa using h4
    have u3' : decide ((Q : Int) < 4) = true := by simp; omega
    clear hown4 ha4 hsr4 hown5 hg5 hb5 hrd hB5 hc5 HB4 HLT4 HLQ hrun4
    go_wp2_with fail
    refine HRD.out.mono ?_
    rintro e w6 ⟨v6, rfl, ⟨⟨_, a6, c6, rfl, _⟩, _⟩, hB6⟩
    have HB6 := Lib.hid (HB5.out.trans (hB6.mono HB5.out.size))
    clear hB6 HB5 HRD
    go_wp2
    go_ret
    exact ⟨rfl, HB6.out⟩
  have u3 : decide (Q < 4) = false := by simpa using h4
  have u3' : decide ((Q : Int) < 4) = false := by simp; omega
  rw [rdA_cut l Q HE.out (by omega) (by rw [HNN.out]; omega)] at hrd
  have hM := cutM_le l (Q - 4)
  have hPQ := cutM_pos l (Q - 4)
  have hstp := cutM_step l (Q - 4)
  have hnxt := cutM_next l (Q - 4)
  obtain ⟨M, hMM⟩ : ∃ M, cutM l (Q - 4) = M := ⟨_, rfl⟩
  rw [hMM] at hrd hM hPQ hstp hnxt
  obtain ⟨E3, hE3⟩ : ∃ E3 : Int, (if 4 + pos l M = Q then (0 : Int) else 3) = E3 := ⟨_, rfl⟩
  obtain ⟨PM, hPM⟩ : ∃ PM, 4 + pos l M = PM := ⟨_, rfl⟩
  rw [hPM] at hrd hE3
  rw [hE3] at hrd
  have HRD := Lib.hid hrd
  have HB5 := Lib.hid hB5
  have HE3 := Lib.hid hE3
  have HPM := Lib.hid hPM
  have HSTP := Lib.hid hstp
  have HNXT := Lib.hid hnxt
  have hML : M ≤ n := by rw [HN.out] at hM; exact hM
  clear hown4 ha4 hsr4 hown5 hg5 hb5 hrd hB5 hc5 HB4 HLT4 HLQ hrun4 hMM hE3 hPM hstp hnxt hPQ
  go_wp2_with fail
  refine HRD.out.mono ?_
  rintro e w6 ⟨v6, rfl, ⟨hcp6, hok6⟩, hB6⟩
  have HB6 := Lib.hid (HB5.out.trans (hB6.mono HB5.out.size))
  have hlM : (l.take M).length = M := by rw [List.length_take]; omega
  have hv6 : ∃ a c, v6 = .slice a M c := by
    obtain ⟨_, ao, cap, rfl, _⟩ := hcp6
    exact ⟨ao, cap, by rw [hlM]⟩
  obtain ⟨a6, c6, rfl⟩ := hv6
  have hc6 := hok6 a6 M c6 rfl
  have HC6 := Lib.hid hcp6
  have HLM := Lib.hid hlM
  clear hcp6 hok6 hB6 HB5 HRD hlM
  go_wp2_with fail
  go_loopw [10, 11, 12] (fun f cn i wr => ∃ k F : Nat, i = .int .i64 k ∧ cn = .int .i64 k ∧ k ≤ M ∧ f = .int .i64 (F : Int) ∧ Hid (4 + pos l k = F) ∧ Below w6.heap.size w6 wr) (fun _ _ i _ => M - (intOf i).toNat)
  case atStart => exact ⟨0, 4, rfl, rfl, Nat.zero_le _, rfl, Lib.hid (by rw [pos_zero]), Below.refl _ _⟩
  case round =>
    obtain ⟨k, F, rfl, rfl, hk, rfl, hF, hBr⟩ := hrel
    have hCw := (HC.out.below HB6.out).below hBr
    by_cases hkn : k < n
    · have hkl : k < l.length := by rw [HN.out]; exact hkn
      obtain ⟨b, off, rfl, hb, hx⟩ := hCw.2.elim fun ao h => h.elim fun cap h => by
        have e := h.1
        rw [HN.out] at e
        cases e
        exact h.2 (by omega)
      obtain ⟨ra, rc, d0, d1, d2, d3, d4, hby⟩ := hx k hkl
      have hps := pos_succ l k hkl
      have hpb := pos_le l (k + 1)
      obtain ⟨L, hL⟩ : ∃ L, l[k].bs.length = L := ⟨_, rfl⟩
      rw [hL] at d4 hps
      have hFF := hF.out
      have hall := HALL.out
      have g1 : decide (k < n) = true := by simpa using hkn
      have g1' : decide ((k : Int) < (n : Int)) = true := by simp; omega
      have hi1 : (k : Int) < (n : Int) := by omega
      have w1 : IntKind.i64.wrap ((F : Int) + 16) = (F : Int) + 16 := IntWalk.i64_in _ (by omega)
      have w2 : IntKind.i64.wrap ((F : Int) + 16 + (L : Int)) = (F : Int) + 16 + (L : Int) := IntWalk.i64_in _ (by omega)
      have w4 : IntKind.i64.wrap ((k : Int) + 1) = (k : Int) + 1 := IntWalk.i64_in _ (by omega)
      have HPS := Lib.hid (show 4 + pos l (k + 1) = F + 16 + L by omega)
      clear hx hby hL hps hpb hFF d0 d1 d2 d3 hall
      by_cases hin : F + 16 + L ≤ Q
      · have g2 : decide ((F : Int) + 16 + (L : Int) ≤ (Q : Int)) = true := by simp; omega
        have g2n : decide (F + 16 + L ≤ Q) = true := by simp; omega
        have hkM : k < M := by
          rcases Nat.lt_or_ge k M with h | h
          · exact h
          · have e : k = M := by omega
            subst e
            have := HNXT.out (by omega)
            have := HPS.out
            omega
        obtain ⟨a8, c8, hcp8, hrun8⟩ := cps_mid wr a6 M c6 k (k + 1) (l.take M) (HC6.out.below hBr) HLM.out hc6 (by omega) (by omega)
        obtain ⟨a9, c9, hcp9, hrun9⟩ := cps_mid wr (some ⟨b, off, none⟩) n c k (k + 1) l hCw HN.out hc (by omega) (by omega)
        have e1 : k + 1 - k = 1 := by omega
        have e2 : ((k + 1 : Nat) : Int) = (k : Int) + 1 := by omega
        rw [e1] at hcp8 hcp9
        simp only [e1, e2] at hrun8 hrun9
        rw [drop_take_one _ _ (by rw [HLM.out]; exact hkM), List.getElem_take] at hcp8
        rw [drop_take_one _ _ hkl] at hcp9
        have g3 : decide ((M : Int) ≤ (k : Int)) = false := by simp; omega
        have g3' : decide (M ≤ k) = false := by simp; omega
        have HSM : Hid (∀ W', Below wr.heap.size wr W' → Calls Tryd.prog 16 #[.slice a8 1 c8, .slice a9 1 c9] W' fun e w' => e = .returned (.bool true) ∧ Below W'.heap.size W' w') := Lib.hid fun W' hW => (same_any _ _ _ _ W' (hcp8.below hW) (hcp9.below hW)).mono fun e w' ⟨D, he, hD, hB⟩ => ⟨by rw [he, hD.2 rfl], hB⟩
        have HBr := Lib.hid hBr
        clear hcp8 hcp9 hCw hBr
        go_upto_region 20 with fail
        refine wp_region_held_drew (S := (fun W' : World => Below wr.heap.size wr W')) (by kernel_rfl) ((Below.refl _ _).drew) (fun hHeld => ?_)
        refine wpAnyH_take (i := 0) (oi := _) (v := ?_) (by rw [List.getElem?_toArray]; rfl) (by kernel_rfl) (by kernel_rfl) (by kernel_rfl) (by exact fun _ _ _ h => h) (Or.inl ⟨by rfl, ?_⟩) (by assumption) ?_
        rotate_left
        · intro w hSw
          try simp only [Cells, blk, List.cons_append, List.nil_append, and_true, Nat.reduceAdd, Nat.add_zero, Nat.zero_add] at hSw
          go_simp
          try with_reducible rfl
        simp only [Act.put, List.setIfInBounds_toArray, List.set_cons_zero, List.set_cons_succ]
        refine wpAnyH_take (i := 1) (oi := _) (v := ?_) (by rw [List.getElem?_toArray]; rfl) (by kernel_rfl) (by kernel_rfl) (by kernel_rfl) (by exact fun _ _ _ h => h) (Or.inl ⟨by rfl, ?_⟩) (by assumption) ?_
        rotate_left
        · intro w hSw
          try simp only [Cells, blk, List.cons_append, List.nil_append, and_true, Nat.reduceAdd, Nat.add_zero, Nat.zero_add] at hSw
          go_simp
          try with_reducible rfl
        simp only [Act.put, List.setIfInBounds_toArray, List.set_cons_zero, List.set_cons_succ]
        refine wpAnyH_take (i := 2) (oi := _) (v := ?_) (by rw [List.getElem?_toArray]; rfl) (by kernel_rfl) (by kernel_rfl) (by kernel_rfl) (by exact fun _ _ _ h => h) (Or.inl ⟨by rfl, ?_⟩) (by assumption) ?_
        rotate_left
        · intro w hSw
          try simp only [Cells, blk, List.cons_append, List.nil_append, and_true, Nat.reduceAdd, Nat.add_zero, Nat.zero_add] at hSw
          go_simp
          try with_reducible rfl
        simp only [Act.put, List.setIfInBounds_toArray, List.set_cons_zero, List.set_cons_succ]
        refine wpAnyH_take (i := 3) (oi := _) (v := ?_) (by rw [List.getElem?_toArray]; rfl) (by kernel_rfl) (by kernel_rfl) (by kernel_rfl) (by exact fun _ _ _ h => h) (Or.inl ⟨by rfl, ?_⟩) (by assumption) ?_
        rotate_left
        · intro w hSw
          try simp only [Cells, blk, List.cons_append, List.nil_append, and_true, Nat.reduceAdd, Nat.add_zero, Nat.zero_add] at hSw
          go_simp
          try with_reducible rfl
        simp only [Act.put, List.setIfInBounds_toArray, List.set_cons_zero, List.set_cons_succ]
        refine wpAnyH_take (i := 4) (oi := _) (v := ?_) (by rw [List.getElem?_toArray]; rfl) (by kernel_rfl) (by kernel_rfl) (by kernel_rfl) (by exact fun _ _ _ h => h) (Or.inl ⟨by rfl, ?_⟩) (by assumption) ?_
        rotate_left
        · intro w hSw
          try simp only [Cells, blk, List.cons_append, List.nil_append, and_true, Nat.reduceAdd, Nat.add_zero, Nat.zero_add] at hSw
          go_simp
          try with_reducible rfl
        simp only [Act.put, List.setIfInBounds_toArray, List.set_cons_zero, List.set_cons_succ]
        refine wpAnyH_take (i := 5) (oi := _) (v := ?_) (by rw [List.getElem?_toArray]; rfl) (by kernel_rfl) (by kernel_rfl) (by kernel_rfl) (by exact fun _ _ _ h => h) (Or.inl ⟨by rfl, ?_⟩) (by assumption) ?_
        rotate_left
        · intro w hSw
          try simp only [Cells, blk, List.cons_append, List.nil_append, and_true, Nat.reduceAdd, Nat.add_zero, Nat.zero_add] at hSw
          go_simp
          try with_reducible rfl
        simp only [Act.put, List.setIfInBounds_toArray, List.set_cons_zero, List.set_cons_succ]
        refine wpAnyH_take (i := 6) (oi := _) (v := ?_) (by rw [List.getElem?_toArray]; rfl) (by kernel_rfl) (by kernel_rfl) (by kernel_rfl) (by exact fun _ _ _ h => h) (Or.inl ⟨by rfl, ?_⟩) (by assumption) ?_
        rotate_left
        · intro w hSw
          try simp only [Cells, blk, List.cons_append, List.nil_append, and_true, Nat.reduceAdd, Nat.add_zero, Nat.zero_add] at hSw
          go_simp
          try with_reducible rfl
        simp only [Act.put, List.setIfInBounds_toArray, List.set_cons_zero, List.set_cons_succ]
        refine wpAnyH_take (i := 7) (oi := _) (v := ?_) (by rw [List.getElem?_toArray]; rfl) (by kernel_rfl) (by kernel_rfl) (by kernel_rfl) (by exact fun _ _ _ h => h) (Or.inl ⟨by rfl, ?_⟩) (by assumption) ?_
        rotate_left
        · intro w hSw
          try simp only [Cells, blk, List.cons_append, List.nil_append, and_true, Nat.reduceAdd, Nat.add_zero, Nat.zero_add] at hSw
          go_simp
          try with_reducible rfl
        simp only [Act.put, List.setIfInBounds_toArray, List.set_cons_zero, List.set_cons_succ]
        refine wpAnyH_take (i := 8) (oi := _) (v := ?_) (by rw [List.getElem?_toArray]; rfl) (by kernel_rfl) (by kernel_rfl) (by kernel_rfl) (by exact fun _ _ _ h => h) (Or.inl ⟨by rfl, ?_⟩) (by assumption) ?_
        rotate_left
        · intro w hSw
          try simp only [Cells, blk, List.cons_append, List.nil_append, and_true, Nat.reduceAdd, Nat.add_zero, Nat.zero_add] at hSw
          go_simp
          try with_reducible rfl
        simp only [Act.put, List.setIfInBounds_toArray, List.set_cons_zero, List.set_cons_succ]
        refine wpAnyH_take (i := 9) (oi := _) (v := ?_) (by rw [List.getElem?_toArray]; rfl) (by kernel_rfl) (by kernel_rfl) (by kernel_rfl) (by exact fun _ _ _ h => h) (Or.inl ⟨by rfl, ?_⟩) (by assumption) ?_
        rotate_left
        · intro w hSw
          try simp only [Cells, blk, List.cons_append, List.nil_append, and_true, Nat.reduceAdd, Nat.add_zero, Nat.zero_add] at hSw
          go_simp
          try with_reducible rfl
        simp only [Act.put, List.setIfInBounds_toArray, List.set_cons_zero, List.set_cons_succ]
        refine wpAnyH_take (i := 10) (oi := _) (v := ?_) (by rw [List.getElem?_toArray]; rfl) (by kernel_rfl) (by kernel_rfl) (by kernel_rfl) (by exact fun _ _ _ h => h) (Or.inl ⟨by rfl, ?_⟩) (by assumption) ?_
        rotate_left
        · intro w hSw
          try simp only [Cells, blk, List.cons_append, List.nil_append, and_true, Nat.reduceAdd, Nat.add_zero, Nat.zero_add] at hSw
          go_simp
          try with_reducible rfl
        simp only [Act.put, List.setIfInBounds_toArray, List.set_cons_zero, List.set_cons_succ]
        refine wpAnyH_take (i := 11) (oi := _) (v := ?_) (by rw [List.getElem?_toArray]; rfl) (by kernel_rfl) (by kernel_rfl) (by kernel_rfl) (by exact fun _ _ _ h => h) (Or.inl ⟨by rfl, ?_⟩) (by assumption) ?_
        rotate_left
        · intro w hSw
          try simp only [Cells, blk, List.cons_append, List.nil_append, and_true, Nat.reduceAdd, Nat.add_zero, Nat.zero_add] at hSw
          go_simp
          try with_reducible rfl
        simp only [Act.put, List.setIfInBounds_toArray, List.set_cons_zero, List.set_cons_succ]
        refine wpAnyH_take (i := 12) (oi := _) (v := ?_) (by rw [List.getElem?_toArray]; rfl) (by kernel_rfl) (by kernel_rfl) (by kernel_rfl) (by exact fun _ _ _ h => h) (Or.inl ⟨by rfl, ?_⟩) (by assumption) ?_
        rotate_left
        · intro w hSw
          try simp only [Cells, blk, List.cons_append, List.nil_append, and_true, Nat.reduceAdd, Nat.add_zero, Nat.zero_add] at hSw
          go_simp
          try with_reducible rfl
        simp only [Act.put, List.setIfInBounds_toArray, List.set_cons_zero, List.set_cons_succ]
        refine wpAnyH_take (i := 13) (oi := _) (v := ?_) (by rw [List.getElem?_toArray]; rfl) (by kernel_rfl) (by kernel_rfl) (by kernel_rfl) (by exact fun _ _ _ h => h) (Or.inl ⟨by rfl, ?_⟩) (by assumption) ?_
        rotate_left
        · intro w hSw
          try simp only [Cells, blk, List.cons_append, List.nil_append, and_true, Nat.reduceAdd, Nat.add_zero, Nat.zero_add] at hSw
          go_simp
          try with_reducible rfl
        simp only [Act.put, List.setIfInBounds_toArray, List.set_cons_zero, List.set_cons_succ]
        refine wpAnyH_take (i := 14) (oi := _) (v := ?_) (by rw [List.getElem?_toArray]; rfl) (by kernel_rfl) (by kernel_rfl) (by kernel_rfl) (by exact fun _ _ _ h => h) (Or.inl ⟨by rfl, ?_⟩) (by assumption) ?_
        rotate_left
        · intro w hSw
          try simp only [Cells, blk, List.cons_append, List.nil_append, and_true, Nat.reduceAdd, Nat.add_zero, Nat.zero_add] at hSw
          go_simp
          try with_reducible rfl
        simp only [Act.put, List.setIfInBounds_toArray, List.set_cons_zero, List.set_cons_succ]
        refine wpAnyH_ready (rs := [15]) (by kernel_rfl) (by simp) (AllReadyH.cons (o := _) (by rw [List.getElem?_toArray]; rfl) (fun K hK => ?_) AllReadyH.nil)
        go_simp
        go_at_call 16
        refine (HSM.out _ hHeld).mono ?_
        rintro e wz ⟨rfl, hBz⟩
        have hKp := hHeld.trans (hBz.mono hHeld.size)
        clear hHeld
        refine hK.out _ _ (hKp) (fun hHeld => ?_)
        clear hK K
        try simp only [Act.put, List.setIfInBounds_toArray, List.set_cons_zero, List.set_cons_succ]
        refine wpAnyH_take (i := 16) (oi := _) (v := ?_) (by rw [List.getElem?_toArray]; rfl) (by kernel_rfl) (by kernel_rfl) (by kernel_rfl) (by exact fun _ _ _ h => h) (Or.inl ⟨by rfl, ?_⟩) (by assumption) ?_
        rotate_left
        · intro w hSw
          try simp only [Cells, blk, List.cons_append, List.nil_append, and_true, Nat.reduceAdd, Nat.add_zero, Nat.zero_add] at hSw
          go_simp
          try with_reducible rfl
        simp only [Act.put, List.setIfInBounds_toArray, List.set_cons_zero, List.set_cons_succ]
        refine wpAnyH_take (i := 17) (oi := _) (v := ?_) (by rw [List.getElem?_toArray]; rfl) (by kernel_rfl) (by kernel_rfl) (by kernel_rfl) (by exact fun _ _ _ h => h) (Or.inl ⟨by rfl, ?_⟩) (by assumption) ?_
        rotate_left
        · intro w hSw
          try simp only [Cells, blk, List.cons_append, List.nil_append, and_true, Nat.reduceAdd, Nat.add_zero, Nat.zero_add] at hSw
          go_simp
          try with_reducible rfl
        simp only [Act.put, List.setIfInBounds_toArray, List.set_cons_zero, List.set_cons_succ]
        refine wpAnyH_done (by kernel_rfl) ?_ _
        have hBf := HBr.out.trans (hHeld.mono HBr.out.size)
        clear hHeld hKp hBz
        go_wp2
        go_roundw
        case rel => exact ⟨k + 1, F + 16 + L, by go_num, by go_num, by omega, by go_num, HPS, hBf⟩
        case measure => simp [intOf]; omega
      · have g2 : decide ((F : Int) + 16 + (L : Int) ≤ (Q : Int)) = false := by simp; omega
        have g2n : decide (F + 16 + L ≤ Q) = false := by simp; omega
        have hkM : k = M := by
          rcases Nat.lt_or_ge k M with h | h
          · have := HSTP.out k h
            have := HPS.out
            omega
          · omega
        subst hkM
        obtain rfl : F = PM := by rw [← hF.out]; exact HPM.out
        have hfin := HB6.out.trans (hBr.mono HB6.out.size)
        have HFIN := Lib.hid hfin
        have e3 := HE3.out
        have m1 : ((k : Int) != (k : Int)) = false := by simp
        clear hfin hBr HB6 hCw HC6
        by_cases hq : F = Q
        · rw [if_pos hq] at e3
          subst e3
          have q1 : ((F : Int) == (Q : Int)) = true := by simp; omega
          clear hq
          go_wp2
          refine bodyPost_ret (by simp [results, Tryd.results5, go_sem] <;> rfl) rfl ?_
          exact ⟨rfl, HFIN.out⟩
        · rw [if_neg hq] at e3
          subst e3
          have q1 : ((F : Int) == (Q : Int)) = false := by simp; omega
          go_wp2
          refine bodyPost_ret (by simp [results, Tryd.results5, go_sem] <;> rfl) rfl ?_
          exact ⟨rfl, HFIN.out⟩
    · have g1 : decide (k < n) = false := by simpa using hkn
      have g1' : decide ((k : Int) < (n : Int)) = false := by simp; omega
      have hkM : k = M := by
        omega
      subst hkM
      obtain rfl : F = PM := by rw [← hF.out]; exact HPM.out
      have hfin := HB6.out.trans (hBr.mono HB6.out.size)
      have HFIN := Lib.hid hfin
      have e3 := HE3.out
      have m1 : ((k : Int) != (k : Int)) = false := by simp
      clear hfin hBr HB6 hCw HC6
      by_cases hq : F = Q
      · rw [if_pos hq] at e3
        subst e3
        have q1 : ((F : Int) == (Q : Int)) = true := by simp; omega
        clear hq
        go_wp2
        go_ret
        exact ⟨rfl, HFIN.out⟩
      · rw [if_neg hq] at e3
        subst e3
        have q1 : ((F : Int) == (Q : Int)) = false := by simp; omega
        go_wp2
        go_ret
        exact ⟨rfl, HFIN.out⟩
end Go.Proofs.YtccknpdnapoboaaDoor
