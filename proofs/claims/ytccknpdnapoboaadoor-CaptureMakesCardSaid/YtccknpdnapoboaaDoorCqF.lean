/- capture: Read of the reference. -/
import Derived.Test.YtccknpdnapoboaaDoorCqE
import Derived.BigQuiet
import Derived.OwnWalk
namespace Go.Proofs.YtccknpdnapoboaaDoor
open Go.RowKit

theorem r1E_last (b : List Nat) (last : Int) : r1E b last = if r1E b 0 ≠ 0 then r1E b 0 else if (r1R b).t < last then 13 else 0 := by
  have h0 : ¬ (r1R b).t < 0 := by unfold r1R; simp only; omega
  unfold r1E
  rw [if_neg h0]
  by_cases c1 : b.length < 13
  · simp [c1]
  by_cases c2 : 260 < r1L b
  · simp [c1, c2]
  by_cases c3 : b.length < 16 + r1L b
  · simp [c1, c2, c3]
  by_cases c4 : vnum ((b.drop (r1L b + 13)).take 3) = sumF 0 (b.take (r1L b + 13))
  rotate_left
  · simp [c1, c2, c3, c4]
  by_cases c5 : cpE (r1R b) = 0
  · simp [c1, c2, c3, c4, c5]
  · simp [c1, c2, c3, c4, c5]
/-- the last time so far -/
def lastT (ts : List Cp) : Int := if ts = [] then 0 else (ts.getD (ts.length - 1) default).t
theorem lastT_snoc (ts : List Cp) (t : Cp) : lastT (ts ++ [t]) = t.t := by
  unfold lastT
  rw [if_neg (by simp)]
  simp
set_option linter.unusedSimpArgs false in
set_option linter.unusedVariables false in
set_option maxRecDepth 100000 in
set_option maxHeartbeats 4000000 in
theorem rread_any (a : Option Addr) (n c : Nat) (bs : List Nat) (w : World) (h : BytesAt w (.slice a n c) bs) (hn : bs.length = n) (hc : n ≤ c) (hm : n ≤ 100000) :
    Calls Tryd.prog 15 #[.slice a n c] w (ReadP w (rdA bs)) := by
  obtain ⟨i5, hi5, hy0, hy1, hy2⟩ := info_parts Tryd.info_cp
  have HBY := Lib.hid h
  have HN := Lib.hid hn
  obtain ⟨R, hR⟩ : ∃ R, rdA bs = R := ⟨_, rfl⟩
  rw [hR]
  by_cases h4 : n < 4
  · have t1 : decide (n < 4) = true := by simp; omega
    have t1' : decide ((n : Int) < (4 : Int)) = true := by simp; omega
    obtain rfl : ([], 0, 3) = R := by rw [← hR]; unfold rdA; rw [if_pos (by omega)]
    clear hR h hn
    go_enter Tryd.func15, Tryd.ntmps15
    go_wp2
    go_ret3
    exact ⟨_, rfl, (CpI.nil 0 35 w).cpsC, Below.refl _ _⟩
  have t1 : decide (n < 4) = false := by simp; omega
  have t1' : decide ((n : Int) < (4 : Int)) = false := by simp; omega
  have hby4 := bytes_head w a n c 4 bs h hn (by omega) (by omega)
  have hcv := run_convert_b hby4 25 5 9 Tryd.underlying25 Tryd.underlying5 Tryd.underlying9
  have hqL := strB_beqL (bs.take 4) mag hby4.2.2 (by decide)
  rw [strMag] at hqL
  clear hby4
  by_cases hmag : bs.take 4 = mag
  rotate_left
  · rw [decide_eq_false hmag] at hqL
    obtain rfl : ([], 0, 2) = R := by rw [← hR]; unfold rdA; rw [if_neg (by omega), if_pos hmag]
    clear hR h hn hmag
    go_enter Tryd.func15, Tryd.ntmps15
    go_wp2
    go_ret3
    exact ⟨_, rfl, (CpI.nil 0 35 w).cpsC, Below.refl _ _⟩
  rw [decide_eq_true hmag] at hqL
  have hat := RdAt.first (bs := bs) (by omega) hmag
  have HAT := Lib.hid hat
  have HR := Lib.hid hR
  clear hR h hn hmag hat
  have hown0 := World.ownsRow_made (base := w.heap.size) (e := 35) (size := 5) w #[] 0 (Nat.le_refl _) (by unfold maxLen; omega) rfl
  have hb0 : Below w.heap.size w (w.alloc (.cells #[] 35)) := (Below.refl _ _).alloc (Nat.le_refl _) _
  have HI0 : Hid (CpI w.heap.size 35 (w.alloc (.cells #[] 35)) (.slice (some ⟨w.heap.size, 0, none⟩) 0 0) [] []) := Lib.hid ⟨rfl, hown0, fun j h => absurd h (by simp)⟩
  clear hown0
  go_enter Tryd.func15, Tryd.ntmps15
  go_wp2_with fail
  clear hcv hqL
  go_loopw [5, 6, 7, 8, 9] (fun out i _ _ _ wr => ∃ (k : Nat) (ts : List Cp) (vs : List Value), i = .int .i64 k ∧ k ≤ n ∧ Hid (CpI w.heap.size 35 wr out ts vs) ∧ Hid (RdAt bs ts k (lastT ts)) ∧ Hid (ts.length ≤ k) ∧ Below w.heap.size w wr) (fun _ i _ _ _ _ => n - (intOf i).toNat)
  case atStart => exact ⟨4, [], [], rfl, by omega, HI0, HAT, Lib.hid (by simp), hb0⟩
  case round =>
    clear HAT HI0 hb0
    obtain ⟨k, ts, vs, rfl, hk, hinv, hat, hlen, hBw⟩ := hrel
    by_cases hlt : k < n
    · have g1 : decide (k < n) = true := by simpa using hlt
      have g1' : decide ((k : Int) < (n : Int)) = true := by simp; omega
      obtain ⟨a2, c2, hby2, hc2, hrun2⟩ := bytes_from wr a n c k bs (HBY.out.below hBw) HN.out hc hk
      obtain ⟨m, hm2⟩ : ∃ m, n - k = m := ⟨_, rfl⟩
      rw [hm2] at hby2 hc2 hrun2
      have hrec := first_any a2 m c2 (bs.drop k) wr hby2 (by rw [List.length_drop, HN.out, hm2]) hc2 (by omega)
      have hlt2 : k < bs.length := by rw [HN.out]; exact hlt
      have hbad := hat.out.bad hlt2
      have hgood := hat.out.good hlt2
      have hr1 := r1E_len (bs.drop k) 0
      have hEl := r1E_last (bs.drop k) (lastT ts)
      rw [HR.out] at hbad
      have hR1 : r1R (bs.drop k) = ⟨vnum ((bs.drop k).take 8), ((bs.drop k).getD 8 0 : Nat), ((bs.drop k).getD 9 0 : Nat), ((bs.drop k).getD 10 0 : Nat), ((bs.drop k).drop 13).take (r1L (bs.drop k))⟩ := rfl
      rw [hR1] at hgood hEl
      simp only [List.length_drop, HN.out] at hr1
      obtain ⟨E, hEE⟩ : ∃ E, r1E (bs.drop k) 0 = E := ⟨_, rfl⟩
      obtain ⟨E2, hE2⟩ : ∃ E, r1E (bs.drop k) (lastT ts) = E := ⟨_, rfl⟩
      obtain ⟨T1, hT1⟩ : ∃ x, vnum ((bs.drop k).take 8) = x := ⟨_, rfl⟩
      obtain ⟨C1, hC1⟩ : ∃ x, (bs.drop k).getD 8 0 = x := ⟨_, rfl⟩
      obtain ⟨F1, hF1⟩ : ∃ x, (bs.drop k).getD 9 0 = x := ⟨_, rfl⟩
      obtain ⟨K1, hK1⟩ : ∃ x, (bs.drop k).getD 10 0 = x := ⟨_, rfl⟩
      obtain ⟨L1, hL1⟩ : ∃ x, r1L (bs.drop k) = x := ⟨_, rfl⟩
      obtain ⟨ds, hds⟩ : ∃ x, ((bs.drop k).drop 13).take (r1L (bs.drop k)) = x := ⟨_, rfl⟩
      obtain ⟨TL, hTL⟩ : ∃ x, lastT ts = x := ⟨_, rfl⟩
      rw [hds] at hgood hrec
      simp only [hEE, hE2, hT1, hC1, hF1, hK1, hL1] at hbad hgood hr1 hrec hEl
      rw [hTL] at hEl
      have HBAD := Lib.hid hbad
      have HGOOD := Lib.hid hgood
      have HREC := Lib.hid hrec
      have HBW := Lib.hid hBw
      have hr1' := Lib.hid hr1
      have HTL := Lib.hid hTL
      have HEL := Lib.hid hEl
      clear hds hT1 hC1 hF1 hK1 hL1 hEE hE2 hR1 hbad hgood hrec hby2 hlt2 hBw hat hr1 hm2 hTL hEl
      by_cases hE : E = 0
      rotate_left
      · have hel := HEL.out
        rw [if_pos hE] at hel
        subst hel
        obtain rfl := HBAD.out hE
        have t2 : (E2 != 0) = true := by simpa using hE
        clear HBAD HGOOD HEL HR hr1'
        go_wp2_with fail
        refine HREC.out.mono ?_
        rintro e w2 ⟨hB2, hpan, _⟩
        obtain rfl := hpan hE
        have hI := hinv.out.below hB2
        have HF := Lib.hid (HBW.out.trans (hB2.mono HBW.out.size))
        have hfin : ∀ o, Below w.heap.size w (w2.alloc o) := fun o => HF.out.alloc HF.out.size o
        have hcp : ∀ o, CpsC (w2.alloc o) u5 ts := fun o => (hI.below ((Below.refl _ _).alloc (Nat.le_refl _) o)).cpsC
        clear hB2 hpan HREC hinv
        go_wp2
        refine bodyPost_ret (by simp [results, Tryd.results15, go_sem] <;> rfl) rfl ?_
        exact ⟨_, rfl, hcp _, hfin _⟩
      subst hE
      obtain ⟨hl1, hl2⟩ := hr1'.out rfl
      have hel := HEL.out
      rw [if_neg (by simp)] at hel
      replace HEL := Lib.hid hel
      clear hel hr1'
      go_wp2_with fail
      refine HREC.out.mono ?_
      rintro e w2 ⟨hB2, _, hret⟩
      obtain ⟨xa, xc, rfl, hbo⟩ := hret rfl
      clear hret HREC hrun2
      go_upto_region 9 with fail
      generalize hV : World.alloc w2 _ = V
      obtain ⟨h6, hB6, h6z⟩ := alloc_named hV
      have f0 := cell_of_row _ _ 0 _ _ _ h6
      have f1 := cell_of_row _ _ 1 _ _ _ h6
      have f2 := cell_of_row _ _ 2 _ _ _ h6
      have f3 := cell_of_row _ _ 3 _ _ _ h6
      have f4 := cell_of_row _ _ 4 _ _ _ h6
      simp at f0 f1 f2 f3 f4
      have hinv6 := (hinv.out.below hB2).below hB6
      have HBO6 := Lib.hid (hbo.1.below hB6)
      have hon : Own wr.heap.size (.slice xa L1 xc) := hbo.2
      have hf2 := HBW.out.trans (hB2.mono HBW.out.size)
      have HF6 := Lib.hid (hf2.trans (hB6.mono hf2.size))
      have hszr := hB2.size
      have hszV2 : w2.heap.size < V.heap.size := by omega
      have hlast : (ts = [] ∧ ts.length = 0) ∨ ∃ (g cp j : Nat), ts.length = j + 1 ∧ u5 = .slice (some ⟨g, 0, none⟩) (j + 1) cp ∧ V.cell? ⟨g, j * 5, none⟩ = some (.int .i64 TL) := by
        rcases Nat.eq_zero_or_pos ts.length with h0 | h0
        · exact .inl ⟨List.eq_nil_of_length_eq_zero h0, h0⟩
        · obtain ⟨j, hj⟩ : ∃ j, ts.length = j + 1 := ⟨ts.length - 1, by omega⟩
          have hown := hinv6.own
          rw [hj] at hown
          obtain ⟨g, cp, hg⟩ := ownsRow_succ hown
          refine .inr ⟨g, cp, j, hj, hg, ?_⟩
          rw [hg] at hown
          have hcl := hinv6.len
          have := hown.cellAt (j * 5) (by omega)
          rw [this]
          have hq := (cpcells_get ts vs j (by omega) (by omega)).1
          have hTL2 := HTL.out
          unfold lastT at hTL2
          rw [if_neg (by intro e; rw [e] at h0; simp at h0), hj, Nat.add_sub_cancel, List.getD_eq_getElem?_getD, List.getElem?_eq_getElem (show j < ts.length by omega), Option.getD_some] at hTL2
          rw [hTL2] at hq
          exact hq
      have HI6 := Lib.hid hinv6
      have HU := Lib.hid hinv.out.own
      have hBwsz := HBW.out.size
      clear hV h6 hB6 h6z hinv6 hbo hf2 hB2 hinv HBW
      have hord : E2 = 13 ∨ E2 = 0 := by
        have := HEL.out
        split at this
        · exact .inl this
        · exact .inr this
      rcases hlast with ⟨hts0, hl0⟩ | ⟨g, cp, j, hj, hu, hcl⟩
      · have hE20 : E2 = 0 := by
          have hTL2 := HTL.out
          unfold lastT at hTL2
          rw [if_pos hts0] at hTL2
          have hel := HEL.out
          rw [← hTL2, if_neg (by omega)] at hel
          exact hel
        subst hE20
        have hG := HGOOD.out rfl
        have d1 : decide (0 < ts.length) = false := by simp [hl0]
        have d1' : decide ((0 : Int) < (ts.length : Int)) = false := by simp [hl0]
        obtain ⟨N, hN⟩ : ∃ N, ts.length = N := ⟨_, rfl⟩
        have hval : ∃ a0 c0, u5 = .slice a0 N c0 := by
          rw [← hN]
          rcases HU.out.2 with ⟨rfl, h0⟩ | ⟨g, cp, cur, rfl, _⟩
          · rw [h0]; exact ⟨_, _, rfl⟩
          · exact ⟨_, _, rfl⟩
        obtain ⟨a0, c0, rfl⟩ := hval
        have d2 : N = 0 := by rw [← hN]; exact hl0
        subst d2
        clear d1 d1' hts0 hl0 hord HBAD HEL HTL HR
        go_wp2_with fail
        go_quiet (fail)
        generalize hW : World.drewN V _ = W
        have hVW : Below V.heap.size V W := by rw [← hW]; exact below_drewN (Below.refl _ _) _
        have f0 := kc f0 hVW
        have f1 := kc f1 hVW
        have f2 := kc f2 hVW
        have f3 := kc f3 hVW
        have f4 := kc f4 hVW
        have hB7 := (Below.refl W.heap.size W).alloc (Nat.le_refl _) (.cells #[.int .i64 (T1 : Int), .int .i64 (C1 : Int), .int .i64 (F1 : Int), .int .i64 (K1 : Int), .slice xa L1 xc] 35)
        have hinv7 := (HI6.out.below hVW).below hB7
        have hby7 := (HBO6.out.below hVW).below hB7
        have hfW := HF6.out.trans (hVW.mono HF6.out.size)
        have hf7 := hfW.trans (hB7.mono hfW.size)
        have hszW := hVW.size
        have hnew : ∀ j u, [Value.int .i64 (T1 : Int), .int .i64 (C1 : Int), .int .i64 (F1 : Int), .int .i64 (K1 : Int), .slice xa L1 xc][j]? = some u → (W.alloc (.cells #[.int .i64 (T1 : Int), .int .i64 (C1 : Int), .int .i64 (F1 : Int), .int .i64 (K1 : Int), .slice xa L1 xc] 35)).cell? ((⟨W.heap.size, 0, none⟩ : Addr).add j) = some u := fun j u hj => by
          have := cellNew W #[.int .i64 (T1 : Int), .int .i64 (C1 : Int), .int .i64 (F1 : Int), .int .i64 (K1 : Int), .slice xa L1 xc] 35 j u (by simpa using hj)
          rw [addr_add, Nat.zero_add]
          exact this
        have hov : ds = [] ∨ ∃ b, (Value.slice xa L1 xc).ownBlock = some b ∧ b < (W.alloc (.cells #[.int .i64 (T1 : Int), .int .i64 (C1 : Int), .int .i64 (F1 : Int), .int .i64 (K1 : Int), .slice xa L1 xc] 35)).heap.size ∧ (Value.slice a0 0 c0).ownBlock ≠ some b := by
          rcases hby7.nil_or with h | ⟨b', e1, e2⟩
          · exact .inl h
          · refine .inr ⟨b', e1, e2, fun e => ?_⟩
            have q1 := hon b' e1
            have q2 := (HU.out.lt b' e).2
            omega
        have hsz7 : (W.alloc (.cells #[.int .i64 (T1 : Int), .int .i64 (C1 : Int), .int .i64 (F1 : Int), .int .i64 (K1 : Int), .slice xa L1 xc] 35)).heap.size = W.heap.size + 1 := by simp
        have HIN := Lib.hid hinv7.own
        have HI7 := Lib.hid hinv7
        have HOV := Lib.hid hov
        have HV7 := Lib.hid hby7
        have HF7 := Lib.hid hf7
        have hon2 : Own w.heap.size (.slice xa L1 xc) := hon.mono hBwsz
        have hlen2 := hlen.out
        have hbase : w.heap.size ≤ (W.alloc (.cells #[.int .i64 (T1 : Int), .int .i64 (C1 : Int), .int .i64 (F1 : Int), .int .i64 (K1 : Int), .slice xa L1 xc] 35)).heap.size := hf7.size
        have HG := Lib.hid hG
        clear hW hVW hB7 hinv7 hby7 hfW hf7 hov hG HI6 HBO6 HF6 HU
        go_wp2_with (at_builtin; refine wpList_append_own_at _ rfl _ _ 22 rfl w.heap.size 35 i5 _ 5 56 Tryd.underlying22 hi5 hy0 hy1 hy2 rfl (by decide) (Value.slice a0 0 c0) ts.length _ rfl HIN.out ⟨W.heap.size, 0, none⟩ 1 1 [Value.int .i64 (T1 : Int), .int .i64 (C1 : Int), .int .i64 (F1 : Int), .int .i64 (K1 : Int), .slice xa L1 xc] rfl rfl hnew ?c2 (by unfold maxLen; omega) (by omega) hbase ?_)
        case c2 => intro u hu; simp at hu; rcases hu with rfl | rfl | rfl | rfl | rfl <;> rfl
        intro v6 w6 hown6 hg6 hnn6 hob6
        have hpush := HI7.out.push (t := ⟨(T1 : Int), (C1 : Int), (F1 : Int), (K1 : Int), ds⟩) HV7.out hon2 HOV.out (by rw [hN]; exact hown6) hg6 (by rw [hsz7]; exact hob6)
        have hB8 := HF7.out.grown hg6 hbase (fun q hq => (HIN.out.lt q hq).1)
        have HP := Lib.hid hpush
        have HB8 := Lib.hid hB8
        have w1 : IntKind.i64.wrap ((k : Int) + ((16 + L1 : Nat) : Int)) = ((k + (16 + L1) : Nat) : Int) := by rw [IntWalk.i64_in _ (by omega)]; omega
        have hlen8 : (ts ++ [(⟨(T1 : Int), (C1 : Int), (F1 : Int), (K1 : Int), ds⟩ : Cp)]).length ≤ k + (16 + L1) := by simp; omega
        have HL8 := Lib.hid hlen8
        clear hpush hown6 hg6 hnn6 hob6 hB8 hlen8 HIN HI7 HOV HV7 HF7 hnew f0 f1 f2 f3 f4 hbase hsz7
        go_wp2
        go_roundw
        case rel => exact ⟨k + (16 + L1), _, _, by go_num, by omega, HP, Lib.hid (by rw [lastT_snoc]; exact HG.out), HL8, HB8.out⟩
        case measure => simp [intOf]; omega
      · subst hu
        rcases hord with rfl | rfl
        · have hlt13 : (T1 : Int) < TL := by
            have := HEL.out
            split at this
            · assumption
            · cases this
          obtain rfl := HBAD.out (by decide)
          have hjk := hlen.out
          rw [hj] at hjk
          have d1 : decide ((0 : Int) < ((j + 1 : Nat) : Int)) = true := by first | (simp; done) | (simp; omega)
          have d1' : decide (0 < j + 1) = true := by simp
          have d2 : IntKind.i64.wrap (((j + 1 : Nat) : Int) - 1) = (j : Int) := by rw [IntWalk.i64_in _ (by omega)]; omega
          have d3 : (j : Int) < ((j + 1 : Nat) : Int) := by omega
          have d4 : decide ((T1 : Int) < TL) = true := by simpa using hlt13
          clear HGOOD HEL HTL HR
          go_wp2_with fail
          go_quiet (fail)
          have hBf := below_drewN HF6.out
          have hcp := fun q => (HI6.out.below (below_drewN (Below.refl _ _) q)).cpsC
          go_wp2
          refine bodyPost_ret (by simp [results, Tryd.results15, go_sem] <;> rfl) rfl ?_
          exact ⟨_, rfl, hcp _, hBf _⟩
        · have hge : ¬ (T1 : Int) < TL := by
            have := HEL.out
            split at this
            · cases this
            · assumption
          have hG := HGOOD.out rfl
          have hjk := hlen.out
          rw [hj] at hjk
          have d1 : decide ((0 : Int) < ((j + 1 : Nat) : Int)) = true := by first | (simp; done) | (simp; omega)
          have d1' : decide (0 < j + 1) = true := by simp
          have d2 : IntKind.i64.wrap (((j + 1 : Nat) : Int) - 1) = (j : Int) := by rw [IntWalk.i64_in _ (by omega)]; omega
          have d3 : (j : Int) < ((j + 1 : Nat) : Int) := by omega
          have d4 : decide ((T1 : Int) < TL) = false := by simpa using hge
          clear hge HBAD HEL HTL HR
          go_wp2_with fail
          go_quiet (fail)
          generalize hW : World.drewN V _ = W
          have hVW : Below V.heap.size V W := by rw [← hW]; exact below_drewN (Below.refl _ _) _
          have f0 := kc f0 hVW
          have f1 := kc f1 hVW
          have f2 := kc f2 hVW
          have f3 := kc f3 hVW
          have f4 := kc f4 hVW
          have hB7 := (Below.refl W.heap.size W).alloc (Nat.le_refl _) (.cells #[.int .i64 (T1 : Int), .int .i64 (C1 : Int), .int .i64 (F1 : Int), .int .i64 (K1 : Int), .slice xa L1 xc] 35)
          have hinv7 := (HI6.out.below hVW).below hB7
          have hby7 := (HBO6.out.below hVW).below hB7
          have hfW := HF6.out.trans (hVW.mono HF6.out.size)
          have hf7 := hfW.trans (hB7.mono hfW.size)
          have hszW := hVW.size
          have hnew : ∀ j u, [Value.int .i64 (T1 : Int), .int .i64 (C1 : Int), .int .i64 (F1 : Int), .int .i64 (K1 : Int), .slice xa L1 xc][j]? = some u → (W.alloc (.cells #[.int .i64 (T1 : Int), .int .i64 (C1 : Int), .int .i64 (F1 : Int), .int .i64 (K1 : Int), .slice xa L1 xc] 35)).cell? ((⟨W.heap.size, 0, none⟩ : Addr).add j) = some u := fun j u hj => by
            have := cellNew W #[.int .i64 (T1 : Int), .int .i64 (C1 : Int), .int .i64 (F1 : Int), .int .i64 (K1 : Int), .slice xa L1 xc] 35 j u (by simpa using hj)
            rw [addr_add, Nat.zero_add]
            exact this
          have hov : ds = [] ∨ ∃ b, (Value.slice xa L1 xc).ownBlock = some b ∧ b < (W.alloc (.cells #[.int .i64 (T1 : Int), .int .i64 (C1 : Int), .int .i64 (F1 : Int), .int .i64 (K1 : Int), .slice xa L1 xc] 35)).heap.size ∧ (Value.slice (some ⟨g, 0, none⟩) (j + 1) cp).ownBlock ≠ some b := by
            rcases hby7.nil_or with h | ⟨b', e1, e2⟩
            · exact .inl h
            · refine .inr ⟨b', e1, e2, fun e => ?_⟩
              have q1 := hon b' e1
              have q2 := (HU.out.lt b' e).2
              omega
          have hsz7 : (W.alloc (.cells #[.int .i64 (T1 : Int), .int .i64 (C1 : Int), .int .i64 (F1 : Int), .int .i64 (K1 : Int), .slice xa L1 xc] 35)).heap.size = W.heap.size + 1 := by simp
          have HIN := Lib.hid hinv7.own
          have HI7 := Lib.hid hinv7
          have HOV := Lib.hid hov
          have HV7 := Lib.hid hby7
          have HF7 := Lib.hid hf7
          have hon2 : Own w.heap.size (.slice xa L1 xc) := hon.mono hBwsz
          have hlen2 := hlen.out
          have hbase : w.heap.size ≤ (W.alloc (.cells #[.int .i64 (T1 : Int), .int .i64 (C1 : Int), .int .i64 (F1 : Int), .int .i64 (K1 : Int), .slice xa L1 xc] 35)).heap.size := hf7.size
          have HG := Lib.hid hG
          clear hW hVW hB7 hinv7 hby7 hfW hf7 hov hG HI6 HBO6 HF6 HU
          go_wp2_with (at_builtin; refine wpList_append_own_at _ rfl _ _ 22 rfl w.heap.size 35 i5 _ 5 56 Tryd.underlying22 hi5 hy0 hy1 hy2 rfl (by decide) (Value.slice (some ⟨g, 0, none⟩) (j + 1) cp) ts.length _ rfl HIN.out ⟨W.heap.size, 0, none⟩ 1 1 [Value.int .i64 (T1 : Int), .int .i64 (C1 : Int), .int .i64 (F1 : Int), .int .i64 (K1 : Int), .slice xa L1 xc] rfl rfl hnew ?c2 (by unfold maxLen; omega) (by omega) hbase ?_)
          case c2 => intro u hu; simp at hu; rcases hu with rfl | rfl | rfl | rfl | rfl <;> rfl
          intro v6 w6 hown6 hg6 hnn6 hob6
          have hpush := HI7.out.push (t := ⟨(T1 : Int), (C1 : Int), (F1 : Int), (K1 : Int), ds⟩) HV7.out hon2 HOV.out (by rw [hj]; exact hown6) hg6 (by rw [hsz7]; exact hob6)
          have hB8 := HF7.out.grown hg6 hbase (fun q hq => (HIN.out.lt q hq).1)
          have HP := Lib.hid hpush
          have HB8 := Lib.hid hB8
          have w1 : IntKind.i64.wrap ((k : Int) + ((16 + L1 : Nat) : Int)) = ((k + (16 + L1) : Nat) : Int) := by rw [IntWalk.i64_in _ (by omega)]; omega
          have hlen8 : (ts ++ [(⟨(T1 : Int), (C1 : Int), (F1 : Int), (K1 : Int), ds⟩ : Cp)]).length ≤ k + (16 + L1) := by simp; omega
          have HL8 := Lib.hid hlen8
          clear hpush hown6 hg6 hnn6 hob6 hB8 hlen8 HIN HI7 HOV HV7 HF7 hnew f0 f1 f2 f3 f4 hbase hsz7
          go_wp2
          go_roundw
          case rel => exact ⟨k + (16 + L1), _, _, by go_num, by omega, HP, Lib.hid (by rw [lastT_snoc]; exact HG.out), HL8, HB8.out⟩
          case measure => simp [intOf]; omega
    · have hk2 : k = n := by omega
      subst hk2
      have g1 : decide (k < k) = false := by simp
      have hfin := hat.out.last (by rw [HN.out]; omega)
      rw [HR.out] at hfin
      subst hfin
      have hcp := hinv.out.cpsC
      clear hat HR hinv
      go_wp2
      go_ret3
      exact ⟨_, rfl, hcp, hBw⟩
end Go.Proofs.YtccknpdnapoboaaDoor
