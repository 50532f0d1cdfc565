/- client: the law ClientOrder walked. -/
import Derived.Test.YtldcihjddebciaaOCkS
import Derived.Test.YtldcihjddebciaaOSlArg2
set_option linter.unusedSimpArgs false
set_option linter.unusedVariables false
set_option maxRecDepth 100000
set_option maxHeartbeats 4000000
namespace Go.Proofs.Ytldcihjddebciaa
open Go.RowKit
theorem inv_N (mx : Int) (h1 : 23 ≤ mx) (h2 : mx ≤ 517) : Inv 0 (cN mx) :=
  ⟨⟨by simp [cN], by simp [cN], by simp [cN, tk0], by simp [cN, tk0], by simp [cN, pd0], ⟨0, rfl, Nat.zero_le _⟩, by simp [cN, tk0], ⟨h1, h2⟩⟩, fun h => by simp [cN] at h, fun _ => rfl⟩
/-- a new client -/
theorem order_new (mx : Int) (h1 : 23 ≤ mx) (h2 : mx ≤ 517) : ∃ k : Cv, (∀ w, Calls Try.prog 6 #[.int .i64 mx] w fun e w' => e = .returned (.tuple #[.agg (k.cells (cN mx)).toArray, .int .i64 0]) ∧ Below w.heap.size w w') ∧ (k.cells (cN mx)).toArray.all (·.oneCell') = true ∧ (∀ w, ClV w (.agg (k.cells (cN mx)).toArray) (cN mx)) := by
  refine ⟨⟨.slice none 0 0, .slice none 0 0, .slice none 0 0, .slice none 0 0, .slice none 0 0, []⟩, fun w => new_ok mx w h1 h2, (by simp [Cv.cells, clc, Value.oneCell']), fun w => clv_new w mx⟩
theorem woff_new (mx : Int) (rb : Nat) (v : Value) : WOff rb v (cN mx) := fun _ _ _ _ => .inl rfl
theorem clientOrder_walk (v0 v1 : Value) (w : World) (a0 : Arg Try.prog w 3 v0) (a1 : Arg Try.prog w 42 v1) :
    Calls Try.prog 4 #[v0, v1] w fun e w' => e = .returned (.bool true) ∧ Below w.heap.size w w' := by
  obtain ⟨mx, rfl, -, -⟩ := a0.i64 Try.underlying3
  obtain ⟨ss, hsr, hin⟩ := arg_steps a1
  have hsm := small_any ss v1 w hsr hin
  obtain ⟨N, hN⟩ : ∃ N, ss.length = N := ⟨_, rfl⟩
  obtain ⟨sa, sc, hsf⟩ := hsr.form
  rw [hN] at hsf
  subst hsf
  have HSM := Lib.hid hsm
  have HSS := Lib.hid (And.intro hsr (And.intro hin hN))
  have hNm : N ≤ maxLen := by rw [← hN]; exact hsr.1
  unfold maxLen at hNm
  clear hsm hsr hin hN a0 a1
  go_enter Try.func4, Try.ntmps4
  go_wp2_with fail
  refine HSM.out.mono ?_
  rintro e w1 ⟨⟨B, rfl, hB⟩, hB1⟩
  have HB := Lib.hid hB
  clear hB
  cases B with
  | false =>
    go_wp2_with fail
    refine (example_any w1).mono ?_
    rintro e wz ⟨rfl, hBz⟩
    go_wp2
    go_ret
    exact ⟨rfl, hB1.trans (hBz.mono hB1.size)⟩
  | true =>
    obtain ⟨hNl, hall⟩ := HB.out rfl
    rw [HSS.out.2.2] at hNl
    have HALL := Lib.hid hall
    clear hall HB
    by_cases h1 : mx < 23
    · have g1 : decide (mx < 23) = true := by simpa using h1
      go_wp2_with fail
      refine (example_any w1).mono ?_
      rintro e wz ⟨rfl, hBz⟩
      go_wp2
      go_ret
      exact ⟨rfl, hB1.trans (hBz.mono hB1.size)⟩
    · have g1 : decide (mx < 23) = false := by simpa using h1
      by_cases h2 : 517 < mx
      · have g2 : decide (517 < mx) = true := by simpa using h2
        go_wp2_with fail
        refine (example_any w1).mono ?_
        rintro e wz ⟨rfl, hBz⟩
        go_wp2
        go_ret
        exact ⟨rfl, hB1.trans (hBz.mono hB1.size)⟩
      · have g2 : decide (517 < mx) = false := by simpa using h2
        obtain ⟨k0, n0, one0, v0⟩ := order_new mx (by omega) (by omega)
        have HV0 := Lib.hid (And.intro v0 (inv_N mx (by omega) (by omega)))
        clear v0 h1 h2
        go_wp2_with fail
        refine (n0 w1).mono ?_
        rintro e w2 ⟨rfl, hB2⟩
        have hB2 := hB1.trans (hB2.mono hB1.size)
        have bX := Blk.new w2 35 [.int .i64 0, .int .i64 0, .int .i64 0, .int .u16 0, .int .u16 0, .int .u16 0, .slice none 0 0, .int .i64 0, .slice none 0 0, .bool false, .int .i64 0, .int .i64 0, .int .u16 0, .int .u16 0, .int .u64 0, .int .u64 0, .int .i64 0, .int .i64 0, .int .i64 0, .bool false, .slice none 0 0, .slice none 0 0, .bool false, .int .i64 0, .bool false, .slice none 0 0]
        have hth := bX.there 0 26 (by simp)
        have HB2 := Lib.hid hB2
        clear hB2 hB1 n0
        go_upto_region 4 with (refine wpList_store_mid rfl 35 _ _ rfl w2.heap.size 0 (k0.cells (cN mx)).toArray rfl rfl hth (by kernel_rfl) one0 ?_; simp only [Act.put]; generalize hW : World.setCells _ w2.heap.size 0 _ = w3; have HW := Lib.hid hW; clear hW)
        have bX5 := bX.putAll (vs := k0.cells (cN mx)) rfl
        have hg3 := setCells_grown w2.heap.size (k0.cells (cN mx)) 0 (w2.alloc (.cells #[.int .i64 0, .int .i64 0, .int .i64 0, .int .u16 0, .int .u16 0, .int .u16 0, .slice none 0 0, .int .i64 0, .slice none 0 0, .bool false, .int .i64 0, .int .i64 0, .int .u16 0, .int .u16 0, .int .u64 0, .int .u64 0, .int .i64 0, .int .i64 0, .int .i64 0, .bool false, .slice none 0 0, .slice none 0 0, .bool false, .int .i64 0, .bool false, .slice none 0 0] 35))
        rw [show World.setCells _ w2.heap.size 0 (k0.cells (cN mx)) = w3 from HW.out] at bX5 hg3
        have hB3 := HB2.out.trans ((((Below.refl w2.heap.size w2).alloc (Nat.le_refl _) _).grown hg3 (by simp) (fun k hk => by cases hk; exact Nat.le_refl _)).mono HB2.out.size)
        have h5 := HB2.out.size
        obtain ⟨X5, hX5⟩ : ∃ x, w2.heap.size = x := ⟨_, rfl⟩
        rw [hX5] at bX5 h5 ⊢
        clear bX hth HW hg3 hX5 HB2
        go_upto_region 7 with fail
        generalize hX : World.alloc w3 _ = w4
        obtain ⟨bX7, hA4, -⟩ := alloc_named hX
        have bX7 : Blk w4 w3.heap.size 32 (pdc pd0 (.slice none 0 0) (.slice none 0 0)) := bX7
        have hB4 := hB3.trans (hA4.mono hB3.size)
        have h7 := hB3.size
        have hne := bX5.lt
        have bX5 := bX5.below hA4
        obtain ⟨X7, hX7⟩ : ∃ x, w3.heap.size = x := ⟨_, rfl⟩
        rw [hX7] at bX7 h7 hne ⊢
        have hOS0 : OS w w4 X5 X7 0 (cN mx) k0 pd0 (.slice none 0 0) (.slice none 0 0) := ⟨bX5, HV0.out.1 w4, one0, bX7, ⟨_, _, _, rfl⟩, ⟨_, _, _, rfl⟩, woff_new mx X5 _, woff_new mx X7 _, HV0.out.2, rfl, hB4, h5, h7, by omega⟩
        have HOS0 := Lib.hid hOS0
        clear hX hX7 hA4 hB4 hB3 bX5 bX7 hOS0 HV0 one0
        go_wp2_with fail
        go_loopw [8] (fun vi wr => ∃ (kk : Nat) (c : Cl) (k : Cv) (o : Pd) (av iv : Value), vi = .int .i64 kk ∧ kk ≤ N ∧ OS w wr X5 X7 kk c k o av iv ∧ OpnOk o.kd c) (fun vi _ => N - (intOf vi).toNat)
        case atStart => exact ⟨0, cN mx, k0, pd0, _, _, by simp, Nat.zero_le _, HOS0.out, rfl⟩
        case round =>
          clear HOS0
          obtain ⟨kk, c, k, o, av, iv, rfl, hk, hOS, hop⟩ := hrel
          have w1' : IntKind.i64.wrap ((kk : Int) + 1) = (kk : Int) + 1 := IntWalk.i64_in _ (by omega)
          by_cases hlt : kk < N
          · have g3 : decide (kk < N) = true := by simpa using hlt
            have hk0 : (0 : Int) ≤ (kk : Int) := by omega
            have hk1 : (kk : Int) < (N : Int) := by omega
            obtain ⟨hsr, hin, hN⟩ := HSS.out
            obtain ⟨s, hs⟩ : ∃ s, ss[kk]? = some s := ⟨_, List.getElem?_eq_getElem (by omega)⟩
            have hsm := List.mem_of_getElem? hs
            obtain ⟨sb, so, sd, es, rows⟩ := sr_rows senc (fun _ => rfl) hsr (by omega)
            rw [hN] at es
            cases es
            have hsl := range_lt (rows kk s hs) rfl
            have hr := range_keep (rows kk s hs) hOS.low
            have hsi := hin s hsm
            have hsA := HALL.out s hsm
            have m0 : wr.cell? ⟨sb, so + kk * 22, none⟩ = some (.int .u8 s.call) := by
              have := hr 0 _ rfl
              rw [Nat.add_zero] at this
              exact this
            have hrT : wr.rangeAt sb (so + kk * 22 + 1) (tkc s.t s.tb s.tf) := fun j v hv => by
              have hj : j < 8 := (List.getElem?_eq_some_iff.1 hv).1
              have := hr (1 + j) v (by rw [Nat.add_comm 1 j]; show (tkc s.t s.tb s.tf ++ _)[j]? = some v; rw [List.getElem?_append_left hj]; exact hv)
              rw [← Nat.add_assoc] at this
              exact this
            have hrP : wr.rangeAt sb (so + kk * 22 + 9) (pdc s.p s.pb s.iv) := fun j v hv => by
              have hj : j < 12 := (List.getElem?_eq_some_iff.1 hv).1
              have := hr (9 + j) v (by
                rw [Nat.add_comm 9 j]
                show (tkc s.t s.tb s.tf ++ (pdc s.p s.pb s.iv ++ [.int .u32 s.pause]))[j + 8]? = some v
                rw [List.getElem?_append_right (by simp [tkc]), show j + 8 - (tkc s.t s.tb s.tf).length = j by simp [tkc], List.getElem?_append_left hj]
                exact hv)
              rw [← Nat.add_assoc] at this
              exact this
            have HSI := Lib.hid (And.intro hsi hsA)
            have HOP := Lib.hid hop
            have HK := Lib.hid (show kk ≤ 150 by omega)
            obtain ⟨CA, hCA⟩ : ∃ x, s.call = x := ⟨_, rfl⟩
            rw [hCA] at m0
            have hsX5 : sb ≠ X5 := by have := hOS.h5; omega
            clear hsr hin hN hs hsm rows hr hsi hsA hop hCA
            by_cases hc0 : CA = 0
            · have t0 : ((CA : Int) == 0) = true := by simp [hc0]
              have t0' : (CA == 0) = true := by simp [hc0]
              clear hc0 hrP
              go_upto_region 13 with fail
              have hOS := hOS.below (Below.refl _ wr).drew
              have hrT := range_keep hrT (Below.refl _ wr).drew
              clear m0
              refine wp_region_held_drew (S := (fun W' : World => W'.rangeAt sb (so + kk * 22 + 1) (tkc s.t s.tb s.tf))) (by kernel_rfl) (hrT) (fun hHeld => ?_)
              generalize World.drew _ = wd at hHeld hrT hOS ⊢
              refine tkU 1 ?_
              refine tkU 2 ?_
              refine tkU 3 ?_
              refine tkU 4 ?_
              refine tkN 5 26 sb (so + kk * 22 + 1) (tkc s.t s.tb s.tf) (fun _ h => h) Try.underlying26 ?_
              refine rd1 0 fun K hK => ?_
              refine step_load_mid (by rfl) 35 _ (by rfl) X5 0 (by rfl) (k.cells c) _ (hOS.cb.range 0 (k.cells c) (fun j v hv => by rw [Nat.zero_add]; exact hv)) Try.underlying35 rfl (by kernel_rfl) ?_
              clear hHeld
              refine hK.out _ _ (hrT) (fun hHeld => ?_)
              clear hK K
              try simp only [Act.put, List.setIfInBounds_toArray, List.set_cons_zero, List.set_cons_succ]
              refine rd1 6 fun K hK => ?_
              go_simp
              go_at_call 11
              refine (start_any c _ s.t s.tb s.tf 0 wd hOS.cv (hOS.inv.toInv0.ok HK.out) (HSI.out.1.tb.below hOS.low) HSI.out.1.tf (by have := HSI.out.2.1; omega) (by have := HSI.out.1.kd; unfold i64r at this; exact WalkArith.wf_i64 (by omega))).mono ?_
              rintro e wa ⟨v2, l2, rfl, hc2, hl2, hBa⟩
              obtain ⟨k2, rfl, one2⟩ := hc2.1.kv
              have HC2 := Lib.hid (And.intro hc2 hl2)
              have HXL := Lib.hid (And.intro hOS.cb.lt hOS.ob.lt)
              have hOSa := hOS.below hBa
              have hrT := range_keep hrT hBa
              clear hc2 hl2 hBa hOS
              clear hHeld
              refine hK.out _ _ (hrT) (fun hHeld => ?_)
              clear hK K
              try simp only [Act.put, List.setIfInBounds_toArray, List.set_cons_zero, List.set_cons_succ]
              refine tkU 7 ?_
              refine tkU 8 ?_
              refine tkU 9 ?_
              refine tkU 10 ?_
              refine rd1 11 fun K hK => ?_
              refine step_store_mid (by rfl) 35 _ _ (by rfl) X5 0 (k2.cells (startP c s.t 0).1.c).toArray (by rfl) (by rfl) (hOSa.cb.there 0 26 (by simp [Cv.cells, clc])) (by kernel_rfl) one2 ?_
              generalize hX : World.setCells _ _ 0 _ = wt
              have hsd := HSI.out.1
              have hkd : (Lit.int .i64 s.t.kd).wf = true := by have := hsd.kd; unfold i64r at this; exact WalkArith.wf_i64 (by omega)
              have hLS := left_start hOSa.inv s.t 0 hkd hsd.la hsd.ha
              have hSN := snt_start hOSa.inv HOP.out s.t 0 hkd hsd.la hsd.ha
              have hDD := (dead_start c s.t 0).trans hOSa.dead
              obtain ⟨ps, hps⟩ : ∃ x, (startP c s.t 0).1.ps = x := ⟨_, rfl⟩
              obtain ⟨hc2, hp2, hof2, a2, cp, hl2, hcap⟩ := HC2.out
              obtain ⟨c2, hcc⟩ : ∃ x, (startP c s.t 0).1.c = x := ⟨_, rfl⟩
              rw [hcc] at hc2 hLS hSN hDD one2 hX
              rw [hps] at hp2 hl2 hcap hSN
              obtain ⟨PL, hPL⟩ : ∃ x, ps.length = x := ⟨_, rfl⟩
              rw [hPL] at hl2 hcap
              subst hl2
              obtain ⟨hOSt, hgt⟩ := hOSa.putC hc2.1 (hc2.2 X5 HXL.out.1) (hc2.2 X7 HXL.out.2) one2 hLS.1 hDD hX
              have hP := hOSa.psC hgt hp2 (hof2 X5 HXL.out.1)
              have hP7 := hof2 X7 HXL.out.2
              have hrT := range_put hrT hsX5 hgt
              have hOS := hOSt.more (Nat.le_succ kk)
              have hS := hSN
              clear hX hsd hkd hLS hSN hDD hc2 hp2 hof2 one2 hOSt hgt hps hcc HC2 hOSa
              clear hHeld
              refine hK.out _ _ (hrT) (fun hHeld => ?_)
              clear hK K
              try simp only [Act.put, List.setIfInBounds_toArray, List.set_cons_zero, List.set_cons_succ]
              refine tkU 12 ?_
              refine wpAnyH_done (by kernel_rfl) ?_ _
              clear hrT hHeld
              have hPl := snt_len hS
              have hkds : ∀ p ∈ ps, i64r p.kd := fun p hp => by
                obtain ⟨j, hj⟩ := List.mem_iff_getElem?.1 hp
                exact (snt_at hS hOS.inv hj).2.2.2.1
              have HRQ := Lib.hid (requests_any ps (.slice a2 PL cp) wt hP hkds (by omega))
              have HSQ := Lib.hid (snt_req hS hOS.inv)
              have HS := Lib.hid hS
              have HPL := Lib.hid hPL
              have HP := Lib.hid (And.intro hP hP7)
              have HOS := Lib.hid hOS
              have hPl1 : PL ≤ 1 := by omega
              have m7 := hOS.ob.cell (j := 0) (v := .int .i64 o.kd) rfl
              have m22 := hOS.cb.cell (j := 22) (v := .bool c2.busy) rfl
              clear hkds hP hP7 hS hPL hPl hOS
              go_wp2_with fail
              refine HRQ.out.mono ?_
              rintro e wq ⟨rfl, rfl⟩
              obtain ⟨RN, hRN⟩ : ∃ x, reqN ps = x := ⟨_, rfl⟩
              rw [hRN]
              have HRN := Lib.hid hRN
              clear hRN
              go_upto_region 21 with fail
              go_cut [122] (fun x wx => x = .bool false ∧ wt = wx)
              case first =>
                have hR := HSQ.out
                rw [HRN.out] at hR
                obtain ⟨OK, hOK⟩ : ∃ x, o.kd = x := ⟨_, rfl⟩
                rw [hOK] at m7 hR
                rcases hR with ⟨hn, hb⟩ | ⟨hn, hb, ho⟩
                · rw [hb] at m22
                  subst hn
                  clear hb
                  by_cases hz : OK = 0
                  · have t1 : (OK != 0) = false := by simp [hz]
                    rw [t1] at m22
                    clear hz
                    go_wp2_with fail
                    go_meet
                    exact ⟨rfl, rfl⟩
                  · have t1 : (OK != 0) = true := by simp [hz]
                    rw [t1] at m22
                    clear hz
                    go_wp2_with fail
                    go_meet
                    exact ⟨rfl, rfl⟩
                · rw [hb] at m22
                  have t1 : (OK != 0) = false := by simp [ho]
                  subst hn
                  clear hb ho
                  go_wp2_with fail
                  go_meet
                  exact ⟨rfl, rfl⟩
              case rest =>
                obtain ⟨rfl, rfl⟩ := hcut
                clear m7 m22
                go_wp2_with fail
                go_loopw [12] (fun vj wj => ∃ (j : Nat) (o3 : Pd) (av3 iv3 : Value), vj = .int .i64 j ∧ j ≤ PL ∧ OS w wj X5 X7 (kk + 1) c2 k2 o3 av3 iv3 ∧ (j = 0 → o3.kd = o.kd) ∧ (j = PL → OpnOk o3.kd c2) ∧ PsV wj (.slice a2 PL cp) ps) (fun vj _ => PL - (intOf vj).toNat)
                case atStart => exact ⟨0, o, av, iv, by simp, Nat.zero_le _, HOS.out, fun _ => rfl, fun h => snt_open HS.out (by rw [HPL.out]; exact h.symm), HP.out.1⟩
                case round =>
                  obtain ⟨j, o3, av3, iv3, rfl, hj, hOS3, ho30, ho31, hP3⟩ := hrel
                  have HOS3 := Lib.hid hOS3
                  have HP3 := Lib.hid hP3
                  have HO3 := Lib.hid (And.intro ho30 ho31)
                  clear ho30 ho31 hOS3
                  by_cases hjl : j < PL
                  · have g1 : decide (j < PL) = true := by simpa using hjl
                    have j0 : (0 : Int) ≤ (j : Int) := by omega
                    have j1 : (j : Int) < (PL : Int) := by omega
                    have wj1 : IntKind.i64.wrap ((j : Int) + 1) = (j : Int) + 1 := IntWalk.i64_in _ (by omega)
                    have jc : (j : Int) + 1 ≤ (cp : Int) := by omega
                    have jc2 : (j : Int) ≤ (j : Int) + 1 := by omega
                    obtain ⟨qs, hqs, hsr, hit⟩ := hP3
                    have hql : qs.length = PL := by rw [← HPL.out, ← hqs]; simp
                    obtain ⟨q, hq⟩ : ∃ q, qs[j]? = some q := ⟨_, List.getElem?_eq_getElem (by omega)⟩
                    obtain ⟨qb, qo, qc, eq, rows⟩ := sr_rows penc (fun _ => rfl) hsr (by omega)
                    rw [hql] at eq
                    cases eq
                    have hrg := rows j q hq
                    have hqi := hit q (List.mem_of_getElem? hq)
                    have hp : ps[j]? = some q.1 := by rw [← hqs, List.getElem?_map, hq]; rfl
                    obtain ⟨p3, pb3, pv3⟩ := q
                    have hat := snt_at HS.out HOS.out.inv hp
                    have HCK := Lib.hid (rchk_req hqi.1 hqi.2 hat.2.2.1)
                    have HAT := Lib.hid hat
                    have HQI := Lib.hid hqi
                    have HRG := Lib.hid hrg
                    clear hqs hsr hit hql hq rows hqi hp hat
                    go_wp2_with (refine wpList_load_mid rfl 32 _ rfl qb (qo + j * 12) rfl (pdc p3 pb3 pv3) _ hrg Try.underlying32 rfl (by kernel_rfl) ?_)
                    refine HCK.out.mono ?_
                    rintro e wk ⟨rfl, hBk⟩
                    have HBk := Lib.hid hBk
                    have hrg := range_keep HRG.out hBk
                    have HRG := Lib.hid hrg
                    have HRP := Lib.hid (requests_any [p3] (.slice (some ⟨qb, qo + j * 12, none⟩) 1 (cp - j)) wk (psv_at hrg (HQI.out.1.below hBk) (HQI.out.2.below hBk)) (fun p hp => by rw [List.mem_singleton.1 hp]; exact HAT.out.2.2.2.1) (by simp))
                    clear hBk
                    go_wp2_with fail
                    refine HRP.out.mono ?_
                    rintro e wq ⟨rfl, rfl⟩
                    cases hrqb : isReq p3 with
                    | true =>
                      have hr1 : reqN [p3] = 1 := by simp [reqN, hrqb]
                      rw [hr1]
                      have HOP : Hid (OpnOk p3.kd c2) := Lib.hid (HAT.out.2.2.2.2.elim (fun h => h.2) (fun h => by rw [h.1] at hrqb; cases hrqb))
                      have HOSk := Lib.hid (HOS3.out.below HBk.out)
                      have hth := HOSk.out.ob.there 0 12 (by simp [pdc])
                      have one32 : (pdc p3 pb3 pv3).toArray.all (·.oneCell') = true := by
                        obtain ⟨a1, c1, e1⟩ := HQI.out.1.form
                        obtain ⟨a4, c4, e4⟩ := HQI.out.2.form
                        simp [pdc, e1, e4, Value.oneCell']
                      have HPk := Lib.hid (HP3.out.below HBk.out)
                      clear hr1 hrqb
                      go_wp2_with (first | (refine wpList_load_mid rfl 32 _ rfl qb (qo + j * 12) rfl (pdc p3 pb3 pv3) _ hrg Try.underlying32 rfl (by kernel_rfl) ?_) | (refine wpList_store_mid rfl 32 _ _ rfl X7 0 (pdc p3 pb3 pv3).toArray rfl rfl hth (by kernel_rfl) one32 ?_; simp only [Act.put]; generalize hW : World.setCells _ X7 0 _ = w9; have HW := Lib.hid hW; clear hW))
                      obtain ⟨hOS9, hg9⟩ := HOSk.out.putO (p := p3) (av' := pb3) (iv' := pv3) (by obtain ⟨a1, c1, e1⟩ := HQI.out.1.form; exact ⟨_, _, _, e1⟩) (by obtain ⟨a4, c4, e4⟩ := HQI.out.2.form; exact ⟨_, _, _, e4⟩) HW.out
                      have hP9 := HOSk.out.psO hg9 HPk.out HP.out.2
                      refine ⟨⟨j + 1, p3, pb3, pv3, by simp, hjl, hOS9, fun h => absurd h (by omega), fun _ => HOP.out, hP9⟩, ?_⟩
                      simp [intOf]
                      omega
                    | false =>
                      have hr1 : reqN [p3] = 0 := by simp [reqN, hrqb]
                      rw [hr1]
                      have HOP : Hid (OpnOk o.kd c2) := Lib.hid (HAT.out.2.2.2.2.elim (fun h => by rw [h.1] at hrqb; cases hrqb) (fun h => h.2))
                      have HJ0 := Lib.hid HAT.out.1
                      clear hr1 hrqb hrg
                      go_wp2
                      refine ⟨⟨j + 1, o3, av3, iv3, by simp, hjl, HOS3.out.below HBk.out, fun h => absurd h (by omega), fun _ => by rw [HO3.out.1 HJ0.out]; exact HOP.out, HP3.out.below HBk.out⟩, ?_⟩
                      simp [intOf]
                      omega
                  · have g1 : decide (j < PL) = false := by simpa using hjl
                    have HJ := Lib.hid (show j = PL by omega)
                    clear hP3
                    go_wp2
                    go_roundw
                    case rel => exact ⟨kk + 1, c2, k2, o3, av3, iv3, by simp, hlt, HOS3.out, HO3.out.2 HJ.out⟩
                    case measure =>
                      simp [intOf]
                      omega
            · have t0 : ((CA : Int) == 0) = false := by simp; omega
              have t0' : (CA == 0) = false := by simp [hc0]
              by_cases hc1 : CA = 1
              · have t1 : ((CA : Int) == 1) = true := by simp [hc1]
                have t1' : (CA == 1) = true := by simp [hc1]
                clear hc0 hc1 hrT
                have hPS := HSI.out.1
                have one32 : (pdc s.p s.pb s.iv).toArray.all (·.oneCell') = true := by
                  obtain ⟨a1, c1, e1⟩ := hPS.pb.form
                  obtain ⟨a4, c4, e4⟩ := hPS.iv.form
                  simp [pdc, e1, e4, Value.oneCell']
                have bP := Blk.new wr 32 [.int .i64 0, .int .i64 0, .int .u16 0, .int .u16 0, .int .u64 0, .int .u64 0, .int .i64 0, .int .i64 0, .int .i64 0, .bool false, .slice none 0 0, .slice none 0 0]
                have hth := bP.there 0 12 (by simp)
                clear hPS
                go_upto_region 16 with (first | (refine wpList_load_mid rfl 32 _ rfl sb (so + kk * 22 + 9) rfl (pdc s.p s.pb s.iv) _ hrP Try.underlying32 rfl (by kernel_rfl) ?_) | (refine wpList_store_mid rfl 32 _ _ rfl wr.heap.size 0 (pdc s.p s.pb s.iv).toArray rfl rfl hth (by kernel_rfl) one32 ?_; simp only [Act.put]; generalize hW : World.setCells _ wr.heap.size 0 _ = w5; have HW := Lib.hid hW; clear hW))
                have bXP := bP.putAll (vs := (pdc s.p s.pb s.iv)) rfl
                have hg5 := setCells_grown wr.heap.size (pdc s.p s.pb s.iv) 0 (wr.alloc (.cells #[.int .i64 0, .int .i64 0, .int .u16 0, .int .u16 0, .int .u64 0, .int .u64 0, .int .i64 0, .int .i64 0, .int .i64 0, .bool false, .slice none 0 0, .slice none 0 0] 32))
                rw [show World.setCells _ wr.heap.size 0 (pdc s.p s.pb s.iv) = w5 from HW.out] at bXP hg5
                have hA5 : Below wr.heap.size wr w5 := ((Below.refl wr.heap.size wr).alloc (Nat.le_refl _) _).grown hg5 (by simp) (fun k hk => by cases hk; exact Nat.le_refl _)
                have hOS5 := hOS.below hA5
                obtain ⟨XP, hXP⟩ : ∃ x, wr.heap.size = x := ⟨_, rfl⟩
                have hx5 := hOS.cb.lt
                have hx7 := hOS.ob.lt
                rw [hXP] at bXP hx5 hx7 ⊢
                have hPS := HSI.out.1
                have hin5 : ∀ q ∈ s.qs, ItIn w5 q := fun q hq => ⟨(hPS.it q hq).1.below hOS5.low, (hPS.it q hq).2⟩
                have hb5 := hPS.pb.below hOS5.low
                have hi5 := hPS.iv.below hOS5.low
                have HCK := Lib.hid (rchk_step hb5 hi5 hin5 HSI.out.2.2.2)
                have HIN := Lib.hid (And.intro hin5 (And.intro hb5 hi5))
                have rgP := bXP.range 0 (pdc s.p s.pb s.iv) (fun j v hv => by rw [Nat.zero_add]; exact hv)
                have HBP := Lib.hid (And.intro bXP (And.intro hx5 hx7))
                have HOS5 := Lib.hid hOS5
                clear hPS hin5 hb5 hi5 bP hth HW hg5 hA5 hOS hOS5 bXP hrP m0 hx5 hx7 one32
                go_wp2_with (refine wpList_load_mid rfl 32 _ rfl XP 0 rfl (pdc s.p s.pb s.iv) _ rgP Try.underlying32 rfl (by kernel_rfl) ?_)
                refine HCK.out.mono ?_
                rintro e w6 ⟨rfl, hB6⟩
                have HOS6 := Lib.hid (HOS5.out.below hB6)
                have HBP6 := Lib.hid (HBP.out.1.below hB6)
                have HB6 := Lib.hid hB6
                obtain ⟨E, hE⟩ : ∃ x, chkA s.p.kd s.p.ask s.p.ha s.p.la s.p.hi s.p.lo s.p.of s.p.mt s.p.co s.p.cm s.p.vs.length s.qs.length (s.qs.map itOf) = x := ⟨_, rfl⟩
                rw [hE]
                have HE := Lib.hid hE
                clear hE hB6 HOS5 rgP
                by_cases he0 : E = 0
                · have t2 : (E != 0) = false := by simp [he0]
                  have HE0 := Lib.hid (HE.out.trans he0)
                  clear he0
                  have rgC := HOS6.out.cb.range 0 (k.cells c) (fun j v hv => by rw [Nat.zero_add]; exact hv)
                  have rgP := HBP6.out.range 0 (pdc s.p s.pb s.iv) (fun j v hv => by rw [Nat.zero_add]; exact hv)
                  go_wp2_with (first | (refine wpList_load_mid rfl 35 _ rfl X5 0 rfl (k.cells c) _ rgC Try.underlying35 rfl (by kernel_rfl) ?_) | (refine wpList_load_mid rfl 32 _ rfl XP 0 rfl (pdc s.p s.pb s.iv) _ rgP Try.underlying32 rfl (by kernel_rfl) ?_))
                  have hin6 : ∀ q ∈ s.qs, ItIn w6 q := fun q hq => ⟨(HIN.out.1 q hq).1.below HB6.out, (HIN.out.1 q hq).2⟩
                  have hca := chk_ans hin6 HSI.out.2.2.2 HE0.out
                  refine (hnd_any c _ s.p s.pb s.iv s.qs 0 w6 HOS6.out.cv (HOS6.out.inv.toInv0.ok HK.out) (HIN.out.2.1.below HB6.out) (itb_of (HIN.out.2.2.below HB6.out) hin6 hca.2) (by have := HSI.out.2.2.1; omega) (by have := HSI.out.2.2.2; omega) HOS6.out.inv.adk (HOS6.out.inv.al _)).mono ?_
                  rintro e w7 ⟨v2, l2, r2, rfl, hc2, hl2, -, hB7⟩
                  obtain ⟨k2, rfl, one2⟩ := hc2.1.kv
                  have hLH := left_handle HOS6.out.inv 0 hca.1
                  have hSN := snt_handle HOS6.out.inv HOS6.out.dead HOP.out 0 hca.1
                  have hDD := (dead_handle c s.p (s.qs.map (·.1)) 0).trans HOS6.out.dead
                  have HOS7 := Lib.hid (HOS6.out.below hB7)
                  have HBP7 := Lib.hid (HBP6.out.below hB7)
                  have HXL := Lib.hid (And.intro HOS6.out.cb.lt HOS6.out.ob.lt)
                  obtain ⟨ps, hps⟩ : ∃ x, (handleP c s.p (s.qs.map (·.1)) 0).ps = x := ⟨_, rfl⟩
                  obtain ⟨hp2, hof2, a2, cp, hl2, hcap⟩ := hl2
                  obtain ⟨c2, hcc⟩ : ∃ x, (handleP c s.p (s.qs.map (·.1)) 0).c = x := ⟨_, rfl⟩
                  rw [hcc] at hc2 hLH hSN hDD one2 ⊢
                  rw [hps] at hp2 hl2 hcap hSN
                  obtain ⟨PL, hPL⟩ : ∃ x, ps.length = x := ⟨_, rfl⟩
                  rw [hPL] at hl2 hcap
                  subst hl2
                  have hth := HOS7.out.cb.there 0 26 (by simp [Cv.cells, clc])
                  have HP2 := Lib.hid (And.intro hp2 (And.intro hof2 (And.intro hLH.1 (And.intro hDD (And.intro hc2 one2)))))
                  have HSN := Lib.hid hSN
                  have HPL := Lib.hid (And.intro hPL hcap)
                  clear hin6 hca hp2 hof2 hc2 hLH hSN hDD hcc hps hPL hcap rgC rgP hB7
                  go_upto_region 18 with (refine wpList_store_mid rfl 35 _ _ rfl X5 0 (k2.cells c2).toArray rfl rfl hth (by kernel_rfl) one2 ?_; simp only [Act.put]; generalize hW : World.setCells _ X5 0 _ = w8; have HW := Lib.hid hW; clear hW)
                  obtain ⟨hOS8, hg8⟩ := HOS7.out.putC HP2.out.2.2.2.2.1.1 (HP2.out.2.2.2.2.1.2 X5 HXL.out.1) (HP2.out.2.2.2.2.1.2 X7 HXL.out.2) one2 HP2.out.2.2.1 HP2.out.2.2.2.1 HW.out
                  have hP := HOS7.out.psC hg8 HP2.out.1 (HP2.out.2.1 X5 HXL.out.1)
                  have hP7 := HP2.out.2.1 X7 HXL.out.2
                  have bP8 := HBP7.out.kept hg8 (fun e => by injection e with e; have := HBP.out.2.1; omega)
                  have m7 := hOS8.ob.cell (j := 0) (v := .int .i64 o.kd) rfl
                  have p0 := bP8.cell (j := 0) (v := .int .i64 s.p.kd) rfl
                  have p1 := bP8.cell (j := 1) (v := .int .i64 s.p.ask) rfl
                  have HOS8 := Lib.hid (And.intro hOS8 (And.intro hP hP7))
                  have hok : i64r o.kd := by
                    have h1 := HOP.out
                    unfold OpnOk at h1
                    have h2 := HOS6.out.inv.adk
                    unfold i64r
                    split at h1 <;> omega
                  have HIT : Hid (∃ A, ansI o.kd = A ∧ hits o.kd s.p = ((o.kd != 0) && ((s.p.kd == A) || ((s.p.kd == 1) && (s.p.ask == o.kd))))) := Lib.hid ⟨_, rfl, rfl⟩
                  obtain ⟨OK, hOK⟩ : ∃ x, o.kd = x := ⟨_, rfl⟩
                  obtain ⟨PK, hPK⟩ : ∃ x, s.p.kd = x := ⟨_, rfl⟩
                  obtain ⟨PA, hPA⟩ : ∃ x, s.p.ask = x := ⟨_, rfl⟩
                  rw [hOK] at m7 hok HIT
                  rw [hPK] at p0 HIT
                  rw [hPA] at p1 HIT
                  have HAN := Lib.hid (ranswer_any OK hok)
                  have HK3 := Lib.hid (And.intro hOK (And.intro hPK hPA))
                  clear hOS8 hP hP7 hg8 hth HW bP8 hok hOK hPK hPA one2
                  obtain ⟨H, hH⟩ : ∃ x, hits o.kd s.p = x := ⟨_, rfl⟩
                  have HH := Lib.hid hH
                  clear hH
                  go_cut [96] (fun x wx => x = .bool H ∧ Below w8.heap.size w8 wx)
                  case first =>
                    have TB : Cells w8.drew [(X7, 0, .int .i64 OK), (XP, 0, .int .i64 PK), (XP, 1, .int .i64 PA)] := (show Cells w8 [(X7, 0, .int .i64 OK), (XP, 0, .int .i64 PK), (XP, 1, .int .i64 PA)] from ⟨m7, p0, p1, trivial⟩).drew
                    obtain ⟨A, hA, hhit⟩ := HIT.out
                    rw [hA] at HAN
                    have hHv : H = ((OK != 0) && ((PK == A) || ((PK == 1) && (PA == OK)))) := by
                      have h1 := HH.out
                      rw [← h1]
                      unfold hits
                      rw [HK3.out.1, HK3.out.2.1, HK3.out.2.2, hA]
                    have HHV := Lib.hid hHv
                    clear hhit hA hHv m7 p0 p1
                    by_cases z0 : OK = 0
                    · have t3 : (OK != 0) = false := by simp [z0]
                      clear z0
                      refine wp_region_held_drew (S := (fun W' : World => Cells W' [(X7, 0, .int .i64 OK), (XP, 0, .int .i64 PK), (XP, 1, .int .i64 PA)])) (by kernel_rfl) (TB) (fun hHeld => ?_)
                      refine tkU 0 ?_
                      refine tkU 1 ?_
                      refine tkU 2 ?_
                      refine tkU 3 ?_
                      refine tkV 4 ?_
                      refine tkV 5 ?_
                      refine tkV 6 ?_
                      refine tkV 7 ?_
                      refine tkV 8 ?_
                      refine tkV 9 ?_
                      refine tkV 10 ?_
                      refine tkV 11 ?_
                      refine tkV 12 ?_
                      refine tkV 13 ?_
                      refine tkV 14 ?_
                      refine tkV 15 ?_
                      refine tkV 16 ?_
                      refine tkV 17 ?_
                      refine tkV 18 ?_
                      refine tkV 19 ?_
                      refine tkV 20 ?_
                      refine tkV 21 ?_
                      refine tkU 22 ?_
                      refine wpAnyH_done (by kernel_rfl) ?_ _
                      go_wp2_with fail
                      go_meet
                      exact ⟨by rw [HHV.out]; simp [t3], (Below.refl _ _).drew⟩
                    · have t3 : (OK != 0) = true := by simp [z0]
                      clear z0
                      by_cases z1 : PK = A
                      · have t4 : (PK == A) = true := by simp [z1]
                        clear z1
                        refine wp_region_held_drew (S := (fun W' : World => Cells W' [(X7, 0, .int .i64 OK), (XP, 0, .int .i64 PK), (XP, 1, .int .i64 PA)])) (by kernel_rfl) (TB) (fun hHeld => ?_)
                        refine tkU 0 ?_
                        refine tkU 1 ?_
                        refine tkU 2 ?_
                        refine tkU 3 ?_
                        refine tkU 4 ?_
                        refine tkU 5 ?_
                        refine tkU 6 ?_
                        refine tkU 7 ?_
                        refine rd1 8 fun K hK => ?_
                        go_simp
                        refine (HAN.out _).mono ?_
                        rintro e wq ⟨rfl, rfl⟩
                        clear hHeld
                        refine hK.out _ _ (TB) (fun hHeld => ?_)
                        clear hK K
                        try simp only [Act.put, List.setIfInBounds_toArray, List.set_cons_zero, List.set_cons_succ]
                        refine tkU 9 ?_
                        refine tkU 10 ?_
                        refine tkV 11 ?_
                        refine tkV 12 ?_
                        refine tkV 13 ?_
                        refine tkV 14 ?_
                        refine tkV 15 ?_
                        refine tkV 16 ?_
                        refine tkV 17 ?_
                        refine tkV 18 ?_
                        refine tkV 19 ?_
                        refine tkV 20 ?_
                        refine tkU 21 ?_
                        refine tkU 22 ?_
                        refine wpAnyH_done (by kernel_rfl) ?_ _
                        go_wp2_with fail
                        go_meet
                        exact ⟨by rw [HHV.out]; simp [t3, t4], (Below.refl _ _).drew⟩
                      · have t4 : (PK == A) = false := by simp [z1]
                        clear z1
                        by_cases z2 : PK = 1
                        · have t5 : (PK == 1) = true := by simp [z2]
                          clear z2
                          refine wp_region_held_drew (S := (fun W' : World => Cells W' [(X7, 0, .int .i64 OK), (XP, 0, .int .i64 PK), (XP, 1, .int .i64 PA)])) (by kernel_rfl) (TB) (fun hHeld => ?_)
                          refine tkU 0 ?_
                          refine tkU 1 ?_
                          refine tkU 2 ?_
                          refine tkU 3 ?_
                          refine tkU 4 ?_
                          refine tkU 5 ?_
                          refine tkU 6 ?_
                          refine tkU 7 ?_
                          refine rd1 8 fun K hK => ?_
                          go_simp
                          refine (HAN.out _).mono ?_
                          rintro e wq ⟨rfl, rfl⟩
                          clear hHeld
                          refine hK.out _ _ (TB) (fun hHeld => ?_)
                          clear hK K
                          try simp only [Act.put, List.setIfInBounds_toArray, List.set_cons_zero, List.set_cons_succ]
                          refine tkU 9 ?_
                          refine tkU 10 ?_
                          refine tkU 11 ?_
                          refine tkU 12 ?_
                          refine tkU 13 ?_
                          refine tkU 14 ?_
                          refine tkU 15 ?_
                          refine tkU 16 ?_
                          refine tkU 17 ?_
                          refine tkU 18 ?_
                          refine tkU 19 ?_
                          refine tkU 20 ?_
                          refine tkU 21 ?_
                          refine tkU 22 ?_
                          refine wpAnyH_done (by kernel_rfl) ?_ _
                          go_wp2_with fail
                          go_meet
                          exact ⟨by rw [HHV.out]; simp [t3, t4, t5], (Below.refl _ _).drew⟩
                        · have t5 : (PK == 1) = false := by simp [z2]
                          clear z2
                          refine wp_region_held_drew (S := (fun W' : World => Cells W' [(X7, 0, .int .i64 OK), (XP, 0, .int .i64 PK), (XP, 1, .int .i64 PA)])) (by kernel_rfl) (TB) (fun hHeld => ?_)
                          refine tkU 0 ?_
                          refine tkU 1 ?_
                          refine tkU 2 ?_
                          refine tkU 3 ?_
                          refine tkU 4 ?_
                          refine tkU 5 ?_
                          refine tkU 6 ?_
                          refine tkU 7 ?_
                          refine rd1 8 fun K hK => ?_
                          go_simp
                          refine (HAN.out _).mono ?_
                          rintro e wq ⟨rfl, rfl⟩
                          clear hHeld
                          refine hK.out _ _ (TB) (fun hHeld => ?_)
                          clear hK K
                          try simp only [Act.put, List.setIfInBounds_toArray, List.set_cons_zero, List.set_cons_succ]
                          refine tkU 9 ?_
                          refine tkU 10 ?_
                          refine tkU 11 ?_
                          refine tkU 12 ?_
                          refine tkU 13 ?_
                          refine tkU 14 ?_
                          refine tkV 15 ?_
                          refine tkV 16 ?_
                          refine tkV 17 ?_
                          refine tkV 18 ?_
                          refine tkV 19 ?_
                          refine tkU 20 ?_
                          refine tkU 21 ?_
                          refine tkU 22 ?_
                          refine wpAnyH_done (by kernel_rfl) ?_ _
                          go_wp2_with fail
                          go_meet
                          exact ⟨by rw [HHV.out]; simp [t3, t4, t5], (Below.refl _ _).drew⟩
                  case rest =>
                    obtain ⟨rfl, hB9⟩ := hcut
                    have HOS9 := Lib.hid (And.intro (HOS8.out.1.below hB9) (And.intro (HOS8.out.2.1.below hB9) HOS8.out.2.2))
                    clear hB9 HIT HAN m7 p0 p1
                    cases H with
                    | true =>
                      have hth := HOS9.out.1.ob.there 0 12 (by simp [pdc])
                      have oneZ : (pdc pd0 (.slice none 0 0) (.slice none 0 0)).toArray.all (·.oneCell') = true := by simp [pdc, Value.oneCell']
                      go_upto_region 20 with (refine wpList_store_mid rfl 32 _ _ rfl X7 0 (pdc pd0 (.slice none 0 0) (.slice none 0 0)).toArray rfl rfl hth (by kernel_rfl) oneZ ?_; simp only [Act.put]; generalize hW : World.setCells _ X7 0 _ = wt; have HW := Lib.hid hW; clear hW)
                      obtain ⟨hOS, hg⟩ := HOS9.out.1.putO (p := pd0) (av' := .slice none 0 0) (iv' := .slice none 0 0) ⟨_, _, _, rfl⟩ ⟨_, _, _, rfl⟩ HW.out
                      have hP := HOS9.out.1.psO hg HOS9.out.2.1 HOS9.out.2.2
                      have hP7 := HOS9.out.2.2
                      obtain ⟨o2, av2, iv2, ho2, hOS⟩ : ∃ (o2 : Pd) (av2 iv2 : Value), o2.kd = 0 ∧ OS w wt X5 X7 (kk + 1) c2 k2 o2 av2 iv2 := ⟨pd0, _, _, rfl, hOS⟩
                      have hS : Snt c2 o2.kd ps := by
                        have h1 := HSN.out
                        rw [if_pos HH.out] at h1
                        rw [ho2]
                        exact h1
                      have hPL := HPL.out.1
                      have hcap := HPL.out.2
                      clear hth HW hg ho2 oneZ
                      have hPl := snt_len hS
                      have hkds : ∀ p ∈ ps, i64r p.kd := fun p hp => by
                        obtain ⟨j, hj⟩ := List.mem_iff_getElem?.1 hp
                        exact (snt_at hS hOS.inv hj).2.2.2.1
                      have HRQ := Lib.hid (requests_any ps (.slice a2 PL cp) wt hP hkds (by omega))
                      have HSQ := Lib.hid (snt_req hS hOS.inv)
                      have HS := Lib.hid hS
                      have HPL := Lib.hid hPL
                      have HP := Lib.hid (And.intro hP hP7)
                      have HOS := Lib.hid hOS
                      have hPl1 : PL ≤ 1 := by omega
                      have m7 := hOS.ob.cell (j := 0) (v := .int .i64 o2.kd) rfl
                      have m22 := hOS.cb.cell (j := 22) (v := .bool c2.busy) rfl
                      clear hkds hP hP7 hS hPL hPl hOS
                      go_wp2_with fail
                      refine HRQ.out.mono ?_
                      rintro e wq ⟨rfl, rfl⟩
                      obtain ⟨RN, hRN⟩ : ∃ x, reqN ps = x := ⟨_, rfl⟩
                      rw [hRN]
                      have HRN := Lib.hid hRN
                      clear hRN
                      go_upto_region 21 with fail
                      go_cut [122] (fun x wx => x = .bool false ∧ wt = wx)
                      case first =>
                        have hR := HSQ.out
                        rw [HRN.out] at hR
                        obtain ⟨OK, hOK⟩ : ∃ x, o2.kd = x := ⟨_, rfl⟩
                        rw [hOK] at m7 hR
                        rcases hR with ⟨hn, hb⟩ | ⟨hn, hb, ho⟩
                        · rw [hb] at m22
                          subst hn
                          clear hb
                          by_cases hz : OK = 0
                          · have t1 : (OK != 0) = false := by simp [hz]
                            rw [t1] at m22
                            clear hz
                            go_wp2_with fail
                            go_meet
                            exact ⟨rfl, rfl⟩
                          · have t1 : (OK != 0) = true := by simp [hz]
                            rw [t1] at m22
                            clear hz
                            go_wp2_with fail
                            go_meet
                            exact ⟨rfl, rfl⟩
                        · rw [hb] at m22
                          have t1 : (OK != 0) = false := by simp [ho]
                          subst hn
                          clear hb ho
                          go_wp2_with fail
                          go_meet
                          exact ⟨rfl, rfl⟩
                      case rest =>
                        obtain ⟨rfl, rfl⟩ := hcut
                        clear m7 m22
                        go_wp2_with fail
                        go_loopw [12] (fun vj wj => ∃ (j : Nat) (o3 : Pd) (av3 iv3 : Value), vj = .int .i64 j ∧ j ≤ PL ∧ OS w wj X5 X7 (kk + 1) c2 k2 o3 av3 iv3 ∧ (j = 0 → o3.kd = o2.kd) ∧ (j = PL → OpnOk o3.kd c2) ∧ PsV wj (.slice a2 PL cp) ps) (fun vj _ => PL - (intOf vj).toNat)
                        case atStart => exact ⟨0, o2, av2, iv2, by simp, Nat.zero_le _, HOS.out, fun _ => rfl, fun h => snt_open HS.out (by rw [HPL.out]; exact h.symm), HP.out.1⟩
                        case round =>
                          obtain ⟨j, o3, av3, iv3, rfl, hj, hOS3, ho30, ho31, hP3⟩ := hrel
                          have HOS3 := Lib.hid hOS3
                          have HP3 := Lib.hid hP3
                          have HO3 := Lib.hid (And.intro ho30 ho31)
                          clear ho30 ho31 hOS3
                          by_cases hjl : j < PL
                          · have g1 : decide (j < PL) = true := by simpa using hjl
                            have j0 : (0 : Int) ≤ (j : Int) := by omega
                            have j1 : (j : Int) < (PL : Int) := by omega
                            have wj1 : IntKind.i64.wrap ((j : Int) + 1) = (j : Int) + 1 := IntWalk.i64_in _ (by omega)
                            have jc : (j : Int) + 1 ≤ (cp : Int) := by omega
                            have jc2 : (j : Int) ≤ (j : Int) + 1 := by omega
                            obtain ⟨qs, hqs, hsr, hit⟩ := hP3
                            have hql : qs.length = PL := by rw [← HPL.out, ← hqs]; simp
                            obtain ⟨q, hq⟩ : ∃ q, qs[j]? = some q := ⟨_, List.getElem?_eq_getElem (by omega)⟩
                            obtain ⟨qb, qo, qc, eq, rows⟩ := sr_rows penc (fun _ => rfl) hsr (by omega)
                            rw [hql] at eq
                            cases eq
                            have hrg := rows j q hq
                            have hqi := hit q (List.mem_of_getElem? hq)
                            have hp : ps[j]? = some q.1 := by rw [← hqs, List.getElem?_map, hq]; rfl
                            obtain ⟨p3, pb3, pv3⟩ := q
                            have hat := snt_at HS.out HOS.out.inv hp
                            have HCK := Lib.hid (rchk_req hqi.1 hqi.2 hat.2.2.1)
                            have HAT := Lib.hid hat
                            have HQI := Lib.hid hqi
                            have HRG := Lib.hid hrg
                            clear hqs hsr hit hql hq rows hqi hp hat
                            go_wp2_with (refine wpList_load_mid rfl 32 _ rfl qb (qo + j * 12) rfl (pdc p3 pb3 pv3) _ hrg Try.underlying32 rfl (by kernel_rfl) ?_)
                            refine HCK.out.mono ?_
                            rintro e wk ⟨rfl, hBk⟩
                            have HBk := Lib.hid hBk
                            have hrg := range_keep HRG.out hBk
                            have HRG := Lib.hid hrg
                            have HRP := Lib.hid (requests_any [p3] (.slice (some ⟨qb, qo + j * 12, none⟩) 1 (cp - j)) wk (psv_at hrg (HQI.out.1.below hBk) (HQI.out.2.below hBk)) (fun p hp => by rw [List.mem_singleton.1 hp]; exact HAT.out.2.2.2.1) (by simp))
                            clear hBk
                            go_wp2_with fail
                            refine HRP.out.mono ?_
                            rintro e wq ⟨rfl, rfl⟩
                            cases hrqb : isReq p3 with
                            | true =>
                              have hr1 : reqN [p3] = 1 := by simp [reqN, hrqb]
                              rw [hr1]
                              have HOP : Hid (OpnOk p3.kd c2) := Lib.hid (HAT.out.2.2.2.2.elim (fun h => h.2) (fun h => by rw [h.1] at hrqb; cases hrqb))
                              have HOSk := Lib.hid (HOS3.out.below HBk.out)
                              have hth := HOSk.out.ob.there 0 12 (by simp [pdc])
                              have one32 : (pdc p3 pb3 pv3).toArray.all (·.oneCell') = true := by
                                obtain ⟨a1, c1, e1⟩ := HQI.out.1.form
                                obtain ⟨a4, c4, e4⟩ := HQI.out.2.form
                                simp [pdc, e1, e4, Value.oneCell']
                              have HPk := Lib.hid (HP3.out.below HBk.out)
                              clear hr1 hrqb
                              go_wp2_with (first | (refine wpList_load_mid rfl 32 _ rfl qb (qo + j * 12) rfl (pdc p3 pb3 pv3) _ hrg Try.underlying32 rfl (by kernel_rfl) ?_) | (refine wpList_store_mid rfl 32 _ _ rfl X7 0 (pdc p3 pb3 pv3).toArray rfl rfl hth (by kernel_rfl) one32 ?_; simp only [Act.put]; generalize hW : World.setCells _ X7 0 _ = w9; have HW := Lib.hid hW; clear hW))
                              obtain ⟨hOS9, hg9⟩ := HOSk.out.putO (p := p3) (av' := pb3) (iv' := pv3) (by obtain ⟨a1, c1, e1⟩ := HQI.out.1.form; exact ⟨_, _, _, e1⟩) (by obtain ⟨a4, c4, e4⟩ := HQI.out.2.form; exact ⟨_, _, _, e4⟩) HW.out
                              have hP9 := HOSk.out.psO hg9 HPk.out HP.out.2
                              refine ⟨⟨j + 1, p3, pb3, pv3, by simp, hjl, hOS9, fun h => absurd h (by omega), fun _ => HOP.out, hP9⟩, ?_⟩
                              simp [intOf]
                              omega
                            | false =>
                              have hr1 : reqN [p3] = 0 := by simp [reqN, hrqb]
                              rw [hr1]
                              have HOP : Hid (OpnOk o2.kd c2) := Lib.hid (HAT.out.2.2.2.2.elim (fun h => by rw [h.1] at hrqb; cases hrqb) (fun h => h.2))
                              have HJ0 := Lib.hid HAT.out.1
                              clear hr1 hrqb hrg
                              go_wp2
                              refine ⟨⟨j + 1, o3, av3, iv3, by simp, hjl, HOS3.out.below HBk.out, fun h => absurd h (by omega), fun _ => by rw [HO3.out.1 HJ0.out]; exact HOP.out, HP3.out.below HBk.out⟩, ?_⟩
                              simp [intOf]
                              omega
                          · have g1 : decide (j < PL) = false := by simpa using hjl
                            have HJ := Lib.hid (show j = PL by omega)
                            clear hP3
                            go_wp2
                            go_roundw
                            case rel => exact ⟨kk + 1, c2, k2, o3, av3, iv3, by simp, hlt, HOS3.out, HO3.out.2 HJ.out⟩
                            case measure =>
                              simp [intOf]
                              omega
                    | false =>
                      have hOS := HOS9.out.1
                      have hP := HOS9.out.2.1
                      have hP7 := HOS9.out.2.2
                      have hS : Snt c2 o.kd ps := by
                        have h1 := HSN.out
                        rw [if_neg (by rw [HH.out]; decide)] at h1
                        exact h1
                      have hPL := HPL.out.1
                      have hcap := HPL.out.2
                      have hPl := snt_len hS
                      have hkds : ∀ p ∈ ps, i64r p.kd := fun p hp => by
                        obtain ⟨j, hj⟩ := List.mem_iff_getElem?.1 hp
                        exact (snt_at hS hOS.inv hj).2.2.2.1
                      have HRQ := Lib.hid (requests_any ps (.slice a2 PL cp) wc hP hkds (by omega))
                      have HSQ := Lib.hid (snt_req hS hOS.inv)
                      have HS := Lib.hid hS
                      have HPL := Lib.hid hPL
                      have HP := Lib.hid (And.intro hP hP7)
                      have HOS := Lib.hid hOS
                      have hPl1 : PL ≤ 1 := by omega
                      have m7 := hOS.ob.cell (j := 0) (v := .int .i64 o.kd) rfl
                      have m22 := hOS.cb.cell (j := 22) (v := .bool c2.busy) rfl
                      clear hkds hP hP7 hS hPL hPl hOS
                      go_wp2_with fail
                      refine HRQ.out.mono ?_
                      rintro e wq ⟨rfl, rfl⟩
                      obtain ⟨RN, hRN⟩ : ∃ x, reqN ps = x := ⟨_, rfl⟩
                      rw [hRN]
                      have HRN := Lib.hid hRN
                      clear hRN
                      go_upto_region 21 with fail
                      go_cut [122] (fun x wx => x = .bool false ∧ wc = wx)
                      case first =>
                        have hR := HSQ.out
                        rw [HRN.out] at hR
                        obtain ⟨OK, hOK⟩ : ∃ x, o.kd = x := ⟨_, rfl⟩
                        rw [hOK] at m7 hR
                        rcases hR with ⟨hn, hb⟩ | ⟨hn, hb, ho⟩
                        · rw [hb] at m22
                          subst hn
                          clear hb
                          by_cases hz : OK = 0
                          · have t1 : (OK != 0) = false := by simp [hz]
                            rw [t1] at m22
                            clear hz
                            go_wp2_with fail
                            go_meet
                            exact ⟨rfl, rfl⟩
                          · have t1 : (OK != 0) = true := by simp [hz]
                            rw [t1] at m22
                            clear hz
                            go_wp2_with fail
                            go_meet
                            exact ⟨rfl, rfl⟩
                        · rw [hb] at m22
                          have t1 : (OK != 0) = false := by simp [ho]
                          subst hn
                          clear hb ho
                          go_wp2_with fail
                          go_meet
                          exact ⟨rfl, rfl⟩
                      case rest =>
                        obtain ⟨rfl, rfl⟩ := hcut
                        clear m7 m22
                        go_wp2_with fail
                        go_loopw [12] (fun vj wj => ∃ (j : Nat) (o3 : Pd) (av3 iv3 : Value), vj = .int .i64 j ∧ j ≤ PL ∧ OS w wj X5 X7 (kk + 1) c2 k2 o3 av3 iv3 ∧ (j = 0 → o3.kd = o.kd) ∧ (j = PL → OpnOk o3.kd c2) ∧ PsV wj (.slice a2 PL cp) ps) (fun vj _ => PL - (intOf vj).toNat)
                        case atStart => exact ⟨0, o, av, iv, by simp, Nat.zero_le _, HOS.out, fun _ => rfl, fun h => snt_open HS.out (by rw [HPL.out]; exact h.symm), HP.out.1⟩
                        case round =>
                          obtain ⟨j, o3, av3, iv3, rfl, hj, hOS3, ho30, ho31, hP3⟩ := hrel
                          have HOS3 := Lib.hid hOS3
                          have HP3 := Lib.hid hP3
                          have HO3 := Lib.hid (And.intro ho30 ho31)
                          clear ho30 ho31 hOS3
                          by_cases hjl : j < PL
                          · have g1 : decide (j < PL) = true := by simpa using hjl
                            have j0 : (0 : Int) ≤ (j : Int) := by omega
                            have j1 : (j : Int) < (PL : Int) := by omega
                            have wj1 : IntKind.i64.wrap ((j : Int) + 1) = (j : Int) + 1 := IntWalk.i64_in _ (by omega)
                            have jc : (j : Int) + 1 ≤ (cp : Int) := by omega
                            have jc2 : (j : Int) ≤ (j : Int) + 1 := by omega
                            obtain ⟨qs, hqs, hsr, hit⟩ := hP3
                            have hql : qs.length = PL := by rw [← HPL.out, ← hqs]; simp
                            obtain ⟨q, hq⟩ : ∃ q, qs[j]? = some q := ⟨_, List.getElem?_eq_getElem (by omega)⟩
                            obtain ⟨qb, qo, qc, eq, rows⟩ := sr_rows penc (fun _ => rfl) hsr (by omega)
                            rw [hql] at eq
                            cases eq
                            have hrg := rows j q hq
                            have hqi := hit q (List.mem_of_getElem? hq)
                            have hp : ps[j]? = some q.1 := by rw [← hqs, List.getElem?_map, hq]; rfl
                            obtain ⟨p3, pb3, pv3⟩ := q
                            have hat := snt_at HS.out HOS.out.inv hp
                            have HCK := Lib.hid (rchk_req hqi.1 hqi.2 hat.2.2.1)
                            have HAT := Lib.hid hat
                            have HQI := Lib.hid hqi
                            have HRG := Lib.hid hrg
                            clear hqs hsr hit hql hq rows hqi hp hat
                            go_wp2_with (refine wpList_load_mid rfl 32 _ rfl qb (qo + j * 12) rfl (pdc p3 pb3 pv3) _ hrg Try.underlying32 rfl (by kernel_rfl) ?_)
                            refine HCK.out.mono ?_
                            rintro e wk ⟨rfl, hBk⟩
                            have HBk := Lib.hid hBk
                            have hrg := range_keep HRG.out hBk
                            have HRG := Lib.hid hrg
                            have HRP := Lib.hid (requests_any [p3] (.slice (some ⟨qb, qo + j * 12, none⟩) 1 (cp - j)) wk (psv_at hrg (HQI.out.1.below hBk) (HQI.out.2.below hBk)) (fun p hp => by rw [List.mem_singleton.1 hp]; exact HAT.out.2.2.2.1) (by simp))
                            clear hBk
                            go_wp2_with fail
                            refine HRP.out.mono ?_
                            rintro e wq ⟨rfl, rfl⟩
                            cases hrqb : isReq p3 with
                            | true =>
                              have hr1 : reqN [p3] = 1 := by simp [reqN, hrqb]
                              rw [hr1]
                              have HOP : Hid (OpnOk p3.kd c2) := Lib.hid (HAT.out.2.2.2.2.elim (fun h => h.2) (fun h => by rw [h.1] at hrqb; cases hrqb))
                              have HOSk := Lib.hid (HOS3.out.below HBk.out)
                              have hth := HOSk.out.ob.there 0 12 (by simp [pdc])
                              have one32 : (pdc p3 pb3 pv3).toArray.all (·.oneCell') = true := by
                                obtain ⟨a1, c1, e1⟩ := HQI.out.1.form
                                obtain ⟨a4, c4, e4⟩ := HQI.out.2.form
                                simp [pdc, e1, e4, Value.oneCell']
                              have HPk := Lib.hid (HP3.out.below HBk.out)
                              clear hr1 hrqb
                              go_wp2_with (first | (refine wpList_load_mid rfl 32 _ rfl qb (qo + j * 12) rfl (pdc p3 pb3 pv3) _ hrg Try.underlying32 rfl (by kernel_rfl) ?_) | (refine wpList_store_mid rfl 32 _ _ rfl X7 0 (pdc p3 pb3 pv3).toArray rfl rfl hth (by kernel_rfl) one32 ?_; simp only [Act.put]; generalize hW : World.setCells _ X7 0 _ = w9; have HW := Lib.hid hW; clear hW))
                              obtain ⟨hOS9, hg9⟩ := HOSk.out.putO (p := p3) (av' := pb3) (iv' := pv3) (by obtain ⟨a1, c1, e1⟩ := HQI.out.1.form; exact ⟨_, _, _, e1⟩) (by obtain ⟨a4, c4, e4⟩ := HQI.out.2.form; exact ⟨_, _, _, e4⟩) HW.out
                              have hP9 := HOSk.out.psO hg9 HPk.out HP.out.2
                              refine ⟨⟨j + 1, p3, pb3, pv3, by simp, hjl, hOS9, fun h => absurd h (by omega), fun _ => HOP.out, hP9⟩, ?_⟩
                              simp [intOf]
                              omega
                            | false =>
                              have hr1 : reqN [p3] = 0 := by simp [reqN, hrqb]
                              rw [hr1]
                              have HOP : Hid (OpnOk o.kd c2) := Lib.hid (HAT.out.2.2.2.2.elim (fun h => by rw [h.1] at hrqb; cases hrqb) (fun h => h.2))
                              have HJ0 := Lib.hid HAT.out.1
                              clear hr1 hrqb hrg
                              go_wp2
                              refine ⟨⟨j + 1, o3, av3, iv3, by simp, hjl, HOS3.out.below HBk.out, fun h => absurd h (by omega), fun _ => by rw [HO3.out.1 HJ0.out]; exact HOP.out, HP3.out.below HBk.out⟩, ?_⟩
                              simp [intOf]
                              omega
                          · have g1 : decide (j < PL) = false := by simpa using hjl
                            have HJ := Lib.hid (show j = PL by omega)
                            clear hP3
                            go_wp2
                            go_roundw
                            case rel => exact ⟨kk + 1, c2, k2, o3, av3, iv3, by simp, hlt, HOS3.out, HO3.out.2 HJ.out⟩
                            case measure =>
                              simp [intOf]
                              omega
                · have t2 : (E != 0) = true := by simp [he0]
                  clear he0
                  go_wp2
                  refine ⟨⟨kk + 1, c, k, o, av, iv, by simp, hlt, HOS6.out.more (Nat.le_succ kk), HOP.out⟩, ?_⟩
                  simp [intOf]
                  omega
              · have t1 : ((CA : Int) == 1) = false := by simp; omega
                have t1' : (CA == 1) = false := by simp [hc1]
                clear hc0 hc1 hrT hrP
                have hb : c.busy = (o.kd != 0) := by
                  rcases snt_req (o := o.kd) (ps := []) (.inl ⟨rfl, HOP.out⟩) hOS.inv with h | h
                  · exact h.2
                  · exact absurd h.1 (by decide)
                have HRQ := Lib.hid (requests_any [] (.slice none 0 0) wr (PsV.nil wr) (by simp) (by simp))
                have m7 := hOS.ob.cell (j := 0) (v := .int .i64 o.kd) rfl
                have m22 := hOS.cb.cell (j := 22) (v := .bool c.busy) rfl
                rw [hb] at m22
                have HOS := Lib.hid (hOS.more (Nat.le_succ kk))
                obtain ⟨OK, hOK⟩ : ∃ x, o.kd = x := ⟨_, rfl⟩
                rw [hOK] at m7 m22
                clear hb hOK hOS
                go_wp2_with fail
                refine HRQ.out.mono ?_
                rintro e wq ⟨rfl, rfl⟩
                rw [show ((reqN [] : Nat) : Int) = 0 from rfl]
                go_upto_region 21 with fail
                go_cut [122] (fun x wx => x = .bool false ∧ wr = wx)
                case first =>
                  by_cases hz : OK = 0
                  · have t1 : (OK != 0) = false := by simp [hz]
                    rw [t1] at m22
                    clear hz
                    go_wp2_with fail
                    go_meet
                    exact ⟨rfl, rfl⟩
                  · have t1 : (OK != 0) = true := by simp [hz]
                    rw [t1] at m22
                    clear hz
                    go_wp2_with fail
                    go_meet
                    exact ⟨rfl, rfl⟩
                case rest =>
                  obtain ⟨rfl, rfl⟩ := hcut
                  clear m7 m22 m0
                  go_wp2_with fail
                  go_loopw [12] (fun vj wj => vj = .int .i64 0 ∧ wr = wj) (fun _ _ => 0)
                  case atStart => exact ⟨by simp, by simp⟩
                  case round =>
                    obtain ⟨rfl, rfl⟩ := hrel
                    go_wp2
                    go_roundw
                    case rel => exact ⟨kk + 1, c, k, o, av, iv, by simp, hlt, HOS.out, HOP.out⟩
                    case measure =>
                      simp [intOf]
                      omega
          · have g3 : decide (kk < N) = false := by simpa using hlt
            have hlow := hOS.low
            clear hOS hop
            go_wp2_with fail
            refine (example_any wr).mono ?_
            rintro e wz ⟨rfl, hBz⟩
            go_wp2
            go_ret
            exact ⟨rfl, hlow.trans (hBz.mono hlow.size)⟩
end Go.Proofs.Ytldcihjddebciaa
