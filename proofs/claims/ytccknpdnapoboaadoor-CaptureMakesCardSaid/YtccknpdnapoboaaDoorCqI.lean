/- capture: Write of the reference. -/
import Derived.Test.YtccknpdnapoboaaDoorCqH
import Derived.Test.YtccknpdnapoboaaDoorCqD
namespace Go.Proofs.YtccknpdnapoboaaDoor
open Go.RowKit

set_option linter.unusedSimpArgs false in
set_option linter.unusedVariables false in
set_option maxRecDepth 100000 in
set_option maxHeartbeats 8000000 in
theorem rwrite_any (v : Value) (l : List Cp) (w : World) (h : Cps w v l) (hm : l.length ≤ 1000) :
    Calls Tryd.prog 13 #[v] w (WriteP w l l.length (cpW l l.length)) := by
  obtain ⟨i0, hi, hz0, hz1, hz2⟩ := info_parts Tryd.info_u8
  have hblt := h.lt
  obtain ⟨_, ao, cap, rfl, hcell⟩ := h
  obtain ⟨n, hn⟩ : ∃ n, l.length = n := ⟨_, rfl⟩
  rw [hn] at hm ⊢
  have HN := Lib.hid hn
  have HC := Lib.hid hcell
  have HLT := Lib.hid hblt
  obtain ⟨E, hE⟩ : ∃ E, cpW l n = E := ⟨_, rfl⟩
  rw [hE]
  have HE := Lib.hid hE
  have hnew : ∀ j u, (bcells mag)[j]? = some u → (w.alloc (.cells #[.int .u8 65, .int .u8 73, .int .u8 82, .int .u8 49] 5 (4, 5))).cell? ⟨w.heap.size, j, none⟩ = some u := fun j u hj => by
    rw [World.cell?_alloc_mark]
    simpa [bcells, mag] using hj
  have HO : Hid (Out w.heap.size (w.alloc (.cells #[.int .u8 65, .int .u8 73, .int .u8 82, .int .u8 49] 5 (4, 5))) (.slice (some ⟨w.heap.size, 0, none⟩) 4 4) (wrB l 0)) :=
    Lib.hid (.inr ⟨by simp [wrB], rfl, by unfold maxLen; omega, rfl, bcells_one _, some ⟨w.heap.size, 0, none⟩, 4, rfl, fun h => (by cases h), fun _ => ⟨w.heap.size, 0, rfl, by simp, fun j u hj => by rw [Nat.zero_add]; exact hnew j u hj⟩⟩)
  have kcv := fun (W : World) (C : Array Value) (n c : Nat) => Lib.run_convert_bytes_const (P := Tryd.prog) W 25 5 C n c Tryd.underlying25 Tryd.underlying5
  clear hn hcell hE hblt hnew
  go_enter Tryd.func13, Tryd.ntmps13
  go_wp2
  clear kcv
  go_loopw [4, 5] (fun out i wr => ∃ k : Nat, i = .int .i64 k ∧ k ≤ n ∧ Hid (Out w.heap.size wr out (wrB l k)) ∧ Hid (cpW l k = 0) ∧ Below w.heap.size w wr) (fun _ i _ => n - (intOf i).toNat)
  case atStart => exact ⟨0, by simp, Nat.zero_le _, HO, Lib.hid rfl, (Below.refl _ _).alloc (Nat.le_refl _) _⟩
  case round =>
    clear HO
    obtain ⟨k, rfl, hk, hout, hok, hB⟩ := hrel
    by_cases hlt : k < n
    · have g1 : decide (k < n) = true := by simpa using hlt
      have g1' : decide ((k : Int) < (n : Int)) = true := by simp; omega
      have hkl : k < l.length := by rw [HN.out]; exact hlt
      obtain ⟨b, off, rfl, hb, hx⟩ := HC.out (by rw [HN.out]; omega)
      obtain ⟨ra, rc, d0, d1, d2, d3, d4, hby⟩ := (hx k hkl).below hB
      have hv := cpE_get hkl
      have hstop := cpW_stop l k n hok.out
      have hstep := cpW_step l k hok.out
      have hsucc := wrB_succ l k hkl
      have hlen := wrB_len l k hok.out (by omega)
      obtain ⟨⟨T, C, F, K, bs⟩, he⟩ : ∃ t, l[k] = t := ⟨_, rfl⟩
      have hprev : ∀ j, k = j + 1 → ∃ P : Int, (l.getD (k - 1) default).t = P ∧ w.cell? ⟨b, off + j * 5, none⟩ = some (.int .i64 P) := fun j hj => by
        subst hj
        have hjl : j < l.length := by omega
        obtain ⟨_, _, p0, _⟩ := hx j hjl
        refine ⟨_, ?_, p0⟩
        rw [Nat.add_sub_cancel, List.getD_eq_getElem?_getD, List.getElem?_eq_getElem hjl, Option.getD_some]
      rw [he] at d0 d1 d2 d3 d4 hby hv hsucc
      simp only at d0 d1 d2 d3 d4 hby hv
      obtain ⟨L, hL⟩ : ∃ L, bs.length = L := ⟨_, rfl⟩
      rw [hL] at d4 hby
      have hbr : b < wr.heap.size := Nat.lt_of_lt_of_le hb hB.size
      have hi1 : (k : Int) < (n : Int) := by omega
      have w1 : IntKind.i64.wrap ((k : Int) + 1) = (k : Int) + 1 := IntWalk.i64_in _ (by omega)
      have hce := cpB_cpE T C F K bs
      have hri := right_any T C F K (.slice ra L rc) wr rfl
      rw [hL] at hce
      obtain ⟨BB, hBB⟩ : ∃ x, cpB T C F K = x := ⟨_, rfl⟩
      rw [hBB] at hce hri
      rw [hce] at hv
      have HRI := Lib.hid hri
      have HSTOP := Lib.hid hstop
      have HSTEP := Lib.hid hstep
      have HSUCC := Lib.hid hsucc
      have HLEN := Lib.hid hlen
      have HBY := Lib.hid hby
      have HL := Lib.hid hL
      have HV := Lib.hid hv
      have HPREV := Lib.hid hprev
      have HBB := Lib.hid hBB
      have HBR := Lib.hid hB
      clear hri hstop hstep hsucc hlen hby hL hprev hx he hce hkl hv hBB hB
      cases BB with
      | false =>
        have hv := HV.out
        simp at hv
        obtain rfl : E = 5 := by rw [← HE.out, HSTOP.out (by rw [hv]; decide) hlt, hv]
        clear hv HV HSTOP HSTEP HSUCC HLEN HPREV HBB
        go_wp2_with fail
        refine HRI.out.mono ?_
        rintro e w2 ⟨rfl, hB2⟩
        have HBF := Lib.hid (HBR.out.trans (hB2.mono HBR.out.size))
        clear hB2 HRI hout
        go_wp2
        refine bodyPost_ret (by simp [results, Tryd.results13, go_sem] <;> rfl) rfl ?_
        exact WriteP.err (by decide) HBF.out
      | true =>
      have hrng := of_decide_eq_true (show decide (0 ≤ T ∧ T ≤ 1099511627776 ∧ 0 ≤ C ∧ C ≤ 39 ∧ 0 ≤ F ∧ F ≤ 7 ∧ 0 ≤ K ∧ K ≤ 4) = true from HBB.out)
      obtain ⟨hT0, hT1, hC0, hC1, hF0, hF1, hK0, hK1⟩ := hrng
      obtain ⟨T, rfl⟩ := Int.eq_ofNat_of_zero_le hT0
      obtain ⟨C, rfl⟩ := Int.eq_ofNat_of_zero_le hC0
      obtain ⟨F, rfl⟩ := Int.eq_ofNat_of_zero_le hF0
      obtain ⟨K, rfl⟩ := Int.eq_ofNat_of_zero_le hK0
      have hv := HV.out
      simp only [if_true] at hv
      clear HV HBB
      go_wp2_with fail
      refine HRI.out.mono ?_
      rintro e w2 ⟨rfl, hB2⟩
      have HB2 := Lib.hid (HBR.out.trans (hB2.mono HBR.out.size))
      have HO2 := Lib.hid (hout.out.below hB2)
      have HBY2 := Lib.hid (HBY.out.below hB2)
      have hb2 : b < w2.heap.size := Nat.lt_of_lt_of_le hbr hB2.size
      replace d0 := kc d0 hB2
      replace d1 := kc d1 hB2
      replace d2 := kc d2 hB2
      replace d3 := kc d3 hB2
      replace d4 := kc d4 hB2
      clear hB2 HRI hout HBY HBR hbr
      by_cases h260 : 260 < L
      · have t1 : decide (260 < L) = true := by simpa using h260
        have t1' : decide ((260 : Int) < (L : Int)) = true := by simp; omega
        rw [if_pos h260] at hv
        simp at hv
        obtain rfl : E = 4 := by rw [← HE.out, HSTOP.out (by rw [hv]; decide) hlt, hv]
        have HBF := HB2
        clear hv HSTOP HSTEP HSUCC HLEN HPREV
        go_wp2
        refine bodyPost_ret (by simp [results, Tryd.results13, go_sem] <;> rfl) rfl ?_
        exact WriteP.err (by decide) HBF.out
      have t1 : decide (260 < L) = false := by simpa using h260
      have t1' : decide ((260 : Int) < (L : Int)) = false := by simp; omega
      rw [if_neg h260] at hv
      simp only [ne_eq, not_true_eq_false, if_false] at hv
      by_cases hk0 : k = 0
      · subst hk0
        simp only [Nat.zero_mul, Nat.add_zero] at d0 d1 d2 d3 d4
        have HV := Lib.hid hv
        clear hv
        go_wp2_with fail
        go_quiet (fail)
        generalize hX : World.drewN w2 _ = X
        have hVX : Below w2.heap.size w2 X := by rw [← hX]; exact below_drewN (Below.refl _ _) _
        have HBX := Lib.hid (HB2.out.trans (hVX.mono HB2.out.size))
        have hOX := HO2.out.below hVX
        have hbyX := HBY2.out.below hVX
        have r0 := kc d0 hVX
        have r1 := kc d1 hVX
        have r2 := kc d2 hVX
        have r3 := kc d3 hVX
        have r4 := kc d4 hVX
        have hby5 := rbytes_any T C F K L ra rc bs HL.out X hbyX (by omega) (by omega) (by omega) (by omega) (by omega)
        have HBT := Lib.hid hby5
        have HOX := Lib.hid hOX
        have hbr2 : b < X.heap.size := Nat.lt_of_lt_of_le hb2 hVX.size
        clear hX hVX hOX hbyX hby5 HB2 HO2 HBY2 d0 d1 d2 d3 d4
        go_wp2_with fail
        refine HBT.out.mono ?_
        rintro e w5 ⟨v5, rfl, hown5, hB5⟩
        have HB5 := Lib.hid (HBX.out.trans (hB5.mono HBX.out.size))
        have hO5 := HOX.out.below hB5
        obtain ⟨R, hR⟩ : ∃ R, recB ⟨(T : Int), (C : Int), (F : Int), (K : Int), bs⟩ = R := ⟨_, rfl⟩
        have hsuc := HSUCC.out
        rw [hR] at hown5 hsuc
        have hRlen : R.length = 16 + L := by rw [← hR, recB_len, HL.out]
        have hlen1 := HLEN.out
        obtain ⟨J, hJ⟩ : ∃ J, wrB l 0 = J := ⟨_, rfl⟩
        rw [hJ] at hsuc hO5 hlen1
        have hcw : cpW l (0 + 1) = 0 := by
          rw [HSTEP.out, HV.out]
          simp
        have hsr5 := SR.of_own hown5 (bcells_one _) (by unfold maxLen; omega)
        have hbase := HB5.out.size
        have HREST : Hid (∀ (v6 : Value) (w6 : World), w6.ownsRow w.heap.size 5 1 v6 (J.length + (16 + L)) (bcells J ++ bcells R) → Below w.heap.size w w6 → ∃ k2 : Nat, Value.int .i64 1 = .int .i64 k2 ∧ k2 ≤ n ∧ Hid (Out w.heap.size w6 v6 (wrB l k2)) ∧ Hid (cpW l k2 = 0) ∧ Below w.heap.size w w6) :=
          Lib.hid fun v6 w6 h6 hb6 => ⟨0 + 1, by simp, hlt, Lib.hid (.inl (by rw [hsuc, List.length_append, hRlen]; simpa [bcells] using h6)), Lib.hid hcw, hb6⟩
        clear hB5 HBT HOX HBX hcw hsuc hR hJ HSUCC HSTEP HSTOP HLEN HV HPREV r0 r1 r2 r3 r4
        rcases hO5 with hown | ⟨hmag, hv, hsr⟩
        · go_wp2_with (at_builtin; refine wpList_append_all rfl _ _ 25 rfl w.heap.size 5 i0 (.int .u8 0) 1 1 Tryd.underlying25 hi hz0 hz1 hz2 rfl (by decide) _ J.length _ rfl hown _ (16 + L) (bcells R) rfl hsr5 (by unfold maxLen; omega) (by omega) hbase ?_)
          intro v6 w6 hown6 hg6 _
          have hB6 := HB5.out.grown hg6 hbase (fun q hq => (hown.lt q hq).1)
          have HREL := Lib.hid (HREST.out _ _ hown6 hB6)
          clear hown hown5 hown6 hg6 hB6 HREST HB5 hsr5
          go_wp2
          refine ⟨HREL.out, ?_⟩
          simp [intOf]
          omega
        · subst hmag
          subst hv
          obtain ⟨g5, c5, hv5⟩ := ownsRow_succ (k := 15 + L) (by rw [show 15 + L + 1 = 16 + L by omega]; exact hown5)
          rw [show 15 + L + 1 = 16 + L by omega] at hv5
          subst hv5
          have hn5 : (bcells R).length = (16 + L) * 1 := by rw [bcells_len, hRlen, Nat.mul_one]
          have hnews : ∀ j u, (bcells R)[j]? = some u → w5.cell? ((⟨g5, 0, none⟩ : Addr).add j) = some u := fun j u hj => by
            rw [addr_add, Nat.zero_add]
            have hjl := (List.getElem?_eq_some_iff.1 hj).1
            have := hown5.cellAt j (by rw [hn5] at hjl; exact hjl)
            rw [this]; exact hj
          have hold : ∀ j u, (bcells mag)[j]? = some u → w5.cell? ((⟨w.heap.size, 0, none⟩ : Addr).add j) = some u := fun j u hj => by
            obtain ⟨_, _, _, ao, cp, e, _, hc⟩ := hsr
            cases e
            obtain ⟨b', o', e', _, hc'⟩ := hc (by decide)
            cases e'
            rw [addr_add]
            exact hc' j u hj
          go_wp2_with (at_builtin; refine wpList_append_over rfl _ _ 25 rfl w.heap.size 5 i0 (.int .u8 0) 1 1 Tryd.underlying25 hi hz0 hz1 hz2 rfl ⟨w.heap.size, 0, none⟩ 4 4 (bcells mag) rfl rfl hold ⟨g5, 0, none⟩ (16 + L) c5 (bcells R) rfl hn5 hnews (by omega) (by unfold maxLen; omega) (by omega) hbase ?_)
          intro v6 w6 hown6 hB56
          have hB6 := HB5.out.trans (hB56.mono HB5.out.size)
          have HREL := Lib.hid (HREST.out _ _ hown6 hB6)
          clear hown5 hown6 hB56 hB6 HREST HB5 hnews hold hsr
          go_wp2
          refine ⟨HREL.out, ?_⟩
          simp [intOf]
          omega
      · obtain ⟨j, rfl⟩ : ∃ j, k = j + 1 := ⟨k - 1, by omega⟩
        obtain ⟨P, hP, p0⟩ := HPREV.out j rfl
        have HP := Lib.hid hP
        clear hP
        have o1 : decide ((0 : Int) < ((j + 1 : Nat) : Int)) = true := by first | (simp; done) | (simp; omega)
        have o1' : decide (0 < j + 1) = true := by simp
        have o2 : IntKind.i64.wrap (((j + 1 : Nat) : Int) - 1) = (j : Int) := by rw [IntWalk.i64_in _ (by omega)]; omega
        have o3 : (j : Int) < (n : Int) := by omega
        have pc := kc p0 HB2.out
        have HV := Lib.hid hv
        clear hv
        by_cases hord : (T : Int) < P
        · have o4 : decide ((T : Int) < P) = true := by simpa using hord
          have hv := HV.out
          rw [if_pos ⟨by omega, by rw [HP.out]; exact hord⟩] at hv
          obtain rfl : E = 13 := by rw [← HE.out, HSTOP.out (by rw [hv]; decide) hlt, hv]
          clear hv
          go_wp2_with fail
          go_quiet (fail)
          have hBf := below_drewN HB2.out
          go_wp2
          refine bodyPost_ret (by simp [results, Tryd.results13, go_sem] <;> rfl) rfl ?_
          exact WriteP.err (by decide) (hBf _)
        · have o4 : decide ((T : Int) < P) = false := by simpa using hord
          go_wp2_with fail
          go_quiet (fail)
          generalize hX : World.drewN w2 _ = X
          have hVX : Below w2.heap.size w2 X := by rw [← hX]; exact below_drewN (Below.refl _ _) _
          have HBX := Lib.hid (HB2.out.trans (hVX.mono HB2.out.size))
          have hOX := HO2.out.below hVX
          have hbyX := HBY2.out.below hVX
          have r0 := kc d0 hVX
          have r1 := kc d1 hVX
          have r2 := kc d2 hVX
          have r3 := kc d3 hVX
          have r4 := kc d4 hVX
          have hby5 := rbytes_any T C F K L ra rc bs HL.out X hbyX (by omega) (by omega) (by omega) (by omega) (by omega)
          have HBT := Lib.hid hby5
          have HOX := Lib.hid hOX
          have hbr2 : b < X.heap.size := Nat.lt_of_lt_of_le hb2 hVX.size
          clear hX hVX hOX hbyX hby5 HB2 HO2 HBY2 d0 d1 d2 d3 d4
          go_wp2_with fail
          refine HBT.out.mono ?_
          rintro e w5 ⟨v5, rfl, hown5, hB5⟩
          have HB5 := Lib.hid (HBX.out.trans (hB5.mono HBX.out.size))
          have hO5 := HOX.out.below hB5
          obtain ⟨R, hR⟩ : ∃ R, recB ⟨(T : Int), (C : Int), (F : Int), (K : Int), bs⟩ = R := ⟨_, rfl⟩
          have hsuc := HSUCC.out
          rw [hR] at hown5 hsuc
          have hRlen : R.length = 16 + L := by rw [← hR, recB_len, HL.out]
          have hlen1 := HLEN.out
          obtain ⟨J, hJ⟩ : ∃ J, wrB l (j + 1) = J := ⟨_, rfl⟩
          rw [hJ] at hsuc hO5 hlen1
          have hcw : cpW l ((j + 1) + 1) = 0 := by
            rw [HSTEP.out, HV.out]
            rw [if_neg (by rw [HP.out]; exact fun h => absurd h.2 (by omega))]
          have hsr5 := SR.of_own hown5 (bcells_one _) (by unfold maxLen; omega)
          have hbase := HB5.out.size
          have HREST : Hid (∀ (v6 : Value) (w6 : World), w6.ownsRow w.heap.size 5 1 v6 (J.length + (16 + L)) (bcells J ++ bcells R) → Below w.heap.size w w6 → ∃ k2 : Nat, Value.int .i64 ((j : Int) + 1 + 1) = .int .i64 k2 ∧ k2 ≤ n ∧ Hid (Out w.heap.size w6 v6 (wrB l k2)) ∧ Hid (cpW l k2 = 0) ∧ Below w.heap.size w w6) :=
            Lib.hid fun v6 w6 h6 hb6 => ⟨(j + 1) + 1, by simp, hlt, Lib.hid (.inl (by rw [hsuc, List.length_append, hRlen]; simpa [bcells] using h6)), Lib.hid hcw, hb6⟩
          clear hB5 HBT HOX HBX hcw hsuc hR hJ HSUCC HSTEP HSTOP HLEN HV HPREV r0 r1 r2 r3 r4
          rcases hO5 with hown | ⟨hmag, hv, hsr⟩
          · go_wp2_with (at_builtin; refine wpList_append_all rfl _ _ 25 rfl w.heap.size 5 i0 (.int .u8 0) 1 1 Tryd.underlying25 hi hz0 hz1 hz2 rfl (by decide) _ J.length _ rfl hown _ (16 + L) (bcells R) rfl hsr5 (by unfold maxLen; omega) (by omega) hbase ?_)
            intro v6 w6 hown6 hg6 _
            have hB6 := HB5.out.grown hg6 hbase (fun q hq => (hown.lt q hq).1)
            have HREL := Lib.hid (HREST.out _ _ hown6 hB6)
            clear hown hown5 hown6 hg6 hB6 HREST HB5 hsr5
            go_wp2
            refine ⟨HREL.out, ?_⟩
            simp [intOf]
            omega
          · subst hmag
            subst hv
            obtain ⟨g5, c5, hv5⟩ := ownsRow_succ (k := 15 + L) (by rw [show 15 + L + 1 = 16 + L by omega]; exact hown5)
            rw [show 15 + L + 1 = 16 + L by omega] at hv5
            subst hv5
            have hn5 : (bcells R).length = (16 + L) * 1 := by rw [bcells_len, hRlen, Nat.mul_one]
            have hnews : ∀ j u, (bcells R)[j]? = some u → w5.cell? ((⟨g5, 0, none⟩ : Addr).add j) = some u := fun j u hj => by
              rw [addr_add, Nat.zero_add]
              have hjl := (List.getElem?_eq_some_iff.1 hj).1
              have := hown5.cellAt j (by rw [hn5] at hjl; exact hjl)
              rw [this]; exact hj
            have hold : ∀ j u, (bcells mag)[j]? = some u → w5.cell? ((⟨w.heap.size, 0, none⟩ : Addr).add j) = some u := fun j u hj => by
              obtain ⟨_, _, _, ao, cp, e, _, hc⟩ := hsr
              cases e
              obtain ⟨b', o', e', _, hc'⟩ := hc (by decide)
              cases e'
              rw [addr_add]
              exact hc' j u hj
            go_wp2_with (at_builtin; refine wpList_append_over rfl _ _ 25 rfl w.heap.size 5 i0 (.int .u8 0) 1 1 Tryd.underlying25 hi hz0 hz1 hz2 rfl ⟨w.heap.size, 0, none⟩ 4 4 (bcells mag) rfl rfl hold ⟨g5, 0, none⟩ (16 + L) c5 (bcells R) rfl hn5 hnews (by omega) (by unfold maxLen; omega) (by omega) hbase ?_)
            intro v6 w6 hown6 hB56
            have hB6 := HB5.out.trans (hB56.mono HB5.out.size)
            have HREL := Lib.hid (HREST.out _ _ hown6 hB6)
            clear hown5 hown6 hB56 hB6 HREST HB5 hnews hold hsr
            go_wp2
            refine ⟨HREL.out, ?_⟩
            simp [intOf]
            omega
    · have hk2 : k = n := by omega
      subst hk2
      have g1 : decide (k < k) = false := by simp
      obtain rfl : E = 0 := by rw [← HE.out, hok.out]
      have hlen := wrB_len l k hok.out (by rw [HN.out]; exact Nat.le_refl _)
      have hb := hout.out.bytes (wrB_lt l k HLT.out) (by omega)
      have HB := Lib.hid hb
      clear hout hb hlen
      go_wp2
      refine bodyPost_ret (by simp [results, Tryd.results13, go_sem] <;> rfl) rfl ?_
      exact ⟨_, rfl, hB, fun _ => HB.out, fun h => absurd rfl h⟩
end Go.Proofs.YtccknpdnapoboaaDoor
