/- capture.Write: the walk. -/
import Derived.Test.YtccknpdnapoboaaDoorCpW
namespace Go.Proofs.YtccknpdnapoboaaDoor
open Go.RowKit

set_option linter.unusedSimpArgs false in
set_option linter.unusedVariables false in
set_option maxRecDepth 100000 in
set_option maxHeartbeats 4000000 in
theorem write_any (v : Value) (l : List Cp) (w : World) (hs : Sums w) (h : Cps w v l) (hm : l.length ≤ 1000) :
    Calls Tryd.prog 11 #[v] w (WriteP w l l.length (cpW l l.length)) := by
  obtain ⟨i0, hi, hz0, hz1, hz2⟩ := info_parts Tryd.info_u8
  have hblt := h.lt
  obtain ⟨_, ao, cap, rfl, hcell⟩ := h
  obtain ⟨n, hn⟩ : ∃ n, l.length = n := ⟨_, rfl⟩
  rw [hn] at hm ⊢
  have HN := Lib.hid hn
  have HC := Lib.hid hcell
  have HS := Lib.hid hs
  have HLT := Lib.hid hblt
  have kcv := fun (W : World) (C : Array Value) (n c : Nat) => Lib.run_convert_bytes_const (P := Tryd.prog) W 25 5 C n c Tryd.underlying25 Tryd.underlying5
  obtain ⟨E, hE⟩ : ∃ E, cpW l n = E := ⟨_, rfl⟩
  rw [hE]
  have HE := Lib.hid hE
  have hnew : ∀ j u, (bcells mag)[j]? = some u → (w.alloc (.cells #[.int .u8 65, .int .u8 73, .int .u8 82, .int .u8 49] 5 (4, 5))).cell? ⟨w.heap.size, j, none⟩ = some u := fun j u hj => by
    rw [World.cell?_alloc_mark]
    simpa [bcells, mag] using hj
  have HO : Hid (Out w.heap.size (w.alloc (.cells #[.int .u8 65, .int .u8 73, .int .u8 82, .int .u8 49] 5 (4, 5))) (.slice (some ⟨w.heap.size, 0, none⟩) 4 4) (wrB l 0)) :=
    Lib.hid (.inr ⟨by simp [wrB], rfl, by unfold maxLen; omega, rfl, bcells_one _, some ⟨w.heap.size, 0, none⟩, 4, rfl, fun h => (by cases h), fun _ => ⟨w.heap.size, 0, rfl, by simp, fun j u hj => by rw [Nat.zero_add]; exact hnew j u hj⟩⟩)
  clear hn hcell hs hE hnew hblt
  go_enter Tryd.func11, Tryd.ntmps11
  go_wp2
  clear kcv
  go_loopw [4, 5, 6, 7, 8, 9, 14] (fun out _ _ _ _ _ i wr => ∃ k : Nat, i = .int .i64 k ∧ k ≤ n ∧ Hid (Out w.heap.size wr out (wrB l k)) ∧ Hid (cpW l k = 0) ∧ Below w.heap.size w wr) (fun _ _ _ _ _ _ i _ => n - (intOf i).toNat)
  case atStart => exact ⟨0, by simp, Nat.zero_le _, HO, Lib.hid rfl, (Below.refl _ _).alloc (Nat.le_refl _) _⟩
  case round =>
    clear HO
    obtain ⟨k, rfl, hk, hout, hok, hB⟩ := hrel
    by_cases hlt : k < n
    · have g1 : decide (k < n) = true := by simpa using hlt
      have hkl : k < l.length := by rw [HN.out]; exact hlt
      obtain ⟨b, off, rfl, hb, hx⟩ := HC.out (by rw [HN.out]; omega)
      obtain ⟨ra, rc, d0, d1, d2, d3, d4, hby⟩ := (hx k hkl).below hB
      have hv := cpE_get hkl
      have hstop := cpW_stop l k n hok.out
      have hstep := cpW_step l k hok.out
      have hsucc := wrB_succ l k hkl
      have hlen := wrB_len l k hok.out (by omega)
      obtain ⟨⟨T, C, F, K, bs⟩, he⟩ : ∃ t, l[k] = t := ⟨_, rfl⟩
      have hprev : ∀ j, k = j + 1 → ∃ P : Int, (l.getD (k - 1) default).t = P ∧ w.cell? ⟨b, off + j * 5, none⟩ = some (.int .i64 P) := fun j hj => by
        subst hj
        have hjl : j < l.length := by omega
        obtain ⟨_, _, p0, _⟩ := hx j hjl
        refine ⟨_, ?_, p0⟩
        rw [Nat.add_sub_cancel, List.getD_eq_getElem?_getD, List.getElem?_eq_getElem hjl, Option.getD_some]
      rw [he] at d0 d1 d2 d3 d4 hby hv hsucc
      simp only at d0 d1 d2 d3 d4 hby hv
      obtain ⟨L, hL⟩ : ∃ L, bs.length = L := ⟨_, rfl⟩
      rw [hL] at d4 hby
      have hbr : b < wr.heap.size := Nat.lt_of_lt_of_le hb hB.size
      have hi1 : (k : Int) < (n : Int) := by omega
      have w1 : IntKind.i64.wrap ((k : Int) + 1) = (k : Int) + 1 := IntWalk.i64_in _ (by omega)
      have hck := fun W => check_any T C F K ra L rc bs hL W
      have hok2 : cpE ⟨T, C, F, K, bs⟩ = 0 → (0 ≤ T ∧ T ≤ 1099511627776) ∧ (0 ≤ C ∧ C ≤ 39) ∧ (0 ≤ F ∧ F ≤ 7) ∧ (0 ≤ K ∧ K ≤ 4) ∧ L ≤ 260 := fun h => by have := cpE_ok h; simpa only [hL] using this
      obtain ⟨EC, hEC⟩ : ∃ E, cpE ⟨T, C, F, K, bs⟩ = E := ⟨_, rfl⟩
      simp only [hEC] at hck hv hok2
      have HCK := Lib.hid hck
      have HSTOP := Lib.hid hstop
      have HSTEP := Lib.hid hstep
      have HSUCC := Lib.hid hsucc
      have HLEN := Lib.hid hlen
      have HBY := Lib.hid hby
      have HL := Lib.hid hL
      have HOK2 := Lib.hid hok2
      have HV := Lib.hid hv
      have HPREV := Lib.hid hprev
      clear hck hstop hstep hsucc hlen hby hL hok2 hprev hx he hEC hkl hv
      by_cases hE0 : EC = 0
      · subst hE0
        obtain ⟨⟨hT0, hT1⟩, ⟨hC0, hC1⟩, ⟨hF0, hF1⟩, ⟨hK0, hK1⟩, hL1⟩ := HOK2.out rfl
        obtain ⟨T, rfl⟩ := Int.eq_ofNat_of_zero_le hT0
        obtain ⟨C, rfl⟩ := Int.eq_ofNat_of_zero_le hC0
        obtain ⟨F, rfl⟩ := Int.eq_ofNat_of_zero_le hF0
        obtain ⟨K, rfl⟩ := Int.eq_ofNat_of_zero_le hK0
        have cT : IntKind.u64.wrap (T : Int) = (T : Int) := IntWalk.u64_in _ (by omega)
        have cC : IntKind.u64.wrap (C : Int) = (C : Int) := IntWalk.u64_in _ (by omega)
        have cF : IntKind.u64.wrap (F : Int) = (F : Int) := IntWalk.u64_in _ (by omega)
        have cK : IntKind.u64.wrap (K : Int) = (K : Int) := IntWalk.u64_in _ (by omega)
        have cL : IntKind.u64.wrap (L : Int) = (L : Int) := IntWalk.u64_in _ (by omega)
        by_cases hk0 : k = 0
        · subst hk0
          simp only [Nat.zero_mul, Nat.add_zero] at d0 d1 d2 d3 d4
          go_wp2_with fail
          refine (HCK.out _).mono ?_
          rintro e w2 ⟨rfl, hB2⟩
          have bR := (Blk.new wr 35 [.int .i64 (T : Int), .int .i64 (C : Int), .int .i64 (F : Int), .int .i64 (K : Int), .slice ra L rc]).below hB2
          have hBw : Below wr.heap.size wr w2 := ((Below.refl wr.heap.size wr).alloc (Nat.le_refl _) (.cells #[.int .i64 (T : Int), .int .i64 (C : Int), .int .i64 (F : Int), .int .i64 (K : Int), .slice ra L rc] 35)).trans (hB2.mono (by simp))
          have qq0 := bR.cell (j := 0) rfl
          have hBW := Lib.hid (hB.trans (hBw.mono hB.size))
          have hOW := Lib.hid (hout.out.below hBw)
          have hBY := Lib.hid (HBY.out.below hBw)
          have hBR := Lib.hid bR
          clear hB2 bR hBw HCK hB hout HBY
          go_wp2_with fail
          go_quiet (fail)
          generalize hX : World.drewN w2 _ = X
          have hB2X : Below w2.heap.size w2 X := by rw [← hX]; exact below_drewN (Below.refl _ _) _
          have bX := hBR.out.below hB2X
          have hBX := Lib.hid (hBW.out.trans (hB2X.mono hBW.out.size))
          have hOX := Lib.hid (hOW.out.below hB2X)
          have hYX := Lib.hid (hBY.out.below hB2X)
          have r0 := bX.cell (j := 0) rfl
          have r1 := bX.cell (j := 1) rfl
          have r2 := bX.cell (j := 2) rfl
          have r3 := bX.cell (j := 3) rfl
          have r4 := bX.cell (j := 4) rfl
          have HBRX := Lib.hid bX
          clear hX hB2X bX hBR hBW hOW hBY qq0
          go_wp2_with fail
          refine (put5_any T C F K L (by omega) (by omega) (by omega) (by omega) (by omega) X).mono ?_
          rintro e w3 ⟨a3, c3, rfl, hb3, hB3⟩
          have bR3 := HBRX.out.below hB3
          have s4 := bR3.cell (j := 4) rfl
          have hj := join2_any (.slice a3 13 c3) (.slice ra L rc) _ bs 25 w3 hb3 (hYX.out.below hB3) (by rw [HL.out]; simp [fdb, putB_len]; omega)
          have hfr := fdb_rec T C F K bs
          rw [HL.out] at hfr
          rw [hfr] at hj
          have HB3 := Lib.hid (hBX.out.trans (hB3.mono hBX.out.size))
          have HO3 := Lib.hid (hOX.out.below hB3)
          have HJ := Lib.hid hj
          have hrl := recD_lt ⟨(T : Int), (C : Int), (F : Int), (K : Int), bs⟩ hYX.out.2.2
          have hrn := recD_len ⟨(T : Int), (C : Int), (F : Int), (K : Int), bs⟩
          have hBlen : recB ⟨(T : Int), (C : Int), (F : Int), (K : Int), bs⟩ = recD ⟨(T : Int), (C : Int), (F : Int), (K : Int), bs⟩ ++ putB (sumF 0 (recD ⟨(T : Int), (C : Int), (F : Int), (K : Int), bs⟩)) 3 := rfl
          have hblt := recB_lt ⟨(T : Int), (C : Int), (F : Int), (K : Int), bs⟩ hYX.out.2.2
          rw [HL.out] at hrn
          have HRL := Lib.hid hrl
          have HRN := Lib.hid hrn
          have HBL := Lib.hid hBlen
          have HBLT := Lib.hid hblt
          clear hB3 bR3 hb3 hj hfr hrl hrn hBlen hblt HBRX hBX hOX hYX r0 r1 r2 r3 r4
          generalize hRD : recD ⟨(T : Int), (C : Int), (F : Int), (K : Int), bs⟩ = D at HJ HRL HRN HBL
          go_wp2_with fail
          refine HJ.out.mono ?_
          rintro e w4 ⟨v4, rfl, hown4, hB4⟩
          have hB34 : Below w3.heap.size w3 w4 := ((Below.refl w3.heap.size w3).alloc (Nat.le_refl _) (.cells #[.slice a3 13 c3, .slice ra L rc] 25)).trans (hB4.mono (by simp))
          have HB4 := Lib.hid (HB3.out.trans (hB34.mono HB3.out.size))
          have HO4 := Lib.hid (HO3.out.below hB34)
          have hb4 := bytesAt_of_own hown4 rfl HRL.out (by rw [HRN.out]; omega)
          have hap := append_any v4 D w4 (HS.out.keep HB4.out) hb4 (by rw [HRN.out]; omega)
          rw [HRN.out, ← HBL.out] at hap
          have HAP := Lib.hid hap
          clear hB4 hB34 hown4 hb4 hap HB3 HO3 HJ s4
          go_wp2_with fail
          refine HAP.out.mono ?_
          rintro e w5 ⟨v5, rfl, hown5, hB5⟩
          have HB5 := Lib.hid (HB4.out.trans (hB5.mono HB4.out.size))
          have hO5 := HO4.out.below hB5
          obtain ⟨R, hR⟩ : ∃ R, recB ⟨(T : Int), (C : Int), (F : Int), (K : Int), bs⟩ = R := ⟨_, rfl⟩
          have hsuc := HSUCC.out
          rw [hR] at hown5 hsuc
          have hbl := HBLT.out
          rw [hR] at hbl
          have hRlen : R.length = 16 + L := by rw [← hR, recB_len, HL.out]
          have hlen1 := HLEN.out
          obtain ⟨J, hJ⟩ : ∃ J, wrB l 0 = J := ⟨_, rfl⟩
          rw [hJ] at hsuc hO5 hlen1
          have hcw : cpW l (0 + 1) = 0 := by
            rw [HSTEP.out, HV.out]
            simp
          have REST : Hid (∀ (v6 : Value) (w6 : World), w6.ownsRow w.heap.size 5 1 v6 (J.length + (13 + L + 3)) (bcells J ++ bcells R) → Below w.heap.size w w6 → ∃ k2 : Nat, Value.int .i64 1 = .int .i64 k2 ∧ k2 ≤ n ∧ Hid (Out w.heap.size w6 v6 (wrB l k2)) ∧ Hid (cpW l k2 = 0) ∧ Below w.heap.size w w6) :=
            Lib.hid fun v6 w6 h6 hb6 => ⟨0 + 1, by simp, hlt, Lib.hid (.inl (by rw [hsuc, List.length_append, hRlen, show 16 + L = 13 + L + 3 by omega]; simpa [bcells] using h6)), Lib.hid hcw, hb6⟩
          have hbase := HB5.out.size
          have hn5 : (bcells R).length = (13 + L + 3) * 1 := by rw [bcells_len, hRlen]; omega
          clear hB5 HAP HB4 HO4 hcw hsuc hR hbl hRlen hRD hJ HSUCC HSTEP HSTOP HLEN HV HPREV HOK2
          rcases hO5 with hown | ⟨hmag, hv, hsr⟩
          · obtain ⟨g5, c5, rfl⟩ := ownsRow_succ (k := 13 + L + 2) hown5
            have hnews : ∀ j u, (bcells R)[j]? = some u → w5.cell? ((⟨g5, 0, none⟩ : Addr).add j) = some u := fun j u hj => by
              rw [addr_add, Nat.zero_add]
              have hjl := (List.getElem?_eq_some_iff.1 hj).1
              have := hown5.cellAt j (by rw [hn5] at hjl; exact hjl)
              rw [this]; exact hj
            go_wp2_with (at_builtin; refine wpList_append_own_at _ rfl _ _ 25 rfl w.heap.size 5 i0 (.int .u8 0) 1 1 Tryd.underlying25 hi hz0 hz1 hz2 rfl (by decide) _ _ _ rfl hown ⟨g5, 0, none⟩ (13 + L + 3) c5 (bcells R) rfl hn5 hnews (bcells_one _) (by unfold maxLen; omega) (by omega) hbase ?_)
            intro v6 w6 hown6 hg6 _ _
            have hB6 := HB5.out.grown hg6 hbase (fun q hq => (hown.lt q hq).1)
            have HREL := Lib.hid (REST.out _ _ hown6 hB6)
            clear hown hown5 hown6 hg6 hB6 REST HB5 hnews
            go_wp2
            refine ⟨HREL.out, ?_⟩
            simp [intOf]
            omega
          · subst hmag
            subst hv
            obtain ⟨g5, c5, rfl⟩ := ownsRow_succ (k := 13 + L + 2) hown5
            have hnews : ∀ j u, (bcells R)[j]? = some u → w5.cell? ((⟨g5, 0, none⟩ : Addr).add j) = some u := fun j u hj => by
              rw [addr_add, Nat.zero_add]
              have hjl := (List.getElem?_eq_some_iff.1 hj).1
              have := hown5.cellAt j (by rw [hn5] at hjl; exact hjl)
              rw [this]; exact hj
            have hold : ∀ j u, (bcells mag)[j]? = some u → w5.cell? ((⟨w.heap.size, 0, none⟩ : Addr).add j) = some u := fun j u hj => by
              obtain ⟨_, _, _, ao, cp, e, _, hc⟩ := hsr
              cases e
              obtain ⟨b', o', e', _, hc'⟩ := hc (by decide)
              cases e'
              rw [addr_add]
              exact hc' j u hj
            go_wp2_with (at_builtin; refine wpList_append_over rfl _ _ 25 rfl w.heap.size 5 i0 (.int .u8 0) 1 1 Tryd.underlying25 hi hz0 hz1 hz2 rfl ⟨w.heap.size, 0, none⟩ 4 4 (bcells mag) rfl rfl hold ⟨g5, 0, none⟩ (13 + L + 3) c5 (bcells R) rfl hn5 hnews (by omega) (by unfold maxLen; omega) (by omega) hbase ?_)
            intro v6 w6 hown6 hB56
            have hB6 := HB5.out.trans (hB56.mono HB5.out.size)
            have HREL := Lib.hid (REST.out _ _ hown6 hB6)
            clear hown5 hown6 hB56 hB6 REST HB5 hnews hold hsr
            go_wp2
            refine ⟨HREL.out, ?_⟩
            simp [intOf]
            omega
        · obtain ⟨j, rfl⟩ : ∃ j, k = j + 1 := ⟨k - 1, by omega⟩
          obtain ⟨P, hP, p0⟩ := HPREV.out j rfl
          have HP := Lib.hid hP
          clear hP
          have o1 : decide ((0 : Int) < ((j + 1 : Nat) : Int)) = true := by first | (simp; done) | (simp; omega)
          have o1' : decide (0 < j + 1) = true := by simp
          have o2 : IntKind.i64.wrap (((j + 1 : Nat) : Int) - 1) = (j : Int) := by rw [IntWalk.i64_in _ (by omega)]; omega
          have o3 : (j : Int) < (n : Int) := by omega
          go_wp2_with fail
          refine (HCK.out _).mono ?_
          rintro e w2 ⟨rfl, hB2⟩
          have bR := (Blk.new wr 35 [.int .i64 (T : Int), .int .i64 (C : Int), .int .i64 (F : Int), .int .i64 (K : Int), .slice ra L rc]).below hB2
          have hBw : Below wr.heap.size wr w2 := ((Below.refl wr.heap.size wr).alloc (Nat.le_refl _) (.cells #[.int .i64 (T : Int), .int .i64 (C : Int), .int .i64 (F : Int), .int .i64 (K : Int), .slice ra L rc] 35)).trans (hB2.mono (by simp))
          have qq0 := bR.cell (j := 0) rfl
          have hBW := Lib.hid (hB.trans (hBw.mono hB.size))
          have hOW := Lib.hid (hout.out.below hBw)
          have hBY := Lib.hid (HBY.out.below hBw)
          have hBR := Lib.hid bR
          clear hB2 bR hBw HCK hB hout HBY
          have pc := kc p0 hBW.out
          by_cases hord : T < P
          · have o4 : decide ((T : Int) < P) = true := by simpa using hord
            have hv := HV.out
            rw [if_neg (by simp), if_pos ⟨by omega, by rw [HP.out]; exact hord⟩] at hv
            obtain rfl : E = 13 := by rw [← HE.out, HSTOP.out (by rw [hv]; decide) hlt, hv]
            clear hv
            go_wp2_with fail
            go_quiet (fail)
            have hBf := below_drewN hBW.out
            go_wp2
            refine bodyPost_ret (by simp [results, Tryd.results11, go_sem] <;> rfl) rfl ?_
            exact WriteP.err (by decide) (hBf _)
          · have o4 : decide ((T : Int) < P) = false := by simpa using hord
            go_wp2_with fail
            go_quiet (fail)
            generalize hX : World.drewN w2 _ = X
            have hB2X : Below w2.heap.size w2 X := by rw [← hX]; exact below_drewN (Below.refl _ _) _
            have bX := hBR.out.below hB2X
            have hBX := Lib.hid (hBW.out.trans (hB2X.mono hBW.out.size))
            have hOX := Lib.hid (hOW.out.below hB2X)
            have hYX := Lib.hid (hBY.out.below hB2X)
            have r0 := bX.cell (j := 0) rfl
            have r1 := bX.cell (j := 1) rfl
            have r2 := bX.cell (j := 2) rfl
            have r3 := bX.cell (j := 3) rfl
            have r4 := bX.cell (j := 4) rfl
            have HBRX := Lib.hid bX
            clear hX hB2X bX hBR hBW hOW hBY qq0
            go_wp2_with fail
            refine (put5_any T C F K L (by omega) (by omega) (by omega) (by omega) (by omega) X).mono ?_
            rintro e w3 ⟨a3, c3, rfl, hb3, hB3⟩
            have bR3 := HBRX.out.below hB3
            have s4 := bR3.cell (j := 4) rfl
            have hj := join2_any (.slice a3 13 c3) (.slice ra L rc) _ bs 25 w3 hb3 (hYX.out.below hB3) (by rw [HL.out]; simp [fdb, putB_len]; omega)
            have hfr := fdb_rec T C F K bs
            rw [HL.out] at hfr
            rw [hfr] at hj
            have HB3 := Lib.hid (hBX.out.trans (hB3.mono hBX.out.size))
            have HO3 := Lib.hid (hOX.out.below hB3)
            have HJ := Lib.hid hj
            have hrl := recD_lt ⟨(T : Int), (C : Int), (F : Int), (K : Int), bs⟩ hYX.out.2.2
            have hrn := recD_len ⟨(T : Int), (C : Int), (F : Int), (K : Int), bs⟩
            have hBlen : recB ⟨(T : Int), (C : Int), (F : Int), (K : Int), bs⟩ = recD ⟨(T : Int), (C : Int), (F : Int), (K : Int), bs⟩ ++ putB (sumF 0 (recD ⟨(T : Int), (C : Int), (F : Int), (K : Int), bs⟩)) 3 := rfl
            have hblt := recB_lt ⟨(T : Int), (C : Int), (F : Int), (K : Int), bs⟩ hYX.out.2.2
            rw [HL.out] at hrn
            have HRL := Lib.hid hrl
            have HRN := Lib.hid hrn
            have HBL := Lib.hid hBlen
            have HBLT := Lib.hid hblt
            clear hB3 bR3 hb3 hj hfr hrl hrn hBlen hblt HBRX hBX hOX hYX r0 r1 r2 r3 r4
            generalize hRD : recD ⟨(T : Int), (C : Int), (F : Int), (K : Int), bs⟩ = D at HJ HRL HRN HBL
            go_wp2_with fail
            refine HJ.out.mono ?_
            rintro e w4 ⟨v4, rfl, hown4, hB4⟩
            have hB34 : Below w3.heap.size w3 w4 := ((Below.refl w3.heap.size w3).alloc (Nat.le_refl _) (.cells #[.slice a3 13 c3, .slice ra L rc] 25)).trans (hB4.mono (by simp))
            have HB4 := Lib.hid (HB3.out.trans (hB34.mono HB3.out.size))
            have HO4 := Lib.hid (HO3.out.below hB34)
            have hb4 := bytesAt_of_own hown4 rfl HRL.out (by rw [HRN.out]; omega)
            have hap := append_any v4 D w4 (HS.out.keep HB4.out) hb4 (by rw [HRN.out]; omega)
            rw [HRN.out, ← HBL.out] at hap
            have HAP := Lib.hid hap
            clear hB4 hB34 hown4 hb4 hap HB3 HO3 HJ s4
            go_wp2_with fail
            refine HAP.out.mono ?_
            rintro e w5 ⟨v5, rfl, hown5, hB5⟩
            have HB5 := Lib.hid (HB4.out.trans (hB5.mono HB4.out.size))
            have hO5 := HO4.out.below hB5
            obtain ⟨R, hR⟩ : ∃ R, recB ⟨(T : Int), (C : Int), (F : Int), (K : Int), bs⟩ = R := ⟨_, rfl⟩
            have hsuc := HSUCC.out
            rw [hR] at hown5 hsuc
            have hbl := HBLT.out
            rw [hR] at hbl
            have hRlen : R.length = 16 + L := by rw [← hR, recB_len, HL.out]
            have hlen1 := HLEN.out
            obtain ⟨J, hJ⟩ : ∃ J, wrB l (j + 1) = J := ⟨_, rfl⟩
            rw [hJ] at hsuc hO5 hlen1
            have hcw : cpW l ((j + 1) + 1) = 0 := by
              rw [HSTEP.out, HV.out]
              rw [if_neg (by simp), if_neg (by rw [HP.out]; exact fun h => absurd h.2 (by omega))]
            have REST : Hid (∀ (v6 : Value) (w6 : World), w6.ownsRow w.heap.size 5 1 v6 (J.length + (13 + L + 3)) (bcells J ++ bcells R) → Below w.heap.size w w6 → ∃ k2 : Nat, Value.int .i64 ((j : Int) + 1 + 1) = .int .i64 k2 ∧ k2 ≤ n ∧ Hid (Out w.heap.size w6 v6 (wrB l k2)) ∧ Hid (cpW l k2 = 0) ∧ Below w.heap.size w w6) :=
              Lib.hid fun v6 w6 h6 hb6 => ⟨(j + 1) + 1, by simp, hlt, Lib.hid (.inl (by rw [hsuc, List.length_append, hRlen, show 16 + L = 13 + L + 3 by omega]; simpa [bcells] using h6)), Lib.hid hcw, hb6⟩
            have hbase := HB5.out.size
            have hn5 : (bcells R).length = (13 + L + 3) * 1 := by rw [bcells_len, hRlen]; omega
            clear hB5 HAP HB4 HO4 hcw hsuc hR hbl hRlen hRD hJ HSUCC HSTEP HSTOP HLEN HV HPREV HOK2
            rcases hO5 with hown | ⟨hmag, hv, hsr⟩
            · obtain ⟨g5, c5, rfl⟩ := ownsRow_succ (k := 13 + L + 2) hown5
              have hnews : ∀ j u, (bcells R)[j]? = some u → w5.cell? ((⟨g5, 0, none⟩ : Addr).add j) = some u := fun j u hj => by
                rw [addr_add, Nat.zero_add]
                have hjl := (List.getElem?_eq_some_iff.1 hj).1
                have := hown5.cellAt j (by rw [hn5] at hjl; exact hjl)
                rw [this]; exact hj
              go_wp2_with (at_builtin; refine wpList_append_own_at _ rfl _ _ 25 rfl w.heap.size 5 i0 (.int .u8 0) 1 1 Tryd.underlying25 hi hz0 hz1 hz2 rfl (by decide) _ _ _ rfl hown ⟨g5, 0, none⟩ (13 + L + 3) c5 (bcells R) rfl hn5 hnews (bcells_one _) (by unfold maxLen; omega) (by omega) hbase ?_)
              intro v6 w6 hown6 hg6 _ _
              have hB6 := HB5.out.grown hg6 hbase (fun q hq => (hown.lt q hq).1)
              have HREL := Lib.hid (REST.out _ _ hown6 hB6)
              clear hown hown5 hown6 hg6 hB6 REST HB5 hnews
              go_wp2
              refine ⟨HREL.out, ?_⟩
              simp [intOf]
              omega
            · subst hmag
              subst hv
              obtain ⟨g5, c5, rfl⟩ := ownsRow_succ (k := 13 + L + 2) hown5
              have hnews : ∀ j u, (bcells R)[j]? = some u → w5.cell? ((⟨g5, 0, none⟩ : Addr).add j) = some u := fun j u hj => by
                rw [addr_add, Nat.zero_add]
                have hjl := (List.getElem?_eq_some_iff.1 hj).1
                have := hown5.cellAt j (by rw [hn5] at hjl; exact hjl)
                rw [this]; exact hj
              have hold : ∀ j u, (bcells mag)[j]? = some u → w5.cell? ((⟨w.heap.size, 0, none⟩ : Addr).add j) = some u := fun j u hj => by
                obtain ⟨_, _, _, ao, cp, e, _, hc⟩ := hsr
                cases e
                obtain ⟨b', o', e', _, hc'⟩ := hc (by decide)
                cases e'
                rw [addr_add]
                exact hc' j u hj
              go_wp2_with (at_builtin; refine wpList_append_over rfl _ _ 25 rfl w.heap.size 5 i0 (.int .u8 0) 1 1 Tryd.underlying25 hi hz0 hz1 hz2 rfl ⟨w.heap.size, 0, none⟩ 4 4 (bcells mag) rfl rfl hold ⟨g5, 0, none⟩ (13 + L + 3) c5 (bcells R) rfl hn5 hnews (by omega) (by unfold maxLen; omega) (by omega) hbase ?_)
              intro v6 w6 hown6 hB56
              have hB6 := HB5.out.trans (hB56.mono HB5.out.size)
              have HREL := Lib.hid (REST.out _ _ hown6 hB6)
              clear hown5 hown6 hB56 hB6 REST HB5 hnews hold hsr
              go_wp2
              refine ⟨HREL.out, ?_⟩
              simp [intOf]
              omega
      · have t1 : (EC == 0) = false := by simpa using hE0
        have hv := HV.out
        rw [if_pos hE0] at hv
        obtain rfl : EC = E := by rw [← HE.out, HSTOP.out (by rw [hv]; exact hE0) hlt, hv]
        clear hv
        go_wp2_with fail
        refine (HCK.out _).mono ?_
        rintro e w2 ⟨rfl, hB2⟩
        have hBf := hB.trans ((((Below.refl wr.heap.size wr).alloc (Nat.le_refl _) (.cells #[.int .i64 T, .int .i64 C, .int .i64 F, .int .i64 K, .slice ra L rc] 35)).trans (hB2.mono (by simp))).mono hB.size)
        clear hB2 HCK
        go_wp2
        refine bodyPost_ret (by simp [results, Tryd.results11, go_sem] <;> rfl) rfl ?_
        exact WriteP.err hE0 hBf
    · have g1 : decide (k < n) = false := by simpa using hlt
      obtain rfl : k = n := by omega
      obtain rfl : E = 0 := by rw [← HE.out]; exact hok.out
      go_wp2
      refine bodyPost_ret (by simp [results, Tryd.results11, go_sem] <;> rfl) rfl ?_
      exact ⟨_, rfl, hB, fun _ => hout.out.bytes (wrB_lt l k HLT.out) (by have := wrB_len l k hok.out (by rw [HN.out]; exact Nat.le_refl _); omega), fun h => absurd rfl h⟩
end Go.Proofs.YtccknpdnapoboaaDoor
