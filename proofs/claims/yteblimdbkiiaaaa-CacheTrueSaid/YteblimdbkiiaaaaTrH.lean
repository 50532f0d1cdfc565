/- cache: what is found in a database, by the reference. -/
import Derived.Test.YteblimdbkiiaaaaTrG
namespace Go.Proofs.Yteblimdbkiiaaaa
open Go.RowKit

theorem fdAt_skip {db : List At} {i : Nat} (h0 : 0 < i) (h1 : chA db (i - 1) = true) : fdAt db i = none := by
  unfold fdAt
  rw [if_pos ⟨h0, h1⟩]
theorem fdAt_sv {db : List At} {i : Nat} (h : ¬ (0 < i ∧ chA db (i - 1) = true)) (h1 : svA db i = true) : fdAt db i = some ⟨(atI db i).ha, lastOf (atI db i).ha (db.drop (i + 1)), 0, 0, ((decR (atI db i).bs).1 : Nat), ((decR (atI db i).bs).2.1 : Nat)⟩ := by
  unfold fdAt
  rw [if_neg h, if_pos h1]
theorem fdAt_ch {db : List At} {i : Nat} (h : ¬ (0 < i ∧ chA db (i - 1) = true)) (h1 : svA db i = false) (h2 : chA db i = true) : fdAt db i = some ⟨(atI db i).ha, 0, (chP (atI db i).bs).2.1, (chP (atI db i).bs).1, (chP (atI db i).bs).2.2.1, (chP (atI db i).bs).2.2.2.1⟩ := by
  unfold fdAt
  rw [if_neg h, if_neg (by rw [h1]; simp), if_pos h2]
theorem fdAt_de {db : List At} {i : Nat} (h : ¬ (0 < i ∧ chA db (i - 1) = true)) (h1 : svA db i = false) (h2 : chA db i = false) : fdAt db i = some ⟨(atI db i).ha, 0, 0, 0, (atI db i).hi, (atI db i).lo⟩ := by
  unfold fdAt
  rw [if_neg h, if_neg (by rw [h1]; simp), if_neg (by rw [h2]; simp)]
theorem fdTo_none {db : List At} {k : Nat} (h : fdAt db k = none) : fdTo db (k + 1) = fdTo db k := by rw [fdTo_succ, h]; simp
theorem fdTo_some {db : List At} {k : Nat} {x : Fd} (h : fdAt db k = some x) : fdTo db (k + 1) = fdTo db k ++ [x] := by rw [fdTo_succ, h]
theorem fdTo_len (db : List At) (k : Nat) : (fdTo db k).length ≤ k := by
  unfold fdTo
  exact Nat.le_trans (List.length_filterMap_le _ _) (by simp)
set_option linter.unusedSimpArgs false in
set_option linter.unusedVariables false in
set_option maxRecDepth 100000 in
set_option maxHeartbeats 8000000 in
theorem found_any (a : Option Addr) (n c : Nat) (db : List At) (w : World) (h : Dbs w (.slice a n c) db) (hn : db.length = n) (hm : n ≤ 1000) (hg : Gdb db) :
    Calls Try.prog 23 #[.slice a n c] w fun e w' => ∃ v', e = .returned v' ∧ SR w' v' (fdL db).length 6 (fcells (fdL db)) ∧ Below w.heap.size w w' := by
  obtain ⟨i6, hi6, hz0, hz1, hz2⟩ := info_parts Try.info_fd
  have HN := Lib.hid hn
  have HD := Lib.hid h
  have HG := Lib.hid hg
  have own0 : w.ownsRow w.heap.size 53 6 (.slice none 0 0) (fdTo db 0).length (fcells (fdTo db 0)) := ⟨rfl, .inl ⟨rfl, rfl⟩⟩
  have HOWN0 := Lib.hid own0
  clear h hn hg own0
  go_enter Try.func23, Try.ntmps23
  go_wp2_with fail
  go_loopw [3, 4, 5, 6, 7, 8, 9, 10, 11, 12, 13] (fun out v _ _ _ _ _ _ _ _ _ W => ∃ k : Nat, v = .int .i64 k ∧ k ≤ n ∧ Hid (W.ownsRow w.heap.size 53 6 out (fdTo db k).length (fcells (fdTo db k))) ∧ Below w.heap.size w W) (fun _ v _ _ _ _ _ _ _ _ _ _ => n - (intOf v).toNat)
  case atStart => exact ⟨0, by simp, Nat.zero_le _, HOWN0, Below.refl _ _⟩
  case round =>
    obtain ⟨k, rfl, hk, hown, hB⟩ := hrel
    by_cases hlt : k < n
    · have g2 : decide (k < n) = true := by simpa using hlt
      have g2i : decide ((k : Int) < (n : Int)) = true := by simp; omega
      have hlen := fdTo_len db k
      obtain ⟨b, off, rfl, hb, hat⟩ := HD.out.at HN.out (by omega)
      have HAT := Lib.hid hat
      have hl5 := HG.out.len k (by rw [HN.out]; exact hlt)
      have hchk : chA db k = chU (atI db k).hi (atI db k).lo := rfl
      have hsvk : svA db k = svU (atI db k).hi (atI db k).lo := rfl
      obtain ⟨ra, rc, d0, d1, d2, d3, d4, hcap, hby⟩ := (HAT.out (k) (by omega)).below (Below.refl w.heap.size w)
      obtain ⟨⟨ha, hh, lo, pe, bs⟩, he⟩ : ∃ r, atI db (k) = r := ⟨_, rfl⟩
      rw [he] at d0 d1 d2 d3 d4 hby hcap
      simp only at d0 d1 d2 d3 d4 hby hcap
      obtain ⟨L, hL⟩ : ∃ L, bs.length = L := ⟨_, rfl⟩
      rw [hL] at d4 hby hcap
      have HBY := Lib.hid hby
      have HCAP := Lib.hid hcap
      replace d0 := kc d0 hB
      replace d1 := kc d1 hB
      replace d2 := kc d2 hB
      replace d3 := kc d3 hB
      replace d4 := kc d4 hB
      rw [he] at hchk hsvk hl5
      simp only at hchk hsvk hl5
      rw [hL] at hl5
      obtain ⟨CH, hCH⟩ : ∃ x, chU hh lo = x := ⟨_, rfl⟩
      obtain ⟨SV, hSV⟩ : ∃ x, svU hh lo = x := ⟨_, rfl⟩
      have h1 := fun W => isCh_any ha hh lo pe (.slice ra L rc) W
      have h2 := fun W => isSv_any ha hh lo pe (.slice ra L rc) W
      simp only [hCH] at h1
      simp only [hSV] at h2
      rw [hCH] at hchk
      rw [hSV] at hsvk
      have HCH := Lib.hid h1
      have HSV := Lib.hid h2
      have HCK := Lib.hid hchk
      have HSK := Lib.hid hsvk
      have HE := Lib.hid he
      have HL := Lib.hid hL
      have HB := Lib.hid hB
      have hi0 : (0 : Int) ≤ (k : Int) := by omega
      have hi1 : (k : Int) < (n : Int) := by omega
      have w1 : IntKind.i64.wrap ((k : Int) + 1) = (k : Int) + 1 := by rw [IntWalk.i64_in _ (by omega)]
      clear hat he hL hby hB h1 h2 hCH hSV hchk hsvk
      go_upto_region 7 with fail
      generalize hX : World.alloc wr _ = X
      obtain ⟨h6, hB6, h6z⟩ := alloc_named hX
      have b6 : Blk X wr.heap.size 58 [.int .u16 ha, .int .u64 hh, .int .u64 lo, .int .i64 pe, .slice ra L rc] := h6
      have HT := Lib.hid b6.cells
      have HBX := Lib.hid (HB.out.trans (hB6.mono HB.out.size))
      have HOWN := Lib.hid (own_below hown.out hB6)
      have hWX := Below.refl X.heap.size X
      clear hX h6 hB6 h6z b6 d0 d1 d2 d3 d4 hown
      go_cut [32] (fun b wx => ∃ PC : Bool, b = .bool PC ∧ Hid (PC = true ↔ (0 < k ∧ chA db (k - 1) = true)) ∧ Below X.heap.size X wx)
      case first =>
        by_cases hk0 : 0 < k
        · have t0 : decide (0 < k) = true := by simpa using hk0
          have t0i : decide ((0 : Int) < (k : Int)) = true := by simp; omega
          have w3 : IntKind.i64.wrap ((k : Int) - 1) = ((k - 1 : Nat) : Int) := by rw [IntWalk.i64_in _ (by omega)]; omega
          obtain ⟨k1, hk1⟩ : ∃ k1, k - 1 = k1 := ⟨_, rfl⟩
          rw [hk1] at w3
          have hc1 : chA db (k - 1) = chU (atI db k1).hi (atI db k1).lo := by rw [hk1]; rfl
          have hb := HBX.out
          obtain ⟨ra2, rc2, d02, d12, d22, d32, d42, hcap2, hby2⟩ := (HAT.out (k1) (by omega)).below hb
          obtain ⟨⟨ha2, hh2, lo2, pe2, bs2⟩, he2⟩ : ∃ r, atI db (k1) = r := ⟨_, rfl⟩
          rw [he2] at d02 d12 d22 d32 d42 hby2 hcap2
          simp only at d02 d12 d22 d32 d42 hby2 hcap2
          obtain ⟨L2, hL2⟩ : ∃ L, bs2.length = L := ⟨_, rfl⟩
          rw [hL2] at d42 hby2 hcap2
          rw [he2] at hc1
          simp only at hc1
          obtain ⟨PC, hPC⟩ : ∃ x, chU hh2 lo2 = x := ⟨_, rfl⟩
          have h1 := fun W => isCh_any ha2 hh2 lo2 pe2 (.slice ra2 L2 rc2) W
          simp only [hPC] at h1
          rw [hPC] at hc1
          have H1 := Lib.hid h1
          have HC1 := Lib.hid hc1
          have HK0 := Lib.hid hk0
          have hj0 : (0 : Int) ≤ (k1 : Int) := by omega
          have hj1 : (k1 : Int) < (n : Int) := by omega
          clear hk0 hk1 hc1 he2 hL2 hby2 hcap2 hPC h1 hb
          go_wp2_with fail
          refine (H1.out _).mono ?_
          rintro e w4 ⟨rfl, hC⟩
          go_wp2_with fail
          go_meet
          exact ⟨_, rfl, Lib.hid (by rw [HC1.out]; exact ⟨fun h => ⟨HK0.out, h⟩, fun h => h.2⟩), hC⟩
        · have t0 : decide (0 < k) = false := by simpa using hk0
          have t0i : decide ((0 : Int) < (k : Int)) = false := by simp; omega
          have HK0 := Lib.hid hk0
          clear hk0
          go_wp2_with fail
          go_meet
          exact ⟨_, rfl, Lib.hid ⟨fun h => by (cases h), fun h => absurd h.1 HK0.out⟩, hWX⟩
      case rest =>
        obtain ⟨PC, rfl, hpc, hBY⟩ := hcut
        rename World => Y
        have HBY2 := Lib.hid (HBX.out.trans (hBY.mono HBX.out.size))
        have HOWN2 := Lib.hid (own_below HOWN.out hBY)
        have HTY := Lib.hid (HT.out.keep hBY)
        clear HOWN HBX HT hBY hWX
        have HOWN := HOWN2
        have HT := HTY
        have HBX := HBY2
        clear HOWN2 HTY HBY2
        cases PC with
        | true =>
          have hst := fdTo_none (fdAt_skip (hpc.out.1 (by simp)).1 (hpc.out.1 (by simp)).2)
          have HOW := Lib.hid (show Y.ownsRow w.heap.size 53 6 u3 (fdTo db (k + 1)).length (fcells (fdTo db (k + 1))) by rw [hst]; exact HOWN.out)
          clear hst hpc HOWN
          go_wp2
          go_roundw
          case rel => exact ⟨k + 1, by go_num, by omega, HOW, HBX.out⟩
          case measure => simp [intOf]; omega
        | false =>
        have HPC := Lib.hid (show ¬ (0 < k ∧ chA db (k - 1) = true) from fun h => by have := hpc.out.2 h; cases this)
        clear hpc
        have T2 := HT.out
        have hOpen := T2
        simp only [Cells, blk, List.cons_append, List.nil_append, and_true, Nat.reduceAdd, Nat.add_zero, Nat.zero_add] at hOpen
        obtain ⟨m0, m1, m2, m3, m4⟩ := hOpen
        clear T2
        go_wp2_with fail
        refine (HSV.out _).mono ?_
        rintro e w4 ⟨rfl, hC⟩
        have HB4 := Lib.hid (HBX.out.trans (hC.mono HBX.out.size))
        have HOWN4 := Lib.hid (own_below HOWN.out hC)
        have HT4 := Lib.hid (HT.out.keep hC)
        clear hC m0 m1 m2 m3 m4 HT HOWN HBX
        have T2 := HT4.out
        have hOpen := T2
        simp only [Cells, blk, List.cons_append, List.nil_append, and_true, Nat.reduceAdd, Nat.add_zero, Nat.zero_add] at hOpen
        obtain ⟨m0, m1, m2, m3, m4⟩ := hOpen
        clear T2
        cases SV with
        | true =>
          have hfa := fdAt_sv HPC.out HSK.out
          rw [HE.out] at hfa
          simp only at hfa
          obtain ⟨LA, hLA⟩ : ∃ x, lastOf ha (db.drop (k + 1)) = x := ⟨_, rfl⟩
          have HGR := fun (W : World) (hW : Below w.heap.size w W) => group_any (some ⟨b, off, none⟩) n c db k ha W (HD.out.below hW) HN.out hlt hm HG.out HSK.out (by rw [HE.out])
          rw [hLA] at hfa
          simp only [hLA] at HGR
          have HGRP := Lib.hid HGR
          have hde := rdecode_any (.slice ra L rc) bs w4 (HBY.out.below HB4.out) (by rw [HL.out]; omega)
          obtain ⟨d1, hd1⟩ : ∃ d, (decR bs).1 = d := ⟨_, rfl⟩
          obtain ⟨d2, hd2⟩ : ∃ d, (decR bs).2.1 = d := ⟨_, rfl⟩
          obtain ⟨d3, hd3⟩ : ∃ d, (decR bs).2.2 = d := ⟨_, rfl⟩
          rw [hd1, hd2, hd3] at hde
          rw [hd1, hd2] at hfa
          have HDE := Lib.hid hde
          have HST := Lib.hid (fdTo_some hfa)
          clear HGR hLA hfa hde hd1 hd2 hd3
          go_wp2_with fail
          refine HDE.out.mono ?_
          rintro e w5 ⟨rfl, hC⟩
          have HB5 := Lib.hid (HB4.out.trans (hC.mono HB4.out.size))
          have HOWN5 := Lib.hid (own_below HOWN4.out hC)
          have HT5 := Lib.hid (HT4.out.keep hC)
          clear hC m0 m1 m2 m3 m4 HT4 HOWN4 HB4 HDE
          go_upto_region 10 with fail
          generalize hX : World.alloc w5 _ = Z
          obtain ⟨h6, hB6, h6z⟩ := alloc_named hX
          have b6 : Blk Z w5.heap.size 34 [.int .u64 (d1 : Nat), .int .u64 (d2 : Nat)] := h6
          have HU := Lib.hid b6.cells
          have HBZ := Lib.hid (HB5.out.trans (hB6.mono HB5.out.size))
          have HOWNZ := Lib.hid (own_below HOWN5.out hB6)
          have HTZ := Lib.hid (HT5.out.keep hB6)
          clear hX h6 hB6 h6z b6 HT5 HOWN5 HB5
          have T2 := HTZ.out
          have hOpen := T2
          simp only [Cells, blk, List.cons_append, List.nil_append, and_true, Nat.reduceAdd, Nat.add_zero, Nat.zero_add] at hOpen
          obtain ⟨m0, m1, m2, m3, m4⟩ := hOpen
          clear T2
          go_wp2_with fail
          refine (HGRP.out _ HBZ.out).mono ?_
          rintro e w7 ⟨rfl, hC⟩
          have HB7 := Lib.hid (HBZ.out.trans (hC.mono HBZ.out.size))
          have HOWN := Lib.hid (own_below HOWNZ.out hC)
          have T2 := (HTZ.out.keep hC).app (HU.out.keep hC)
          clear hC m0 m1 m2 m3 m4 HTZ HOWNZ HBZ HGRP HU
          have hOpen := T2
          simp only [Cells, blk, List.cons_append, List.nil_append, and_true, Nat.reduceAdd, Nat.add_zero, Nat.zero_add] at hOpen
          obtain ⟨m0, m1, m2, m3, m4, n0, n1⟩ := hOpen
          clear T2
          have hbx : Below w7.heap.size w7 (w7.alloc (.cells #[.int .u16 ha, .int .u16 LA, .int .u16 0, .int .i64 0, .int .u64 (d1 : Nat), .int .u64 (d2 : Nat)] 53)) := (Below.refl _ _).alloc (Nat.le_refl _) _
          have HIN := Lib.hid (own_below HOWN.out hbx)
          have hnew : ∀ j u, [Value.int .u16 ha, .int .u16 LA, .int .u16 0, .int .i64 0, .int .u64 (d1 : Nat), .int .u64 (d2 : Nat)][j]? = some u → (w7.alloc (.cells #[.int .u16 ha, .int .u16 LA, .int .u16 0, .int .i64 0, .int .u64 (d1 : Nat), .int .u64 (d2 : Nat)] 53)).cell? ((⟨w7.heap.size, 0, none⟩ : Addr).add j) = some u := fun j u hj => by
            rw [addr_add, Nat.zero_add]
            exact cellNew w7 #[.int .u16 ha, .int .u16 LA, .int .u16 0, .int .i64 0, .int .u64 (d1 : Nat), .int .u64 (d2 : Nat)] 53 j u (by simpa using hj)
          have hbase : w.heap.size ≤ (w7.alloc (.cells #[.int .u16 ha, .int .u16 LA, .int .u16 0, .int .i64 0, .int .u64 (d1 : Nat), .int .u64 (d2 : Nat)] 53)).heap.size := by have := HB7.out.size; simp; omega
          have HBX := Lib.hid (HB7.out.trans (hbx.mono (by have := HB7.out.size; omega)))
          clear hbx
          go_wp2_with (at_builtin; refine wpList_append_own_at _ rfl _ _ 24 rfl w.heap.size 53 i6 _ 6 32 Try.underlying24 hi6 hz0 hz1 hz2 rfl (by decide) _ _ _ rfl HIN.out ⟨w7.heap.size, 0, none⟩ 1 1 [Value.int .u16 ha, .int .u16 LA, .int .u16 0, .int .i64 0, .int .u64 (d1 : Nat), .int .u64 (d2 : Nat)] rfl rfl hnew ?c6 (by unfold maxLen; omega) (by omega) hbase ?_)
          case c6 => intro u hu; simp at hu; rcases hu with rfl | rfl | rfl | rfl | rfl | rfl <;> rfl
          intro v6 w6 hown6 hg6 hnn6 hob6
          have own6 := own_add (x := (⟨ha, LA, 0, 0, (d1 : Nat), (d2 : Nat)⟩ : Fd)) hown6 rfl
          have hB6 := HBX.out.grown hg6 hbase (fun q hq => (HIN.out.lt q hq).1)
          rw [← HST.out] at own6
          have HOW := Lib.hid own6
          have HBW := Lib.hid hB6
          clear hown6 hg6 hnn6 hob6 hnew hbase HIN HBX own6 hB6
          go_wp2
          go_roundw
          case rel => exact ⟨k + 1, by go_num, by omega, HOW, HBW.out⟩
          case measure => simp [intOf]; omega
        | false =>
          go_wp2_with fail
          refine (HCH.out _).mono ?_
          rintro e w5 ⟨rfl, hC⟩
          have HB5 := Lib.hid (HB4.out.trans (hC.mono HB4.out.size))
          have HOWN := Lib.hid (own_below HOWN4.out hC)
          have HT5 := Lib.hid (HT4.out.keep hC)
          clear hC m0 m1 m2 m3 m4 HT4 HOWN4 HB4
          have T2 := HT5.out
          have hOpen := T2
          simp only [Cells, blk, List.cons_append, List.nil_append, and_true, Nat.reduceAdd, Nat.add_zero, Nat.zero_add] at hOpen
          obtain ⟨m0, m1, m2, m3, m4⟩ := hOpen
          clear T2
          cases CH with
          | true =>
            have hfa := fdAt_ch HPC.out HSK.out HCK.out
            rw [HE.out] at hfa
            simp only at hfa
            have hcp := charParts_any ra L rc bs w5 (HBY.out.below HB5.out) HL.out HCAP.out (by omega)
            obtain ⟨P, H, T1, T3, OK, hP⟩ : ∃ P H T1 T2 OK, chP bs = (P, H, T1, T2, OK) := ⟨_, _, _, _, _, rfl⟩
            rw [hP] at hcp hfa
            simp only at hcp hfa
            have HCP := Lib.hid hcp
            have HST := Lib.hid (fdTo_some hfa)
            clear hfa hcp hP
            go_wp2_with fail
            refine HCP.out.mono ?_
            rintro e w6 ⟨rfl, hC⟩
            have HB6 := Lib.hid (HB5.out.trans (hC.mono HB5.out.size))
            have HOWN6 := Lib.hid (own_below HOWN.out hC)
            have HT6 := Lib.hid (HT5.out.keep hC)
            clear hC m0 m1 m2 m3 m4 HT5 HOWN HB5 HCP
            go_upto_region 14 with fail
            generalize hX : World.alloc w6 _ = Z
            obtain ⟨h6, hB6, h6z⟩ := alloc_named hX
            have b6 : Blk Z w6.heap.size 34 [.int .u64 T1, .int .u64 T3] := h6
            have HBZ := Lib.hid (HB6.out.trans (hB6.mono HB6.out.size))
            have HOWN := Lib.hid (own_below HOWN6.out hB6)
            have T2 := (HT6.out.keep hB6).app b6.cells
            clear hX h6 hB6 h6z b6 HT6 HOWN6 HB6
            have hOpen := T2
            simp only [Cells, blk, List.cons_append, List.nil_append, and_true, Nat.reduceAdd, Nat.add_zero, Nat.zero_add] at hOpen
            obtain ⟨m0, m1, m2, m3, m4, n0, n1⟩ := hOpen
            clear T2
            have hbx : Below Z.heap.size Z (Z.alloc (.cells #[.int .u16 ha, .int .u16 0, .int .u16 H, .int .i64 P, .int .u64 T1, .int .u64 T3] 53)) := (Below.refl _ _).alloc (Nat.le_refl _) _
            have HIN := Lib.hid (own_below HOWN.out hbx)
            have hnew : ∀ j u, [Value.int .u16 ha, .int .u16 0, .int .u16 H, .int .i64 P, .int .u64 T1, .int .u64 T3][j]? = some u → (Z.alloc (.cells #[.int .u16 ha, .int .u16 0, .int .u16 H, .int .i64 P, .int .u64 T1, .int .u64 T3] 53)).cell? ((⟨Z.heap.size, 0, none⟩ : Addr).add j) = some u := fun j u hj => by
              rw [addr_add, Nat.zero_add]
              exact cellNew Z #[.int .u16 ha, .int .u16 0, .int .u16 H, .int .i64 P, .int .u64 T1, .int .u64 T3] 53 j u (by simpa using hj)
            have hbase : w.heap.size ≤ (Z.alloc (.cells #[.int .u16 ha, .int .u16 0, .int .u16 H, .int .i64 P, .int .u64 T1, .int .u64 T3] 53)).heap.size := by have := HBZ.out.size; simp; omega
            have HBX := Lib.hid (HBZ.out.trans (hbx.mono (by have := HBZ.out.size; omega)))
            clear hbx
            go_wp2_with (at_builtin; refine wpList_append_own_at _ rfl _ _ 24 rfl w.heap.size 53 i6 _ 6 32 Try.underlying24 hi6 hz0 hz1 hz2 rfl (by decide) _ _ _ rfl HIN.out ⟨Z.heap.size, 0, none⟩ 1 1 [Value.int .u16 ha, .int .u16 0, .int .u16 H, .int .i64 P, .int .u64 T1, .int .u64 T3] rfl rfl hnew ?c6 (by unfold maxLen; omega) (by omega) hbase ?_)
            case c6 => intro u hu; simp at hu; rcases hu with rfl | rfl | rfl | rfl | rfl | rfl <;> rfl
            intro v6 w6 hown6 hg6 hnn6 hob6
            have own6 := own_add (x := (⟨ha, 0, H, P, T1, T3⟩ : Fd)) hown6 rfl
            have hB6 := HBX.out.grown hg6 hbase (fun q hq => (HIN.out.lt q hq).1)
            rw [← HST.out] at own6
            have HOW := Lib.hid own6
            have HBW := Lib.hid hB6
            clear hown6 hg6 hnn6 hob6 hnew hbase HIN HBX own6 hB6
            go_wp2
            go_roundw
            case rel => exact ⟨k + 1, by go_num, by omega, HOW, HBW.out⟩
            case measure => simp [intOf]; omega
          | false =>
            have hfa := fdAt_de HPC.out HSK.out HCK.out
            rw [HE.out] at hfa
            simp only at hfa
            have HST := Lib.hid (fdTo_some hfa)
            clear hfa
            have HBZ := HB5
            have hbx : Below w5.heap.size w5 (w5.alloc (.cells #[.int .u16 ha, .int .u16 0, .int .u16 0, .int .i64 0, .int .u64 hh, .int .u64 lo] 53)) := (Below.refl _ _).alloc (Nat.le_refl _) _
            have HIN := Lib.hid (own_below HOWN.out hbx)
            have hnew : ∀ j u, [Value.int .u16 ha, .int .u16 0, .int .u16 0, .int .i64 0, .int .u64 hh, .int .u64 lo][j]? = some u → (w5.alloc (.cells #[.int .u16 ha, .int .u16 0, .int .u16 0, .int .i64 0, .int .u64 hh, .int .u64 lo] 53)).cell? ((⟨w5.heap.size, 0, none⟩ : Addr).add j) = some u := fun j u hj => by
              rw [addr_add, Nat.zero_add]
              exact cellNew w5 #[.int .u16 ha, .int .u16 0, .int .u16 0, .int .i64 0, .int .u64 hh, .int .u64 lo] 53 j u (by simpa using hj)
            have hbase : w.heap.size ≤ (w5.alloc (.cells #[.int .u16 ha, .int .u16 0, .int .u16 0, .int .i64 0, .int .u64 hh, .int .u64 lo] 53)).heap.size := by have := HBZ.out.size; simp; omega
            have HBX := Lib.hid (HBZ.out.trans (hbx.mono (by have := HBZ.out.size; omega)))
            clear hbx
            go_wp2_with (at_builtin; refine wpList_append_own_at _ rfl _ _ 24 rfl w.heap.size 53 i6 _ 6 32 Try.underlying24 hi6 hz0 hz1 hz2 rfl (by decide) _ _ _ rfl HIN.out ⟨w5.heap.size, 0, none⟩ 1 1 [Value.int .u16 ha, .int .u16 0, .int .u16 0, .int .i64 0, .int .u64 hh, .int .u64 lo] rfl rfl hnew ?c6 (by unfold maxLen; omega) (by omega) hbase ?_)
            case c6 => intro u hu; simp at hu; rcases hu with rfl | rfl | rfl | rfl | rfl | rfl <;> rfl
            intro v6 w6 hown6 hg6 hnn6 hob6
            have own6 := own_add (x := (⟨ha, 0, 0, 0, hh, lo⟩ : Fd)) hown6 rfl
            have hB6 := HBX.out.grown hg6 hbase (fun q hq => (HIN.out.lt q hq).1)
            rw [← HST.out] at own6
            have HOW := Lib.hid own6
            have HBW := Lib.hid hB6
            clear hown6 hg6 hnn6 hob6 hnew hbase HIN HBX own6 hB6
            go_wp2
            go_roundw
            case rel => exact ⟨k + 1, by go_num, by omega, HOW, HBW.out⟩
            case measure => simp [intOf]; omega
    · have ek : k = n := by omega
      have g2 : decide (k < n) = false := by simpa using hlt
      have g2i : decide ((k : Int) < (n : Int)) = false := by simp; omega
      have hlen := fdTo_len db k
      have hs := SR.of_own hown.out (fcells_one _) (by unfold maxLen; omega)
      have e : fdTo db k = fdL db := by unfold fdL; rw [HN.out, ek]
      rw [e] at hs
      have HS := Lib.hid hs
      clear hs e hown ek hlt
      go_wp2
      go_ret
      exact ⟨_, rfl, HS.out, hB⟩
end Go.Proofs.Yteblimdbkiiaaaa
