/- cache: a database that Check accepts, by the reference. -/
import Derived.Test.YteblimdbkiiaaaaTrE
namespace Go.Proofs.Yteblimdbkiiaaaa
open Go.RowKit

set_option linter.unusedSimpArgs false in
set_option linter.unusedVariables false in
set_option maxRecDepth 100000 in
set_option maxHeartbeats 4000000 in
theorem wrong_any (a : Option Addr) (n c : Nat) (db : List At) (i : Nat) (w : World) (h : Dbs w (.slice a n c) db) (hn : db.length = n) (hi : i < n) (hm : n ≤ 1000) (hl5 : (atI db i).bs.length ≤ 512) :
    Calls Try.prog 47 #[.slice a n c, .int .i64 i] w fun e w' => ∃ B : Bool, e = .returned (.bool B) ∧ (B = false → chA db i = true → ChOk db i) ∧ Below w.heap.size w w' := by
  have HD := Lib.hid h
  have HN := Lib.hid hn
  have HL5 := Lib.hid hl5
  obtain ⟨b, off, rfl, hb, hat⟩ := h.at hn (by omega)
  obtain ⟨ra, rc, d0, d1, d2, d3, d4, hcap, hby⟩ := hat i hi
  have hch : chA db i = chU (atI db i).hi (atI db i).lo := rfl
  obtain ⟨⟨ha, hi', lo, pe, bs⟩, he⟩ : ∃ r, atI db i = r := ⟨_, rfl⟩
  rw [he] at d0 d1 d2 d3 d4 hby hcap hch hl5
  simp only at d0 d1 d2 d3 d4 hby hcap hch hl5
  obtain ⟨L, hL⟩ : ∃ L, bs.length = L := ⟨_, rfl⟩
  rw [hL] at d4 hby hcap hl5
  have HL := Lib.hid hL
  have HBY := Lib.hid hby
  have hi0 : (0 : Int) ≤ (i : Int) := by omega
  have hi1 : (i : Int) < (n : Int) := by omega
  obtain ⟨CH, hCH⟩ : ∃ x, chU hi' lo = x := ⟨_, rfl⟩
  obtain ⟨SV, hSV⟩ : ∃ x, svU hi' lo = x := ⟨_, rfl⟩
  obtain ⟨DB, hDB⟩ : ∃ x, dcU hi' lo = x := ⟨_, rfl⟩
  obtain ⟨CF, hCF⟩ : ∃ x, isU 45088566677504 hi' lo = x := ⟨_, rfl⟩
  have h1 := fun W => isCh_any ha hi' lo pe (.slice ra L rc) W
  have h2 := fun W => isSv_any ha hi' lo pe (.slice ra L rc) W
  have h3 := fun W => declares_any hi' lo W
  have h4 := fun W => is_g hi' lo W
  simp only [hCH] at h1
  simp only [hSV] at h2
  simp only [hDB] at h3
  simp only [hCF] at h4
  have hsc : SV = true → CH = false := fun e => by rw [← hCH]; exact sv_not_ch (by rw [hSV]; exact e)
  rw [hCH] at hch
  have HCH := Lib.hid h1
  have HSV := Lib.hid h2
  have HDC := Lib.hid h3
  have HCF := Lib.hid h4
  have HSC := Lib.hid hsc
  have HCA := Lib.hid hch
  have hB0 : Below w.heap.size w (w.alloc (.cells #[.int .u16 ha, .int .u64 hi', .int .u64 lo, .int .i64 pe, .slice ra L rc] 58)) := (Below.refl _ _).alloc (Nat.le_refl _) _
  have T0 := cells_new w [.int .u16 ha, .int .u64 hi', .int .u64 lo, .int .i64 pe, .slice ra L rc] 58
  clear hat h he hL hby h1 h2 h3 h4 hch hsc hCH hSV hDB hCF hn hcap
  go_enter Try.func47, Try.ntmps47
  go_upto_region 2 with fail
  generalize hX : World.alloc w _ = X at T0 hB0 ⊢
  have HT := Lib.hid T0
  have HB := Lib.hid hB0
  clear hX d0 d1 d2 d3 d4 T0
  have hBX := Below.refl X.heap.size X
  go_cut [29] (fun b wx => (∃ B : Bool, b = .bool B) ∧ Below X.heap.size X wx)
  case first =>
    have hBW := Below.refl X.heap.size X
    have T2 := HT.out.keep hBW
    have hOpen := T2
    simp only [Cells, blk, List.cons_append, List.nil_append, and_true, Nat.reduceAdd, Nat.add_zero, Nat.zero_add] at hOpen
    obtain ⟨m0, m1, m2, m3, m4⟩ := hOpen
    clear T2
    by_cases hi00 : i = 0
    · have g0 : ((i : Int) == 0) = true := by simpa using hi00
      clear hi00
      go_wp2_with fail
      refine (HSV.out _).mono ?_
      rintro e w4 ⟨rfl, hC⟩
      replace hBW := hBW.trans (hC.mono hBW.size)
      clear hC m0 m1 m2 m3 m4
      have T2 := HT.out.keep hBW
      have hOpen := T2
      simp only [Cells, blk, List.cons_append, List.nil_append, and_true, Nat.reduceAdd, Nat.add_zero, Nat.zero_add] at hOpen
      obtain ⟨m0, m1, m2, m3, m4⟩ := hOpen
      clear T2
      cases SV with
      | false =>
        go_wp2_with fail
        go_meet
        exact ⟨⟨_, rfl⟩, hBW⟩
      | true =>
        go_wp2_with fail
        refine (HDC.out _).mono ?_
        rintro e w5 ⟨rfl, hC⟩
        have hD := hBW.trans (hC.mono hBW.size)
        clear hC m0 m1 m2 m3 m4
        have T2 := HT.out.keep hD
        have hOpen := T2
        simp only [Cells, blk, List.cons_append, List.nil_append, and_true, Nat.reduceAdd, Nat.add_zero, Nat.zero_add] at hOpen
        obtain ⟨m0, m1, m2, m3, m4⟩ := hOpen
        clear T2
        cases DB with
        | false =>
          go_wp2_with fail
          go_meet
          exact ⟨⟨_, rfl⟩, hD⟩
        | true =>
          go_wp2_with fail
          go_meet
          exact ⟨⟨_, rfl⟩, hD⟩
    · have g0 : ((i : Int) == 0) = false := by simp; omega
      clear hi00
      go_wp2_with fail
      refine (HDC.out _).mono ?_
      rintro e w5 ⟨rfl, hC⟩
      have hD := hBW.trans (hC.mono hBW.size)
      clear hC m0 m1 m2 m3 m4
      have T2 := HT.out.keep hD
      have hOpen := T2
      simp only [Cells, blk, List.cons_append, List.nil_append, and_true, Nat.reduceAdd, Nat.add_zero, Nat.zero_add] at hOpen
      obtain ⟨m0, m1, m2, m3, m4⟩ := hOpen
      clear T2
      cases DB with
      | false =>
        go_wp2_with fail
        go_meet
        exact ⟨⟨_, rfl⟩, hD⟩
      | true =>
        go_wp2_with fail
        go_meet
        exact ⟨⟨_, rfl⟩, hD⟩
  case rest =>
    obtain ⟨⟨B, rfl⟩, hBY⟩ := hcut
    rename World => Y
    have HBY1 := Lib.hid hBY
    have HBY2 := Lib.hid (HB.out.trans (hBY.mono HB.out.size))
    clear hBY hBX hB0
    cases B with
    | true =>
      go_wp2
      go_ret
      exact ⟨_, rfl, (fun e => by cases e), HBY2.out⟩
    | false =>
      have T2 := HT.out.keep HBY1.out
      have hOpen := T2
      simp only [Cells, blk, List.cons_append, List.nil_append, and_true, Nat.reduceAdd, Nat.add_zero, Nat.zero_add] at hOpen
      obtain ⟨m0, m1, m2, m3, m4⟩ := hOpen
      clear T2
      go_wp2_with fail
      refine (HSV.out _).mono ?_
      rintro e w4 ⟨rfl, hC⟩
      have HB4 := Lib.hid (HBY1.out.trans (hC.mono HBY1.out.size))
      have HW4 := Lib.hid (HBY2.out.trans (hC.mono HBY2.out.size))
      clear hC m0 m1 m2 m3 m4
      have T2 := HT.out.keep HB4.out
      have hOpen := T2
      simp only [Cells, blk, List.cons_append, List.nil_append, and_true, Nat.reduceAdd, Nat.add_zero, Nat.zero_add] at hOpen
      obtain ⟨m0, m1, m2, m3, m4⟩ := hOpen
      clear T2
      cases SV with
      | true =>
        have HDE := Lib.hid (rdecode_any (.slice ra L rc) bs w4 (HBY.out.below HW4.out) (by rw [HL.out]; omega))
        go_wp2_with fail
        refine HDE.out.mono ?_
        rintro e w5 ⟨rfl, hC⟩
        have HW5 := Lib.hid (HW4.out.trans (hC.mono HW4.out.size))
        clear hC m0 m1 m2 m3 m4 HDE
        obtain ⟨d3, hd3⟩ : ∃ d, (decR bs).2.2 = d := ⟨_, rfl⟩
        rw [hd3]
        clear hd3
        go_wp2
        go_ret
        exact ⟨_, rfl, (fun _ e => by rw [HCA.out, HSC.out (by simp)] at e; cases e), HW5.out.alloc HW5.out.size _⟩
      | false =>
        go_wp2_with fail
        refine (HCH.out _).mono ?_
        rintro e w5 ⟨rfl, hC⟩
        have HB5 := Lib.hid (HB4.out.trans (hC.mono HB4.out.size))
        have HW5 := Lib.hid (HW4.out.trans (hC.mono HW4.out.size))
        clear hC m0 m1 m2 m3 m4 HB4 HW4
        have T2 := HT.out.keep HB5.out
        have hOpen := T2
        simp only [Cells, blk, List.cons_append, List.nil_append, and_true, Nat.reduceAdd, Nat.add_zero, Nat.zero_add] at hOpen
        obtain ⟨m0, m1, m2, m3, m4⟩ := hOpen
        clear T2
        cases CH with
        | true =>
          have HCW := Lib.hid (charWrong_any (some ⟨b, off, none⟩) n c db i w5 (HD.out.below HW5.out) HN.out hi hm HL5.out)
          go_wp2_with fail
          refine HCW.out.mono ?_
          rintro e w6 ⟨B3, rfl, hok, hC⟩
          have HOK := Lib.hid hok
          have HB6 := Lib.hid (HB5.out.trans (hC.mono HB5.out.size))
          have HW6 := Lib.hid (HW5.out.trans (hC.mono HW5.out.size))
          clear hC hok m0 m1 m2 m3 m4 HCW HB5 HW5
          have T2 := HT.out.keep HB6.out
          have hOpen := T2
          simp only [Cells, blk, List.cons_append, List.nil_append, and_true, Nat.reduceAdd, Nat.add_zero, Nat.zero_add] at hOpen
          obtain ⟨m0, m1, m2, m3, m4⟩ := hOpen
          clear T2
          cases B3 with
          | true =>
            go_wp2
            go_ret
            exact ⟨_, rfl, (fun e => by cases e), HW6.out⟩
          | false =>
            go_wp2_with fail
            refine (HCF.out _).mono ?_
            rintro e w7 ⟨rfl, hC⟩
            have HW7 := Lib.hid (HW6.out.trans (hC.mono HW6.out.size))
            clear hC m0 m1 m2 m3 m4
            cases CF with
            | false =>
              go_wp2
              go_ret
              exact ⟨_, rfl, (fun _ _ => HOK.out (by simp)), HW7.out⟩
            | true =>
              have HGW := Lib.hid (configWrong_any (some ⟨b, off, none⟩) n c db i w7 (HD.out.below HW7.out) HN.out hi hm)
              go_wp2_with fail
              refine HGW.out.mono ?_
              rintro e w8 ⟨B4, rfl, hC⟩
              have HW8 := Lib.hid (HW7.out.trans (hC.mono HW7.out.size))
              clear hC HGW
              go_wp2
              go_ret
              exact ⟨_, rfl, (fun _ _ => HOK.out (by simp)), HW8.out⟩
        | false =>
          go_wp2_with fail
          refine (HCF.out _).mono ?_
          rintro e w7 ⟨rfl, hC⟩
          have HW7 := Lib.hid (HW5.out.trans (hC.mono HW5.out.size))
          clear hC m0 m1 m2 m3 m4
          cases CF with
          | false =>
            go_wp2
            go_ret
            exact ⟨_, rfl, (fun _ e => by rw [HCA.out] at e; cases e), HW7.out⟩
          | true =>
            have HGW := Lib.hid (configWrong_any (some ⟨b, off, none⟩) n c db i w7 (HD.out.below HW7.out) HN.out hi hm)
            go_wp2_with fail
            refine HGW.out.mono ?_
            rintro e w8 ⟨B4, rfl, hC⟩
            have HW8 := Lib.hid (HW7.out.trans (hC.mono HW7.out.size))
            clear hC HGW
            go_wp2
            go_ret
            exact ⟨_, rfl, (fun _ e => by rw [HCA.out] at e; cases e), HW8.out⟩
/-- accepted so far -/
structure GdTo (db : List At) (k : Nat) : Prop where
  pos : ∀ i, i < k → 0 < (atI db i).ha
  len : ∀ i, i < k → (atI db i).bs.length ≤ 512
  asc : ∀ i, i + 1 < k → (atI db i).ha < (atI db (i + 1)).ha
  chr : ∀ i, i < k → chA db i = true → ChOk db i
def lastV (db : List At) (k : Nat) : Int := if k = 0 then 0 else (atI db (k - 1)).ha
theorem GdTo.next {db : List At} {k : Nat} (h : GdTo db k) (h1 : lastV db k < (atI db k).ha) (h2 : (atI db k).bs.length ≤ 512) (h3 : chA db k = true → ChOk db k) : GdTo db (k + 1) := by
  unfold lastV at h1
  refine ⟨fun i hi => ?_, fun i hi => ?_, fun i hi => ?_, fun i hi => ?_⟩
  · by_cases c : i = k
    · subst c
      by_cases c0 : i = 0
      · rw [if_pos c0] at h1; exact h1
      · rw [if_neg c0] at h1
        have := h.pos (i - 1) (by omega)
        omega
    · exact h.pos i (by omega)
  · by_cases c : i = k
    · rw [c]; exact h2
    · exact h.len i (by omega)
  · by_cases c : i + 1 = k
    · subst c
      rw [if_neg (by omega), Nat.add_sub_cancel] at h1
      exact h1
    · exact h.asc i (by omega)
  · by_cases c : i = k
    · rw [c]; exact h3
    · exact h.chr i (by omega)
theorem GdTo.gdb {db : List At} (h : GdTo db db.length) : Gdb db := ⟨h.pos, h.len, h.asc, h.chr⟩
set_option linter.unusedSimpArgs false in
set_option linter.unusedVariables false in
set_option maxRecDepth 100000 in
set_option maxHeartbeats 4000000 in
theorem check_any (a : Option Addr) (n c : Nat) (db : List At) (w : World) (h : Dbs w (.slice a n c) db) (hn : db.length = n) :
    Calls Try.prog 22 #[.slice a n c] w fun e w' => ∃ E : Int, e = .returned (.int .i64 E) ∧ (E = 0 → Gdb db) ∧ Below w.heap.size w w' := by
  have HD := Lib.hid h
  have HN := Lib.hid hn
  have hM : n ≤ maxLen := by rw [← hn]; exact h.1
  unfold maxLen at hM
  clear h hn
  by_cases hbig : 1000 < n
  · have g1 : decide (1000 < n) = true := by simpa using hbig
    have g1i : decide ((1000 : Int) < (n : Int)) = true := by simp; omega
    go_enter Try.func22, Try.ntmps22
    go_wp2
    go_ret
    exact ⟨_, rfl, (fun e => by omega), Below.refl _ _⟩
  have g1 : decide (1000 < n) = false := by simpa using hbig
  have g1i : decide ((1000 : Int) < (n : Int)) = false := by simp; omega
  go_enter Try.func22, Try.ntmps22
  go_wp2_with fail
  go_loopw [3, 4] (fun l v wr => ∃ k : Nat, v = .int .i64 k ∧ k ≤ n ∧ l = .int .u16 (lastV db k) ∧ Hid (GdTo db k) ∧ Below w.heap.size w wr) (fun _ v _ => n - (intOf v).toNat)
  case atStart => exact ⟨0, by simp, Nat.zero_le _, rfl, ⟨fun i h => by omega, fun i h => by omega, fun i h => by omega, fun i h => by omega⟩, Below.refl _ _⟩
  case round =>
    obtain ⟨k, rfl, hk, rfl, hgd, hB⟩ := hrel
    by_cases hlt : k < n
    · have g2 : decide (k < n) = true := by simpa using hlt
      have g2i : decide ((k : Int) < (n : Int)) = true := by simp; omega
      obtain ⟨b, off, rfl, hb, hat⟩ := (HD.out.below hB).at HN.out (by omega)
      obtain ⟨ra, rc, d0, d1, d2, d3, d4, _, _⟩ := hat k hlt
      have hl5 : (atI db k).bs.length = (atI db k).bs.length := rfl
      have hl6 : lastV db (k + 1) = (atI db k).ha := rfl
      obtain ⟨LV, hLV⟩ : ∃ x, lastV db k = x := ⟨_, rfl⟩
      obtain ⟨HA, hHA⟩ : ∃ x, (atI db k).ha = x := ⟨_, rfl⟩
      obtain ⟨PE, hPE⟩ : ∃ x, (atI db k).pe = x := ⟨_, rfl⟩
      obtain ⟨L, hL⟩ : ∃ x, (atI db k).bs.length = x := ⟨_, rfl⟩
      rw [hHA] at d0 hl6
      rw [hPE] at d3
      rw [hL] at d4
      rw [hLV]
      have HLV := Lib.hid hLV
      have HHA := Lib.hid hHA
      have HL := Lib.hid hL
      have HL6 := Lib.hid hl6
      have hi0 : (0 : Int) ≤ (k : Int) := by omega
      have hi1 : (k : Int) < (n : Int) := by omega
      clear hat d1 d2 hl5 hl6 hLV hHA hPE hL
      by_cases c1 : HA ≤ LV
      · have t1 : decide (HA ≤ LV) = true := by simpa using c1
        clear c1
        go_wp2
        go_ret
        exact ⟨_, rfl, (fun e => by omega), hB⟩
      have t1 : decide (HA ≤ LV) = false := by simpa using c1
      by_cases c2 : PE < 0
      · have t2 : decide (PE < 0) = true := by simpa using c2
        clear c1 c2
        go_wp2
        go_ret
        exact ⟨_, rfl, (fun e => by omega), hB⟩
      have t2 : decide (PE < 0) = false := by simpa using c2
      by_cases c3 : 15 < PE
      · have t3 : decide (15 < PE) = true := by simpa using c3
        clear c1 c2 c3
        go_wp2
        go_ret
        exact ⟨_, rfl, (fun e => by omega), hB⟩
      have t3 : decide (15 < PE) = false := by simpa using c3
      by_cases c4 : 512 < L
      · have t4 : decide (512 < L) = true := by simpa using c4
        have t4i : decide ((512 : Int) < (L : Int)) = true := by simp; omega
        clear c1 c2 c3 c4
        go_wp2
        go_ret
        exact ⟨_, rfl, (fun e => by omega), hB⟩
      have t4 : decide (512 < L) = false := by simpa using c4
      have t4i : decide ((512 : Int) < (L : Int)) = false := by simp; omega
      have HWR := Lib.hid (wrong_any (some ⟨b, off, none⟩) n c db k wr (HD.out.below hB) HN.out hlt (by omega) (by rw [HL.out]; omega))
      have D0 := Lib.hid d0
      have HC1 := Lib.hid c1
      have HC4 := Lib.hid c4
      clear c1 c2 c3 c4
      go_wp2_with fail
      refine HWR.out.mono ?_
      rintro e w4 ⟨B, rfl, hok, hC⟩
      have HOK := Lib.hid hok
      have HB4 := Lib.hid (hB.trans (hC.mono hB.size))
      clear d0 d3 d4
      have d0 := kc D0.out hC
      clear hok hC HWR hB
      cases B with
      | true =>
        go_wp2
        go_ret
        exact ⟨_, rfl, (fun e => by omega), HB4.out⟩
      | false =>
        have hnx := hgd.out.next (by rw [HLV.out, HHA.out]; have := HC1.out; omega) (by rw [HL.out]; have := HC4.out; omega) (HOK.out (by simp))
        have HNX := Lib.hid hnx
        clear hnx hgd
        go_wp2
        go_roundw
        case rel => exact ⟨k + 1, by go_num, by omega, by rw [HL6.out], HNX, HB4.out⟩
        case measure => simp [intOf]; omega
    · have ek : k = n := by omega
      have g2 : decide (k < n) = false := by simpa using hlt
      have g2i : decide ((k : Int) < (n : Int)) = false := by simp; omega
      have hfin : Gdb db := by
        refine GdTo.gdb ?_
        rw [HN.out, ← ek]
        exact hgd.out
      have HF := Lib.hid hfin
      clear hfin hgd ek hlt
      go_wp2
      go_ret
      exact ⟨_, rfl, (fun _ => HF.out), hB⟩
end Go.Proofs.Yteblimdbkiiaaaa
