/- uuid: the walk of UuidBack. -/
import Derived.Test.YtolkjijnodejlaaDoorUvH
namespace Go.Proofs.YtolkjijnodejlaaDoor
open Go.RowKit

set_option linter.unusedSimpArgs false in
set_option linter.unusedVariables false in
set_option maxRecDepth 100000 in
set_option maxHeartbeats 4000000 in
theorem uuidBack_walk (v0 v1 v2 : Value) (w : World) (a0 : Arg Tryd.prog w 25 v0) (a1 : Arg Tryd.prog w 36 v1) (a2 : Arg Tryd.prog w 9 v2) (M : Int) (hM : w.cell? ⟨0, 0, none⟩ = some (.int .i64 M)) :
    Calls Tryd.prog 6 #[v0, v1, v2] w fun e w' => e = .returned (.bool true) ∧ Below w.heap.size w w' := by
  obtain ⟨hi, lo, rfl, hh, hl⟩ := arg_uuid a0
  obtain ⟨bs, hby⟩ := arg_bytes a1
  have hlit : ∃ ao n cp, v1 = .slice ao n cp ∧ n = bs.length := by
    obtain ⟨⟨_, _, _, ao, cap, rfl, _⟩, _⟩ := hby
    exact ⟨_, _, _, rfl, rfl⟩
  obtain ⟨ao, n, cp, rfl, hn⟩ := hlit
  obtain ⟨ss, rfl, hb⟩ := arg_str a2
  have hsz := strB_size ss
  obtain ⟨m, hm⟩ : ∃ m, ss.length = m := ⟨_, rfl⟩
  rw [hm] at hsz
  have T := cells_new w [.int .u64 (hi : Int), .int .u64 lo] 25
  have hB : Below w.heap.size w (w.alloc (.cells #[.int .u64 (hi : Int), .int .u64 lo] 25)) := (Below.refl _ _).alloc (Nat.le_refl _) _
  by_cases hbig : 1000 < n
  · have g1 : decide (1000 < n) = true := by simpa using hbig
    have g1' : decide ((1000 : Int) < (n : Int)) = true := by simp; omega
    clear hn a0 a1 a2 hby hh hl hb hbig
    go_enter Tryd.func6, Tryd.ntmps6
    go_wp2_with fail
    go_at_call 13
    refine (example_any M _ (kc hM hB)).mono ?_
    rintro e w4 ⟨rfl, hB4⟩
    go_wp2
    go_ret
    exact ⟨rfl, hB.trans (hB4.mono hB.size)⟩
  have g1 : decide (1000 < n) = false := by simpa using hbig
  have g1' : decide ((1000 : Int) < (n : Int)) = false := by simp; omega
  by_cases hbig2 : 1000 < m
  · have g2 : decide (1000 < m) = true := by simpa using hbig2
    have g2' : decide ((1000 : Int) < (m : Int)) = true := by simp; omega
    clear hn a0 a1 a2 hby hh hl hb hbig hbig2
    go_enter Tryd.func6, Tryd.ntmps6
    go_wp2_with fail
    go_at_call 13
    refine (example_any M _ (kc hM hB)).mono ?_
    rintro e w4 ⟨rfl, hB4⟩
    go_wp2
    go_ret
    exact ⟨rfl, hB.trans (hB4.mono hB.size)⟩
  have g2 : decide (1000 < m) = false := by simpa using hbig2
  have g2' : decide ((1000 : Int) < (m : Int)) = false := by simp; omega
  have hxl : (encB hi lo).length ≤ 16 := by rw [encB_len]; split <;> omega
  have htl : (txt hi lo).length ≤ 36 := by rw [txt_len]; split <;> omega
  have htb : ∀ x ∈ txt hi lo, x < 256 := txt_lt hi lo
  have h1 := fun W v (hW : BytesAt W v (encB hi lo)) => decode_any v (encB hi lo) W hW (by omega)
  rw [decR_encB hi lo hh hl] at h1
  have h2 := fun W hc => parse_any (txt hi lo) htb (by omega) M W hc
  rw [prs_txt hi lo hh hl] at h2
  have h3 := fun W => encode_any hi lo hh hl W
  have h4 := fun W => text_any hi lo hh hl W
  have h5 := fun W => number_any hi lo hh hl W
  have h6 := fun W hW => decode_any (.slice ao n cp) bs W hW (by omega)
  have q6 := decR_back bs hby.2.2
  have h8 := fun W hc => parse_any ss hb (by omega) M W hc
  have q8 := prs_back ss
  obtain ⟨⟨A, B, C⟩, hP⟩ : ∃ p, decR bs = p := ⟨_, rfl⟩
  obtain ⟨⟨D, E, F⟩, hQ⟩ : ∃ p, prs ss = p := ⟨_, rfl⟩
  simp only [hP] at h6 q6
  simp only [hQ] at h8 q8
  have h7 := fun W => encode_any A B q6.1 q6.2.1 W
  have h9 := fun W => text_any D E q8.1 q8.2.1 W
  have e1 := encB_two hi lo
  have e2 := txt_four hi lo
  have sz := strB_size (txt hi lo)
  obtain ⟨X, hX⟩ : ∃ X, encB hi lo = X := ⟨_, rfl⟩
  obtain ⟨Y, hY⟩ : ∃ Y, txt hi lo = Y := ⟨_, rfl⟩
  obtain ⟨S, hS⟩ : ∃ S, isShort hi lo = S := ⟨_, rfl⟩
  obtain ⟨N, hN⟩ : ∃ N, numI hi lo = N := ⟨_, rfl⟩
  simp only [hX, hY, hS, hN] at h1 h2 h3 h4 h5 e1 e2 sz
  obtain ⟨m4, hm4⟩ : ∃ m, Y.length = m := ⟨_, rfl⟩
  rw [hm4] at sz e2
  have e2' : ((m4 : Int) == 4) = S := by rw [← e2, Bool.eq_iff_iff]; simp; omega
  generalize strB Y = YS at h2 h4 sz
  have H1 := Lib.hid h1
  have H2 := Lib.hid h2
  have H3 := Lib.hid h3
  have H4 := Lib.hid h4
  have H5 := Lib.hid h5
  have H6 := Lib.hid h6
  have H7 := Lib.hid h7
  have H8 := Lib.hid h8
  have H9 := Lib.hid h9
  have Q6 := Lib.hid q6.2.2
  have Q8 := Lib.hid q8.2.2
  have E1 := Lib.hid e1
  have hbyV := hby.below hB
  clear a0 a1 a2 h1 h2 h3 h4 h5 h6 h7 h8 h9 q6 q8 hh hl hn hm hP hQ hX hY hS hN hbig hbig2 hby hb e1 hxl htl htb hm4
  go_enter Tryd.func6, Tryd.ntmps6
  go_upto_region 3 with fail
  generalize hV : World.alloc _ _ = V at T hB hbyV ⊢
  clear hV
  have HM := Lib.hid (kc hM hB)
  have HT := Lib.hid T
  have HY := Lib.hid hbyV
  clear hM T hbyV
  refine wp_region_held_drew (S := (fun W' : World => Below V.heap.size V W' ∧ V.heap.size ≤ W'.heap.size ∧ Cells W' (blk w.heap.size 0 0 [.int .u64 (hi : Int), .int .u64 lo]))) (by kernel_rfl) (⟨(Below.refl _ _).drew, Nat.le_refl _, HT.out.drew⟩) (fun hHeld => ?_)
  refine wpAnyH_take (i := 0) (oi := _) (v := ?_) (by rw [List.getElem?_toArray]; rfl) (by kernel_rfl) (by kernel_rfl) (by kernel_rfl) (by exact fun _ _ _ h => h) (Or.inl ⟨by rfl, ?_⟩) (by assumption) ?_
  rotate_left
  · intro w hSw
    try simp only [Cells, blk, List.cons_append, List.nil_append, and_true, Nat.reduceAdd, Nat.add_zero, Nat.zero_add] at hSw
    go_simp
    try with_reducible rfl
  simp only [Act.put, List.setIfInBounds_toArray, List.set_cons_zero, List.set_cons_succ]
  refine wpAnyH_take (i := 2) (oi := _) (v := ?_) (by rw [List.getElem?_toArray]; rfl) (by kernel_rfl) (by kernel_rfl) (by kernel_rfl) (by exact fun _ _ _ h => h) (Or.inl ⟨by rfl, ?_⟩) (by assumption) ?_
  rotate_left
  · intro w hSw
    try simp only [Cells, blk, List.cons_append, List.nil_append, and_true, Nat.reduceAdd, Nat.add_zero, Nat.zero_add] at hSw
    go_simp
    try with_reducible rfl
  simp only [Act.put, List.setIfInBounds_toArray, List.set_cons_zero, List.set_cons_succ]
  refine wpAnyH_ready (rs := [1]) (by kernel_rfl) (by simp) (AllReadyH.cons (o := _) (by rw [List.getElem?_toArray]; rfl) (fun K hK => ?_) AllReadyH.nil)
  go_simp
  go_at_call 21
  refine (H3.out _).mono ?_
  rintro e wb ⟨vc, rfl, hyc, hBb⟩
  refine hK.out _ _ (⟨hHeld.1.trans (hBb.mono (by have := hHeld.2.1; omega)), Nat.le_trans hHeld.2.1 hBb.size, hHeld.2.2.keep hBb⟩) (fun hHeld2 => ?_)
  replace hHeld := hHeld2
  clear hK K hHeld2
  try simp only [Act.put, List.setIfInBounds_toArray, List.set_cons_zero, List.set_cons_succ]
  skip
  refine wpAnyH_ready (rs := [3]) (by kernel_rfl) (by simp) (AllReadyH.cons (o := _) (by rw [List.getElem?_toArray]; rfl) (fun K hK => ?_) AllReadyH.nil)
  go_simp
  go_at_call 16
  refine (H4.out _).mono ?_
  rintro e wb ⟨rfl, hBb⟩
  refine hK.out _ _ (⟨hHeld.1.trans (hBb.mono (by have := hHeld.2.1; omega)), Nat.le_trans hHeld.2.1 hBb.size, hHeld.2.2.keep hBb⟩) (fun hHeld2 => ?_)
  replace hHeld := hHeld2
  clear hK K hHeld2
  try simp only [Act.put, List.setIfInBounds_toArray, List.set_cons_zero, List.set_cons_succ]
  have hyc := hyc.below hBb
  refine wpAnyH_take (i := 4) (oi := _) (v := ?_) (by rw [List.getElem?_toArray]; rfl) (by kernel_rfl) (by kernel_rfl) (by kernel_rfl) (by exact fun _ _ _ h => h) (Or.inl ⟨by rfl, ?_⟩) (by assumption) ?_
  rotate_left
  · intro w hSw
    try simp only [Cells, blk, List.cons_append, List.nil_append, and_true, Nat.reduceAdd, Nat.add_zero, Nat.zero_add] at hSw
    go_simp
    try with_reducible rfl
  simp only [Act.put, List.setIfInBounds_toArray, List.set_cons_zero, List.set_cons_succ]
  refine wpAnyH_take (i := 5) (oi := _) (v := ?_) (by rw [List.getElem?_toArray]; rfl) (by kernel_rfl) (by kernel_rfl) (by kernel_rfl) (by exact fun _ _ _ h => h) (Or.inl ⟨by rfl, ?_⟩) (by assumption) ?_
  rotate_left
  · intro w hSw
    try simp only [Cells, blk, List.cons_append, List.nil_append, and_true, Nat.reduceAdd, Nat.add_zero, Nat.zero_add] at hSw
    go_simp
    try with_reducible rfl
  simp only [Act.put, List.setIfInBounds_toArray, List.set_cons_zero, List.set_cons_succ]
  refine wpAnyH_done (by kernel_rfl) ?_ _
  have hlit2 : ∃ xo k xc, vc = .slice xo k xc ∧ k = X.length := by
    obtain ⟨⟨_, _, _, ao, cap, rfl, _⟩, _⟩ := hyc
    exact ⟨_, _, _, rfl, rfl⟩
  obtain ⟨xo, k, xc, rfl, hk⟩ := hlit2
  have e1 := E1.out
  rw [← hk] at e1
  have e1' : ((k : Int) == 2) = S := by rw [← e1, Bool.eq_iff_iff]; simp; omega
  have hU := hHeld.1
  clear hHeld hBb hk E1
  go_wp2_with fail
  go_at_call 18
  refine (H1.out _ _ hyc).mono ?_
  rintro e w2 ⟨rfl, hB2⟩
  clear hyc
  have hU2 := hU.trans (hB2.mono hU.size)
  have bV := Blk.new w2 25 [.int .u64 hi, .int .u64 lo]
  have hU3 := hU2.alloc hU2.size (.cells #[.int .u64 hi, .int .u64 lo] 25)
  go_upto_region 5 with fail
  generalize hV : World.alloc _ _ = V1 at bV hU3 ⊢
  clear hV
  go_wp2_with fail
  go_at_call 14
  refine (H2.out _ (kc HM.out hU3)).mono ?_
  rintro e w3 ⟨rfl, hB3⟩
  have bV2 := (bV.below hB3).alloc (.cells #[.int .u64 hi, .int .u64 lo] 25)
  have hU4 := hU3.trans (hB3.mono hU3.size)
  have bW := Blk.new w3 25 [.int .u64 hi, .int .u64 lo]
  have hU5 := hU4.alloc hU4.size (.cells #[.int .u64 hi, .int .u64 lo] 25)
  go_upto_region 6 with fail
  generalize hV : World.alloc _ _ = V2 at bV2 bW hU5 ⊢
  clear hV
  have T2 := ((HT.out.keep hU5).app bV2.cells).app bW.cells
  clear bV bV2 bW hB2 hB3 hU hU2 hU3 hU4
  have hOpen := T2
  simp only [Cells, blk, List.cons_append, List.nil_append, and_true, Nat.reduceAdd, Nat.add_zero, Nat.zero_add] at hOpen
  obtain ⟨m0, m1, m2, m3, m4, m5⟩ := hOpen
  go_wp2_with fail
  go_at_call 9
  refine (H5.out _).mono ?_
  rintro e w5 ⟨rfl, hB5⟩
  have hU6 := hU5.trans (hB5.mono hU5.size)
  have T3 := T2.keep hB5
  clear m0 m1 m2 m3 m4 m5 T2 hB5 hU5
  have hOpen := T3
  simp only [Cells, blk, List.cons_append, List.nil_append, and_true, Nat.reduceAdd, Nat.add_zero, Nat.zero_add] at hOpen
  obtain ⟨m0, m1, m2, m3, m4, m5⟩ := hOpen
  clear T3 H1 H2 H3 H4 H5
  go_wp2_with fail
  go_at_call 18
  refine (H6.out _ (HY.out.below hU6)).mono ?_
  rintro e w6 ⟨rfl, hB6⟩
  clear m0 m1 m2 m3 m4 m5
  have hU7 := hU6.trans (hB6.mono hU6.size)
  have bV := Blk.new w6 25 [.int .u64 A, .int .u64 B]
  have hU8 := hU7.alloc hU7.size (.cells #[.int .u64 A, .int .u64 B] 25)
  go_upto_region 10 with fail
  generalize hV : World.alloc _ _ = V3 at bV hU8 ⊢
  clear hV hU7 hB6 hU6
  have T4 := bV.cells
  have hOpen := T4
  simp only [Cells, blk, List.cons_append, List.nil_append, and_true, Nat.reduceAdd, Nat.add_zero, Nat.zero_add] at hOpen
  obtain ⟨m0, m1⟩ := hOpen
  clear T4 bV
  by_cases hC : C = 0
  · have hx := Q6.out hC
    subst hC
    have h7 := H7.out
    rw [hx] at h7
    have H7 := Lib.hid h7
    clear h7 Q6 hx
    go_wp2_with fail
    go_at_call 21
    refine (H7.out _).mono ?_
    rintro e w7 ⟨vz, rfl, hyz, hB7⟩
    have hU9 := hU8.trans (hB7.mono hU8.size)
    clear m0 m1 hB7 hU8
    go_wp2_with fail
    go_at_call 20
    refine (same_any _ _ _ _ _ hyz (HY.out.below hU9)).mono ?_
    rintro e w8 ⟨rfl, rfl⟩
    have hsm : decide (bs = bs) = true := by simp
    simp only [hsm]
    clear hsm hyz
    go_wp2_with fail
    go_at_call 14
    refine (H8.out _ (kc HM.out hU9)).mono ?_
    rintro e w9 ⟨rfl, hB9⟩
    have hU10 := hU9.trans (hB9.mono hU9.size)
    have bV := Blk.new w9 25 [.int .u64 D, .int .u64 E]
    have hU11 := hU10.alloc hU10.size (.cells #[.int .u64 D, .int .u64 E] 25)
    go_upto_region 13 with fail
    generalize hV : World.alloc _ _ = V4 at bV hU11 ⊢
    clear hV hU10 hU9 hB9
    have T5 := bV.cells
    have hOpen := T5
    simp only [Cells, blk, List.cons_append, List.nil_append, and_true, Nat.reduceAdd, Nat.add_zero, Nat.zero_add] at hOpen
    obtain ⟨n0, n1⟩ := hOpen
    clear T5 bV
    by_cases hF : F = 0
    · have hx := Q8.out hF
      subst hF
      have h9 := H9.out
      rw [hx] at h9
      generalize strB ss = SS at h9 ⊢
      have H9 := Lib.hid h9
      clear h9 Q8 hx
      go_wp2_with fail
      go_at_call 16
      refine (H9.out _).mono ?_
      rintro e w10 ⟨rfl, hB10⟩
      have hU12 := hU11.trans (hB10.mono hU11.size)
      clear n0 n1 hB10 hU11
      go_wp2_with fail
      go_at_call 13
      refine (example_any M _ (kc HM.out hU12)).mono ?_
      rintro e w11 ⟨rfl, hB11⟩
      go_wp2
      go_ret
      exact ⟨rfl, hB.trans ((hU12.trans (hB11.mono hU12.size)).mono hB.size)⟩
    · have g4 : (F == 0) = false := by simpa using hF
      go_wp2_with fail
      go_at_call 13
      refine (example_any M _ (kc HM.out hU11)).mono ?_
      rintro e w11 ⟨rfl, hB11⟩
      go_wp2
      go_ret
      exact ⟨rfl, hB.trans ((hU11.trans (hB11.mono hU11.size)).mono hB.size)⟩
  · have g3 : (C == 0) = false := by simpa using hC
    have g3' : (C == (0 : Int)) = false := g3
    have hU9 := hU8
    clear hU8
    go_wp2_with fail
    go_at_call 14
    refine (H8.out _ (kc HM.out hU9)).mono ?_
    rintro e w9 ⟨rfl, hB9⟩
    have hU10 := hU9.trans (hB9.mono hU9.size)
    have bV := Blk.new w9 25 [.int .u64 D, .int .u64 E]
    have hU11 := hU10.alloc hU10.size (.cells #[.int .u64 D, .int .u64 E] 25)
    go_upto_region 13 with fail
    generalize hV : World.alloc _ _ = V4 at bV hU11 ⊢
    clear hV hU10 hU9 hB9
    have T5 := bV.cells
    have hOpen := T5
    simp only [Cells, blk, List.cons_append, List.nil_append, and_true, Nat.reduceAdd, Nat.add_zero, Nat.zero_add] at hOpen
    obtain ⟨n0, n1⟩ := hOpen
    clear T5 bV
    by_cases hF : F = 0
    · have hx := Q8.out hF
      subst hF
      have h9 := H9.out
      rw [hx] at h9
      generalize strB ss = SS at h9 ⊢
      have H9 := Lib.hid h9
      clear h9 Q8 hx
      go_wp2_with fail
      go_at_call 16
      refine (H9.out _).mono ?_
      rintro e w10 ⟨rfl, hB10⟩
      have hU12 := hU11.trans (hB10.mono hU11.size)
      clear n0 n1 hB10 hU11
      go_wp2_with fail
      go_at_call 13
      refine (example_any M _ (kc HM.out hU12)).mono ?_
      rintro e w11 ⟨rfl, hB11⟩
      go_wp2
      go_ret
      exact ⟨rfl, hB.trans ((hU12.trans (hB11.mono hU12.size)).mono hB.size)⟩
    · have g4 : (F == 0) = false := by simpa using hF
      go_wp2_with fail
      go_at_call 13
      refine (example_any M _ (kc HM.out hU11)).mono ?_
      rintro e w11 ⟨rfl, hB11⟩
      go_wp2
      go_ret
      exact ⟨rfl, hB.trans ((hU11.trans (hB11.mono hU11.size)).mono hB.size)⟩
end Go.Proofs.YtolkjijnodejlaaDoor
