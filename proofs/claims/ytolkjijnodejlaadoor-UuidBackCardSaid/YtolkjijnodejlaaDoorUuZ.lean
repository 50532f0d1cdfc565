/- uuid: the chapter's example. -/
import Derived.Test.YtolkjijnodejlaaDoorUuY
namespace Go.Proofs.YtolkjijnodejlaaDoor
open Go.RowKit

/-- the example's short UUID -/
def exHi : Nat := 43980465115136
def exLo : Nat := 9223372588214596859
theorem exHi_lt : exHi < 18446744073709551616 := by decide +kernel
theorem exLo_lt : exLo < 18446744073709551616 := by decide +kernel
theorem ex_num : numI exHi exLo = 10240 ∧ isShort exHi exLo = true := by decide +kernel
theorem ex_enc : encB exHi exLo = [0, 40] := by decide +kernel
theorem ex_txt1 : txt exHi exLo = [50, 56, 48, 48] := by decide +kernel
theorem ex_txt2 : txt 1 2 = [48, 48, 48, 48, 48, 48, 48, 48, 45, 48, 48, 48, 48, 45, 48, 48, 48, 49, 45, 48, 48, 48, 48, 45, 48, 48, 48, 48, 48, 48, 48, 48, 48, 48, 48, 50] := by decide +kernel
theorem ex_p1 : prs [48, 48, 48, 48, 50, 56, 48, 48, 45, 48, 48, 48, 48, 45, 49, 48, 48, 48, 45, 56, 48, 48, 48, 45, 48, 48, 56, 48, 53, 102, 57, 98, 51, 52, 102, 98] = (0, 0, 2) := by rw [prs_C]; decide +kernel
theorem ex_p2 : prs [50, 56, 65, 48] = (0, 0, 2) := by rw [prs_C]; decide +kernel
theorem ex_p3 : prs [50, 56, 48, 48] = (exHi, exLo, 0) := by rw [prs_C]; decide +kernel
theorem ex_short (W : World) : Calls Tryd.prog 11 #[.int .u16 10240] W fun e w' => e = .returned (.agg #[.int .u64 (exHi : Nat), .int .u64 (exLo : Nat)]) ∧ Below W.heap.size W w' := short_any 10240 (by decide) W
theorem ex_number (W : World) : Calls Tryd.prog 9 #[.agg #[.int .u64 (exHi : Nat), .int .u64 (exLo : Nat)]] W fun e w' => e = .returned (.tuple #[.int .u16 10240, .bool true]) ∧ Below W.heap.size W w' := by
  have := number_any exHi exLo exHi_lt exLo_lt W
  rwa [ex_num.1, ex_num.2] at this
theorem ex_parse1 (M : Int) (W : World) (hc : W.cell? ⟨0, 0, none⟩ = some (.int .i64 M)) : Calls Tryd.prog 14 #[.string { data := #[48, 48, 48, 48, 50, 56, 48, 48, 45, 48, 48, 48, 48, 45, 49, 48, 48, 48, 45, 56, 48, 48, 48, 45, 48, 48, 56, 48, 53, 102, 57, 98, 51, 52, 102, 98] }] W fun e w' => e = .returned (.tuple #[.agg #[.int .u64 0, .int .u64 0], .int .i64 2]) ∧ Below W.heap.size W w' := by
  have := parse_any [48, 48, 48, 48, 50, 56, 48, 48, 45, 48, 48, 48, 48, 45, 49, 48, 48, 48, 45, 56, 48, 48, 48, 45, 48, 48, 56, 48, 53, 102, 57, 98, 51, 52, 102, 98] (by decide) (by decide) M W hc
  rw [ex_p1] at this
  exact this
theorem ex_parse2 (M : Int) (W : World) (hc : W.cell? ⟨0, 0, none⟩ = some (.int .i64 M)) : Calls Tryd.prog 14 #[.string { data := #[50, 56, 65, 48] }] W fun e w' => e = .returned (.tuple #[.agg #[.int .u64 0, .int .u64 0], .int .i64 2]) ∧ Below W.heap.size W w' := by
  have := parse_any [50, 56, 65, 48] (by decide) (by decide) M W hc
  rw [ex_p2] at this
  exact this
theorem ex_parse3 (M : Int) (W : World) (hc : W.cell? ⟨0, 0, none⟩ = some (.int .i64 M)) : Calls Tryd.prog 14 #[.string { data := #[50, 56, 48, 48] }] W fun e w' => e = .returned (.tuple #[.agg #[.int .u64 (exHi : Nat), .int .u64 (exLo : Nat)], .int .i64 0]) ∧ Below W.heap.size W w' := by
  have := parse_any [50, 56, 48, 48] (by decide) (by decide) M W hc
  rw [ex_p3] at this
  exact this
theorem ex_text1 (W : World) : Calls Tryd.prog 16 #[.agg #[.int .u64 (exHi : Nat), .int .u64 (exLo : Nat)]] W fun e w' => e = .returned (.string { data := #[50, 56, 48, 48] }) ∧ Below W.heap.size W w' := by
  have := text_any exHi exLo exHi_lt exLo_lt W
  rw [ex_txt1] at this
  exact this
theorem ex_text2 (W : World) : Calls Tryd.prog 16 #[.agg #[.int .u64 1, .int .u64 2]] W fun e w' => e = .returned (.string { data := #[48, 48, 48, 48, 48, 48, 48, 48, 45, 48, 48, 48, 48, 45, 48, 48, 48, 49, 45, 48, 48, 48, 48, 45, 48, 48, 48, 48, 48, 48, 48, 48, 48, 48, 48, 50] }) ∧ Below W.heap.size W w' := by
  have := text_any 1 2 (by decide) (by decide) W
  rw [ex_txt2] at this
  exact this
theorem ex_encode (W : World) : Calls Tryd.prog 21 #[.agg #[.int .u64 (exHi : Nat), .int .u64 (exLo : Nat)]] W fun e w' => ∃ v, e = .returned v ∧ BytesAt w' v [0, 40] ∧ Below W.heap.size W w' := by
  have := encode_any exHi exLo exHi_lt exLo_lt W
  rwa [ex_enc] at this
set_option linter.unusedSimpArgs false in
set_option linter.unusedVariables false in
set_option maxRecDepth 100000 in
set_option maxHeartbeats 2000000 in
theorem example_any (M : Int) (w : World) (hc : w.cell? ⟨0, 0, none⟩ = some (.int .i64 M)) : Calls Tryd.prog 13 #[] w fun e w' => e = .returned (.bool true) ∧ Below w.heap.size w w' := by
  have HC := Lib.hid hc
  have h1 := ex_short
  have h2 := ex_number
  have h3 := ex_parse3 M
  have h4 := ex_text1
  have h5 := ex_encode
  generalize exHi = HI at h1 h2 h3 h4 h5
  generalize exLo = LO at h1 h2 h3 h4 h5
  have H1 := Lib.hid h1
  have H2 := Lib.hid h2
  have H3 := Lib.hid h3
  have H4 := Lib.hid h4
  have H5 := Lib.hid h5
  clear hc h1 h2 h3 h4 h5
  go_enter Tryd.func13, Tryd.ntmps13
  go_wp2_with fail
  go_at_call 11
  refine (H1.out _).mono ?_
  rintro e w1 ⟨rfl, hB1⟩
  have bU := Blk.new w1 25 [.int .u64 HI, .int .u64 LO]
  have hB2 := hB1.alloc hB1.size (.cells #[.int .u64 HI, .int .u64 LO] 25)
  have hz1 := hB1.size
  go_upto_region 2 with fail
  generalize hV : World.alloc _ _ = X at bU hB2 ⊢
  clear hV hB1
  have TU := bU.cells
  have hOpen := TU
  simp only [Cells, blk, List.cons_append, List.nil_append, and_true, Nat.reduceAdd, Nat.add_zero, Nat.zero_add] at hOpen
  obtain ⟨c0, c1⟩ := hOpen
  have HBU := Lib.hid bU
  have HBL := Lib.hid hB2
  clear bU hB2 TU
  go_wp2_with fail
  go_at_call 9
  refine (H2.out _).mono ?_
  rintro e w2 ⟨rfl, hBn⟩
  have bU := HBU.out.below hBn
  have hB2 := HBL.out.trans (hBn.mono HBL.out.size)
  clear c0 c1 hBn HBU HBL
  have TU := bU.cells
  have hOpen := TU
  simp only [Cells, blk, List.cons_append, List.nil_append, and_true, Nat.reduceAdd, Nat.add_zero, Nat.zero_add] at hOpen
  obtain ⟨c0, c1⟩ := hOpen
  have HBU := Lib.hid bU
  have HBL := Lib.hid hB2
  clear bU hB2 TU
  go_wp2_with fail
  go_at_call 14
  refine (ex_parse1 M _ (kc HC.out HBL.out)).mono ?_
  rintro e w3 ⟨rfl, hBn⟩
  have bU := HBU.out.below hBn
  have hB2 := HBL.out.trans (hBn.mono HBL.out.size)
  clear c0 c1 hBn HBU HBL
  replace bU := bU.alloc (.cells #[.int .u64 0, .int .u64 0] 25)
  replace hB2 := hB2.alloc hB2.size (.cells #[.int .u64 0, .int .u64 0] 25)
  go_upto_region 4 with fail
  generalize hV : World.alloc _ _ = X3 at bU hB2 ⊢
  clear hV
  have TU := bU.cells
  have hOpen := TU
  simp only [Cells, blk, List.cons_append, List.nil_append, and_true, Nat.reduceAdd, Nat.add_zero, Nat.zero_add] at hOpen
  obtain ⟨c0, c1⟩ := hOpen
  have HBU := Lib.hid bU
  have HBL := Lib.hid hB2
  clear bU hB2 TU
  go_wp2_with fail
  go_at_call 14
  refine (ex_parse2 M _ (kc HC.out HBL.out)).mono ?_
  rintro e w4 ⟨rfl, hBn⟩
  have bU := HBU.out.below hBn
  have hB2 := HBL.out.trans (hBn.mono HBL.out.size)
  clear c0 c1 hBn HBU HBL
  replace bU := bU.alloc (.cells #[.int .u64 0, .int .u64 0] 25)
  replace hB2 := hB2.alloc hB2.size (.cells #[.int .u64 0, .int .u64 0] 25)
  go_upto_region 5 with fail
  generalize hV : World.alloc _ _ = X4 at bU hB2 ⊢
  clear hV
  have TU := bU.cells
  have hOpen := TU
  simp only [Cells, blk, List.cons_append, List.nil_append, and_true, Nat.reduceAdd, Nat.add_zero, Nat.zero_add] at hOpen
  obtain ⟨c0, c1⟩ := hOpen
  have HBU := Lib.hid bU
  have HBL := Lib.hid hB2
  clear bU hB2 TU
  go_wp2_with fail
  go_at_call 14
  refine (H3.out _ (kc HC.out HBL.out)).mono ?_
  rintro e w5 ⟨rfl, hBn⟩
  have bU := HBU.out.below hBn
  have hB2 := HBL.out.trans (hBn.mono HBL.out.size)
  clear c0 c1 hBn HBU HBL
  have bV := Blk.new w5 25 [.int .u64 HI, .int .u64 LO]
  replace bU := bU.alloc (.cells #[.int .u64 HI, .int .u64 LO] 25)
  replace hB2 := hB2.alloc hB2.size (.cells #[.int .u64 HI, .int .u64 LO] 25)
  go_upto_region 6 with fail
  generalize hV : World.alloc _ _ = X5 at bU hB2 bV ⊢
  clear hV
  have TU := bU.cells
  have hOpen := TU
  simp only [Cells, blk, List.cons_append, List.nil_append, and_true, Nat.reduceAdd, Nat.add_zero, Nat.zero_add] at hOpen
  obtain ⟨c0, c1⟩ := hOpen
  have HBU := Lib.hid bU
  have HBV := Lib.hid bV
  have HBL := Lib.hid hB2
  clear bU hB2 TU bV
  go_wp2_with fail
  go_at_call 21
  refine (H5.out _).mono ?_
  rintro e w6 ⟨v6, rfl, hby, hBn⟩
  have bU := HBU.out.below hBn
  have bV := HBV.out.below hBn
  have hB2 := HBL.out.trans (hBn.mono HBL.out.size)
  clear c0 c1 hBn HBU HBL HBV
  have bA := Blk.new w6 5 [.int .u8 0, .int .u8 40]
  have hby6 : BytesAt (w6.alloc (.cells #[.int .u8 0, .int .u8 40] 5)) v6 [0, 40] := hby.below ((Below.refl _ _).alloc (Nat.le_refl _) _)
  have hby7 : BytesAt (w6.alloc (.cells #[.int .u8 0, .int .u8 40] 5)) (.slice (some ⟨w6.heap.size, 0, none⟩) 2 2) [0, 40] := bytesAt_of_blk (bs := [0, 40]) bA rfl (by decide) (by decide)
  replace bU := bU.alloc (.cells #[.int .u8 0, .int .u8 40] 5)
  replace bV := bV.alloc (.cells #[.int .u8 0, .int .u8 40] 5)
  replace hB2 := hB2.alloc hB2.size (.cells #[.int .u8 0, .int .u8 40] 5)
  have TU := bU.cells
  have hOpen := TU
  simp only [Cells, blk, List.cons_append, List.nil_append, and_true, Nat.reduceAdd, Nat.add_zero, Nat.zero_add] at hOpen
  obtain ⟨c0, c1⟩ := hOpen
  have HBU := Lib.hid bU
  have HBV := Lib.hid bV
  have HBL := Lib.hid hB2
  have HY6 := Lib.hid hby6
  have HY7 := Lib.hid hby7
  clear bU hB2 TU bV hby hby6 hby7 bA
  go_wp2_with fail
  go_at_call 20
  refine (same_any _ _ _ _ _ HY6.out HY7.out).mono ?_
  rintro e w7 ⟨rfl, rfl⟩
  have hde : decide ([0, 40] = ([0, 40] : List Nat)) = true := by decide
  go_wp2_with fail
  go_at_call 16
  refine (H4.out _).mono ?_
  rintro e w8 ⟨rfl, hBn⟩
  have bU := HBU.out.below hBn
  have bV := HBV.out.below hBn
  have hB2 := HBL.out.trans (hBn.mono HBL.out.size)
  clear c0 c1 hBn HBU HBL HBV HY6 HY7
  go_wp2_with fail
  go_at_call 16
  refine (ex_text2 _).mono ?_
  rintro e w9 ⟨rfl, hBn⟩
  replace bU := bU.below hBn
  replace bV := bV.below hBn
  replace hB2 := hB2.trans (hBn.mono hB2.size)
  have TU := bU.cells
  have hOpen := TU
  simp only [Cells, blk, List.cons_append, List.nil_append, and_true, Nat.reduceAdd, Nat.add_zero, Nat.zero_add] at hOpen
  obtain ⟨c0, c1⟩ := hOpen
  have TV := bV.cells
  have hOpen := TV
  simp only [Cells, blk, List.cons_append, List.nil_append, and_true, Nat.reduceAdd, Nat.add_zero, Nat.zero_add] at hOpen
  obtain ⟨d0, d1⟩ := hOpen
  have HBL := Lib.hid hB2
  clear bU bV hB2 TU TV hBn
  go_wp2
  go_ret
  exact ⟨by simp, HBL.out⟩
end Go.Proofs.YtolkjijnodejlaaDoor
