/- attpdu: the reference: taken. attpdu: the reference: taken. attpdu: the reference: taken. -/
import Derived.Test.YthnffdlnhfhabaaAvD
namespace Go.Proofs.Ythnffdlnhfhabaa
open Go.RowKit

set_option linter.unusedSimpArgs false in
set_option linter.unusedVariables false in
set_option maxRecDepth 100000 in
set_option maxHeartbeats 4000000 in
theorem tak_AHC (x : Nat) (hk : fldC (x : Int) = some [65, 72, 67]) (a : Option Addr) (n c : Nat) (b : List Nat) (w : World) (h : BytesAt w (.slice a n c) b) (hn : b.length = n) (hc : n ≤ c) (hK : 5 ≤ n) (hm : n ≤ 1000) :
    Calls Try.prog 40 #[.agg #[.int .i64 x, .int .i64 0, .int .u16 0, .int .u16 0, .int .u64 0, .int .u64 0, .int .i64 0, .int .i64 0, .int .i64 0, .bool false, .slice none 0 0, .slice none 0 0], .slice a n c] w (TakPost w x ⟨((vnum ((b.drop 1).take 1) : Nat) : Int), vnum ((b.drop 2).take 2), 0, 0, 0, ((vnum ((b.drop 4).take 1) : Nat) : Int), false⟩ 0 (b.drop 5) 0) := by
  have hf : ∀ W, Calls Try.prog 28 #[.int .i64 x] W (fun e w' => e = .returned (.agg #[.bool true, .bool true, .bool true, .bool false, .bool false, .bool false, .bool false, .bool true, .bool false, .bool false, .bool false]) ∧ Below W.heap.size W w') := fun W => by
    have h := rfields_any x W
    rw [hk] at h
    exact h
  have hz := build_pdu
  have hlt := h.2.2
  obtain ⟨bb, off, ea0, kx0, hVb0⟩ := byte_at h hn 1 (by omega)
  obtain ⟨V0, hV0⟩ : ∃ v, vnum ((b.drop 1).take 1) = v := ⟨_, rfl⟩
  rw [hV0] at kx0 hVb0 ⊢
  have hb0 : (V0 : Int) < 256 := by omega
  have HK0 := Lib.hid kx0
  have hi0 : (1 : Int) < (n : Int) := by omega
  clear hV0 kx0
  have hn1 := fun W (hW : Below w.heap.size w W) => num_any _ b 2 2 W (h.below hW) (by omega) (by omega) (by omega)
  have hVb1 := vnum2_lt (b.drop 2) (fun y hy => hlt y (List.mem_of_mem_drop hy))
  obtain ⟨V1, hV1⟩ : ∃ v, vnum ((b.drop 2).take 2) = v := ⟨_, rfl⟩
  rw [hV1] at hVb1 ⊢
  simp only [hV1] at hn1
  have HN1 := Lib.hid hn1
  have hw1 : IntKind.u16.wrap (V1 : Int) = (V1 : Int) := IntWalk.u16_in _ (by omega)
  have hb1 : (V1 : Int) < 65536 := by omega
  clear hn1 hV1
  obtain ⟨b2, o2, ea2, kx2, hVb2⟩ := byte_at h hn 4 (by omega)
  rw [ea0] at ea2
  simp only [Option.some.injEq, Addr.mk.injEq, and_true] at ea2
  obtain ⟨rfl, rfl⟩ := ea2
  obtain ⟨V2, hV2⟩ : ∃ v, vnum ((b.drop 4).take 1) = v := ⟨_, rfl⟩
  rw [hV2] at kx2 hVb2 ⊢
  have hb2 : (V2 : Int) < 256 := by omega
  have HK2 := Lib.hid kx2
  have hi2 : (4 : Int) < (n : Int) := by omega
  clear hV2 kx2
  subst ea0
  have HFf := Lib.hid hf
  have hB := ((Below.refl w.heap.size w).alloc (Nat.le_refl _) (.cells #[.int .i64 x, .int .i64 0, .int .u16 0, .int .u16 0, .int .u64 0, .int .u64 0, .int .i64 0, .int .i64 0, .int .i64 0, .bool false, .slice none 0 0, .slice none 0 0] 29)).alloc (by simp) (.cells #[.int .i64 0, .int .i64 0, .int .u16 0, .int .u16 0, .int .u64 0, .int .u64 0, .int .i64 0, .int .i64 0, .int .i64 0, .bool false, .slice none 0 0, .slice none 0 0] 29)
  have bP := (Blk.new w 29 [.int .i64 x, .int .i64 0, .int .u16 0, .int .u16 0, .int .u64 0, .int .u64 0, .int .i64 0, .int .i64 0, .int .i64 0, .bool false, .slice none 0 0, .slice none 0 0]).alloc (.cells #[.int .i64 0, .int .i64 0, .int .u16 0, .int .u16 0, .int .u64 0, .int .u64 0, .int .i64 0, .int .i64 0, .int .i64 0, .bool false, .slice none 0 0, .slice none 0 0] 29)
  have bR := Blk.new (w.alloc (.cells #[.int .i64 x, .int .i64 0, .int .u16 0, .int .u16 0, .int .u64 0, .int .u64 0, .int .i64 0, .int .i64 0, .int .i64 0, .bool false, .slice none 0 0, .slice none 0 0] 29)) 29 [.int .i64 0, .int .i64 0, .int .u16 0, .int .u16 0, .int .u64 0, .int .u64 0, .int .i64 0, .int .i64 0, .int .i64 0, .bool false, .slice none 0 0, .slice none 0 0]
  simp only [World.size_alloc] at bR
  clear hf hk h hlt hn
  go_enter Try.func40, Try.ntmps40
  go_upto_region 1 with fail
  generalize World.alloc _ _ = X at bP bR hB ⊢
  have HB := Lib.hid hB
  have HP := Lib.hid bP
  have HR := Lib.hid bR
  have TP := bP.cells
  have hOpen := TP
  simp only [Cells, blk, List.cons_append, List.nil_append, and_true, Nat.reduceAdd, Nat.add_zero, Nat.zero_add] at hOpen
  obtain ⟨y0, y1, y2, y3, y4, y5, y6, y7, y8, y9, yA, yB⟩ := hOpen
  clear TP bP bR hB
  go_wp2_with fail
  refine (HFf.out _).mono ?_
  rintro e w1 ⟨rfl, hB1⟩
  have hneU : w1.heap.size ≠ w.heap.size := by have := HP.out.lt; have := hB1.size; omega
  have hneR : w.heap.size + 1 ≠ w.heap.size := by omega
  have hUlt : w.heap.size + 1 < w1.heap.size := Nat.lt_of_lt_of_le HR.out.lt hB1.size
  have bP := (HP.out.below hB1).alloc (.cells #[.bool true, .bool true, .bool true, .bool false, .bool false, .bool false, .bool false, .bool true, .bool false, .bool false, .bool false] 58)
  have bR := (HR.out.below hB1).alloc (.cells #[.bool true, .bool true, .bool true, .bool false, .bool false, .bool false, .bool false, .bool true, .bool false, .bool false, .bool false] 58)
  have bU := Blk.new w1 58 [.bool true, .bool true, .bool true, .bool false, .bool false, .bool false, .bool false, .bool true, .bool false, .bool false, .bool false]
  have hB2 := HB.out.trans (hB1.mono HB.out.size)
  have hB3 := hB2.alloc hB2.size (.cells #[.bool true, .bool true, .bool true, .bool false, .bool false, .bool false, .bool false, .bool true, .bool false, .bool false, .bool false] 58)
  clear y0 y1 y2 y3 y4 y5 y6 y7 y8 y9 yA yB hB1 hB2 HB HP HR HFf
  go_upto_region 2 with fail
  generalize World.alloc _ _ = W0 at bP bR bU hB3 ⊢
  have HP0 := Lib.hid bP
  have HR0 := Lib.hid bR
  have HU0 := Lib.hid bU
  have HB0 := Lib.hid hB3
  clear bP bR bU hB3
  have TP := HP0.out.cells
  have TU := HU0.out.cells
  have hOpen := TP
  simp only [Cells, blk, List.cons_append, List.nil_append, and_true, Nat.reduceAdd, Nat.add_zero, Nat.zero_add] at hOpen
  obtain ⟨y0, y1, y2, y3, y4, y5, y6, y7, y8, y9, yA, yB⟩ := hOpen
  have hOpen := TU
  simp only [Cells, blk, List.cons_append, List.nil_append, and_true, Nat.reduceAdd, Nat.add_zero, Nat.zero_add] at hOpen
  obtain ⟨u0, u1, u2, u3, u4, u5, u6, u7, u8, u9, uA⟩ := hOpen
  clear TP TU
  have fz := HP0.out.frozen 1
  have kx := kc HK0.out HB0.out
  have bP' := HP0.out.setAt (j := 1) (.int .i64 V0)
  simp only [List.set_cons_zero, List.set_cons_succ] at bP'
  have HX := Lib.hid (And.intro bP' (And.intro (HR0.out.other hneR (o := 1) (.int .i64 V0)) (And.intro (HU0.out.other hneU (o := 1) (.int .i64 V0)) (HB0.out.setCell (p := ⟨w.heap.size, 1, none⟩) (Nat.le_refl _) (.int .i64 V0)))))
  clear bP'
  go_upto_region 7 with fail
  clear fz y0 y1 y2 y3 y4 y5 y6 y7 y8 y9 yA yB u0 u1 u2 u3 u4 u5 u6 u7 u8 u9 uA HP0 HR0 HU0 HB0 kx
  generalize World.setCell _ _ _ = W1 at HX ⊢
  have HP1 := Lib.hid HX.out.1
  have HR1 := Lib.hid HX.out.2.1
  have HU1 := Lib.hid HX.out.2.2.1
  have HB1 := Lib.hid HX.out.2.2.2
  clear HX
  have TP := HP1.out.cells
  have TU := HU1.out.cells
  have hOpen := TP
  simp only [Cells, blk, List.cons_append, List.nil_append, and_true, Nat.reduceAdd, Nat.add_zero, Nat.zero_add] at hOpen
  obtain ⟨y0, y1, y2, y3, y4, y5, y6, y7, y8, y9, yA, yB⟩ := hOpen
  have hOpen := TU
  simp only [Cells, blk, List.cons_append, List.nil_append, and_true, Nat.reduceAdd, Nat.add_zero, Nat.zero_add] at hOpen
  obtain ⟨u0, u1, u2, u3, u4, u5, u6, u7, u8, u9, uA⟩ := hOpen
  clear TP TU
  have fz := HP1.out.frozen 2
  go_wp2_with fail
  refine (HN1.out _ HB1.out).mono ?_
  rintro e w' ⟨rfl, rfl⟩
  have bP' := HP1.out.setAt (j := 2) (.int .u16 V1)
  simp only [List.set_cons_zero, List.set_cons_succ] at bP'
  have HX := Lib.hid (And.intro bP' (And.intro (HR1.out.other hneR (o := 2) (.int .u16 V1)) (And.intro (HU1.out.other hneU (o := 2) (.int .u16 V1)) (HB1.out.setCell (p := ⟨w.heap.size, 2, none⟩) (Nat.le_refl _) (.int .u16 V1)))))
  clear bP'
  go_upto_region 10 with fail
  clear fz y0 y1 y2 y3 y4 y5 y6 y7 y8 y9 yA yB u0 u1 u2 u3 u4 u5 u6 u7 u8 u9 uA HP1 HR1 HU1 HB1
  generalize World.setCell _ _ _ = W2 at HX ⊢
  have HP2 := Lib.hid HX.out.1
  have HR2 := Lib.hid HX.out.2.1
  have HU2 := Lib.hid HX.out.2.2.1
  have HB2 := Lib.hid HX.out.2.2.2
  clear HX
  have TP := HP2.out.cells
  have TU := HU2.out.cells
  have hOpen := TP
  simp only [Cells, blk, List.cons_append, List.nil_append, and_true, Nat.reduceAdd, Nat.add_zero, Nat.zero_add] at hOpen
  obtain ⟨y0, y1, y2, y3, y4, y5, y6, y7, y8, y9, yA, yB⟩ := hOpen
  have hOpen := TU
  simp only [Cells, blk, List.cons_append, List.nil_append, and_true, Nat.reduceAdd, Nat.add_zero, Nat.zero_add] at hOpen
  obtain ⟨u0, u1, u2, u3, u4, u5, u6, u7, u8, u9, uA⟩ := hOpen
  clear TP TU
  have fz := HP2.out.frozen 8
  have kx := kc HK2.out HB2.out
  have bP' := HP2.out.setAt (j := 8) (.int .i64 V2)
  simp only [List.set_cons_zero, List.set_cons_succ] at bP'
  have HX := Lib.hid (And.intro bP' (And.intro (HR2.out.other hneR (o := 8) (.int .i64 V2)) (And.intro (HU2.out.other hneU (o := 8) (.int .i64 V2)) (HB2.out.setCell (p := ⟨w.heap.size, 8, none⟩) (Nat.le_refl _) (.int .i64 V2)))))
  clear bP'
  go_upto_region 25 with fail
  clear fz y0 y1 y2 y3 y4 y5 y6 y7 y8 y9 yA yB u0 u1 u2 u3 u4 u5 u6 u7 u8 u9 uA HP2 HR2 HU2 HB2 kx
  generalize World.setCell _ _ _ = W3 at HX ⊢
  have HP3 := Lib.hid HX.out.1
  have HR3 := Lib.hid HX.out.2.1
  have HU3 := Lib.hid HX.out.2.2.1
  have HB3 := Lib.hid HX.out.2.2.2
  clear HX
  have TP := HP3.out.cells
  have TU := HU3.out.cells
  have hOpen := TP
  simp only [Cells, blk, List.cons_append, List.nil_append, and_true, Nat.reduceAdd, Nat.add_zero, Nat.zero_add] at hOpen
  obtain ⟨y0, y1, y2, y3, y4, y5, y6, y7, y8, y9, yA, yB⟩ := hOpen
  have hOpen := TU
  simp only [Cells, blk, List.cons_append, List.nil_append, and_true, Nat.reduceAdd, Nat.add_zero, Nat.zero_add] at hOpen
  obtain ⟨u0, u1, u2, u3, u4, u5, u6, u7, u8, u9, uA⟩ := hOpen
  clear TP TU
  go_upto_region 31 with fail
  clear y0 y1 y2 y3 y4 y5 y6 y7 y8 y9 yA yB u0 u1 u2 u3 u4 u5 u6 u7 u8 u9 uA
  have TP := HP3.out.cells
  have hOpen := TP
  simp only [Cells, blk, List.cons_append, List.nil_append, and_true, Nat.reduceAdd, Nat.add_zero, Nat.zero_add] at hOpen
  obtain ⟨y0, y1, y2, y3, y4, y5, y6, y7, y8, y9, yA, yB⟩ := hOpen
  have TR := HR3.out.cells
  have hOpen := TR
  simp only [Cells, blk, List.cons_append, List.nil_append, and_true, Nat.reduceAdd, Nat.add_zero, Nat.zero_add] at hOpen
  obtain ⟨s0, s1, s2, s3, s4, s5, s6, s7, s8, s9, sA, sB⟩ := hOpen
  have g0 := HR3.out.frozen 0
  have g1 := HR3.out.frozen 1
  have g2 := HR3.out.frozen 2
  have g3 := HR3.out.frozen 3
  have g4 := HR3.out.frozen 4
  have g5 := HR3.out.frozen 5
  have g6 := HR3.out.frozen 6
  have g7 := HR3.out.frozen 7
  have g8 := HR3.out.frozen 8
  have g9 := HR3.out.frozen 9
  have gA := HR3.out.frozen 10
  have gB := HR3.out.frozen 11
  obtain ⟨b12, h12, _⟩ := set12 HR3.out (.int .i64 x) (.int .i64 V0) (.int .u16 V1) (.int .u16 0) (.int .u64 0) (.int .u64 0) (.int .i64 0) (.int .i64 0) (.int .i64 V2) (.bool false) (.slice none 0 0) (.slice none 0 0)
  have HF := Lib.hid (h12 w.heap.size w (by simp) HB3.out)
  obtain ⟨r0, r1, r2, r3, r4, r5, r6, r7, r8, r9, rA, rB, _⟩ := b12.cells
  simp only [Nat.zero_add, Nat.add_zero] at r0 r1 r2 r3 r4 r5 r6 r7 r8 r9 rA rB
  clear TP TR b12 h12
  go_wp2
  refine bodyPost_ret (v := .tuple #[.agg #[.int .i64 x, .int .i64 V0, .int .u16 V1, .int .u16 0, .int .u64 0, .int .u64 0, .int .i64 0, .int .i64 0, .int .i64 V2, .bool false, .slice none 0 0, .slice none 0 0], .int .i64 0]) (by simp [results, Try.results40, go_sem, r0, r1, r2, r3, r4, r5, r6, r7, r8, r9, rA, rB]) rfl ?_
  exact ⟨0, 0, none, 0, 0, [], none, 0, 0, [], rfl, HF.out, fun h0 => ⟨rfl, nil_u8 _ _, rfl, by omega, by simp, nil_items _ _, by simp, rfl, by omega, by simp⟩⟩
set_option linter.unusedSimpArgs false in
set_option linter.unusedVariables false in
set_option maxRecDepth 100000 in
set_option maxHeartbeats 4000000 in
theorem tak_M (x : Nat) (hk : fldC (x : Int) = some [77]) (a : Option Addr) (n c : Nat) (b : List Nat) (w : World) (h : BytesAt w (.slice a n c) b) (hn : b.length = n) (hc : n ≤ c) (hK : 3 ≤ n) (hm : n ≤ 1000) :
    Calls Try.prog 40 #[.agg #[.int .i64 x, .int .i64 0, .int .u16 0, .int .u16 0, .int .u64 0, .int .u64 0, .int .i64 0, .int .i64 0, .int .i64 0, .bool false, .slice none 0 0, .slice none 0 0], .slice a n c] w (TakPost w x ⟨0, 0, 0, 0, ((vnum ((b.drop 1).take 2) : Nat) : Int), 0, false⟩ 0 (b.drop 3) 0) := by
  have hf : ∀ W, Calls Try.prog 28 #[.int .i64 x] W (fun e w' => e = .returned (.agg #[.bool true, .bool false, .bool false, .bool false, .bool false, .bool false, .bool true, .bool false, .bool false, .bool false, .bool false]) ∧ Below W.heap.size W w') := fun W => by
    have h := rfields_any x W
    rw [hk] at h
    exact h
  have hz := build_pdu
  have hlt := h.2.2
  have hn0 := fun W (hW : Below w.heap.size w W) => num_any _ b 1 2 W (h.below hW) (by omega) (by omega) (by omega)
  have hVb0 := vnum2_lt (b.drop 1) (fun y hy => hlt y (List.mem_of_mem_drop hy))
  obtain ⟨V0, hV0⟩ : ∃ v, vnum ((b.drop 1).take 2) = v := ⟨_, rfl⟩
  rw [hV0] at hVb0 ⊢
  simp only [hV0] at hn0
  have HN0 := Lib.hid hn0
  have hw0 : IntKind.u16.wrap (V0 : Int) = (V0 : Int) := IntWalk.u16_in _ (by omega)
  have hb0 : (V0 : Int) < 65536 := by omega
  clear hn0 hV0
  have HFf := Lib.hid hf
  have hB := ((Below.refl w.heap.size w).alloc (Nat.le_refl _) (.cells #[.int .i64 x, .int .i64 0, .int .u16 0, .int .u16 0, .int .u64 0, .int .u64 0, .int .i64 0, .int .i64 0, .int .i64 0, .bool false, .slice none 0 0, .slice none 0 0] 29)).alloc (by simp) (.cells #[.int .i64 0, .int .i64 0, .int .u16 0, .int .u16 0, .int .u64 0, .int .u64 0, .int .i64 0, .int .i64 0, .int .i64 0, .bool false, .slice none 0 0, .slice none 0 0] 29)
  have bP := (Blk.new w 29 [.int .i64 x, .int .i64 0, .int .u16 0, .int .u16 0, .int .u64 0, .int .u64 0, .int .i64 0, .int .i64 0, .int .i64 0, .bool false, .slice none 0 0, .slice none 0 0]).alloc (.cells #[.int .i64 0, .int .i64 0, .int .u16 0, .int .u16 0, .int .u64 0, .int .u64 0, .int .i64 0, .int .i64 0, .int .i64 0, .bool false, .slice none 0 0, .slice none 0 0] 29)
  have bR := Blk.new (w.alloc (.cells #[.int .i64 x, .int .i64 0, .int .u16 0, .int .u16 0, .int .u64 0, .int .u64 0, .int .i64 0, .int .i64 0, .int .i64 0, .bool false, .slice none 0 0, .slice none 0 0] 29)) 29 [.int .i64 0, .int .i64 0, .int .u16 0, .int .u16 0, .int .u64 0, .int .u64 0, .int .i64 0, .int .i64 0, .int .i64 0, .bool false, .slice none 0 0, .slice none 0 0]
  simp only [World.size_alloc] at bR
  clear hf hk h hlt hn
  go_enter Try.func40, Try.ntmps40
  go_upto_region 1 with fail
  generalize World.alloc _ _ = X at bP bR hB ⊢
  have HB := Lib.hid hB
  have HP := Lib.hid bP
  have HR := Lib.hid bR
  have TP := bP.cells
  have hOpen := TP
  simp only [Cells, blk, List.cons_append, List.nil_append, and_true, Nat.reduceAdd, Nat.add_zero, Nat.zero_add] at hOpen
  obtain ⟨y0, y1, y2, y3, y4, y5, y6, y7, y8, y9, yA, yB⟩ := hOpen
  clear TP bP bR hB
  go_wp2_with fail
  refine (HFf.out _).mono ?_
  rintro e w1 ⟨rfl, hB1⟩
  have hneU : w1.heap.size ≠ w.heap.size := by have := HP.out.lt; have := hB1.size; omega
  have hneR : w.heap.size + 1 ≠ w.heap.size := by omega
  have hUlt : w.heap.size + 1 < w1.heap.size := Nat.lt_of_lt_of_le HR.out.lt hB1.size
  have bP := (HP.out.below hB1).alloc (.cells #[.bool true, .bool false, .bool false, .bool false, .bool false, .bool false, .bool true, .bool false, .bool false, .bool false, .bool false] 58)
  have bR := (HR.out.below hB1).alloc (.cells #[.bool true, .bool false, .bool false, .bool false, .bool false, .bool false, .bool true, .bool false, .bool false, .bool false, .bool false] 58)
  have bU := Blk.new w1 58 [.bool true, .bool false, .bool false, .bool false, .bool false, .bool false, .bool true, .bool false, .bool false, .bool false, .bool false]
  have hB2 := HB.out.trans (hB1.mono HB.out.size)
  have hB3 := hB2.alloc hB2.size (.cells #[.bool true, .bool false, .bool false, .bool false, .bool false, .bool false, .bool true, .bool false, .bool false, .bool false, .bool false] 58)
  clear y0 y1 y2 y3 y4 y5 y6 y7 y8 y9 yA yB hB1 hB2 HB HP HR HFf
  go_upto_region 2 with fail
  generalize World.alloc _ _ = W0 at bP bR bU hB3 ⊢
  have HP0 := Lib.hid bP
  have HR0 := Lib.hid bR
  have HU0 := Lib.hid bU
  have HB0 := Lib.hid hB3
  clear bP bR bU hB3
  have TP := HP0.out.cells
  have TU := HU0.out.cells
  have hOpen := TP
  simp only [Cells, blk, List.cons_append, List.nil_append, and_true, Nat.reduceAdd, Nat.add_zero, Nat.zero_add] at hOpen
  obtain ⟨y0, y1, y2, y3, y4, y5, y6, y7, y8, y9, yA, yB⟩ := hOpen
  have hOpen := TU
  simp only [Cells, blk, List.cons_append, List.nil_append, and_true, Nat.reduceAdd, Nat.add_zero, Nat.zero_add] at hOpen
  obtain ⟨u0, u1, u2, u3, u4, u5, u6, u7, u8, u9, uA⟩ := hOpen
  clear TP TU
  have fz := HP0.out.frozen 7
  go_wp2_with fail
  refine (HN0.out _ HB0.out).mono ?_
  rintro e w' ⟨rfl, rfl⟩
  have bP' := HP0.out.setAt (j := 7) (.int .i64 V0)
  simp only [List.set_cons_zero, List.set_cons_succ] at bP'
  have HX := Lib.hid (And.intro bP' (And.intro (HR0.out.other hneR (o := 7) (.int .i64 V0)) (And.intro (HU0.out.other hneU (o := 7) (.int .i64 V0)) (HB0.out.setCell (p := ⟨w.heap.size, 7, none⟩) (Nat.le_refl _) (.int .i64 V0)))))
  clear bP'
  go_upto_region 23 with fail
  clear fz y0 y1 y2 y3 y4 y5 y6 y7 y8 y9 yA yB u0 u1 u2 u3 u4 u5 u6 u7 u8 u9 uA HP0 HR0 HU0 HB0
  generalize World.setCell _ _ _ = W1 at HX ⊢
  have HP1 := Lib.hid HX.out.1
  have HR1 := Lib.hid HX.out.2.1
  have HU1 := Lib.hid HX.out.2.2.1
  have HB1 := Lib.hid HX.out.2.2.2
  clear HX
  have TP := HP1.out.cells
  have TU := HU1.out.cells
  have hOpen := TP
  simp only [Cells, blk, List.cons_append, List.nil_append, and_true, Nat.reduceAdd, Nat.add_zero, Nat.zero_add] at hOpen
  obtain ⟨y0, y1, y2, y3, y4, y5, y6, y7, y8, y9, yA, yB⟩ := hOpen
  have hOpen := TU
  simp only [Cells, blk, List.cons_append, List.nil_append, and_true, Nat.reduceAdd, Nat.add_zero, Nat.zero_add] at hOpen
  obtain ⟨u0, u1, u2, u3, u4, u5, u6, u7, u8, u9, uA⟩ := hOpen
  clear TP TU
  go_upto_region 31 with fail
  clear y0 y1 y2 y3 y4 y5 y6 y7 y8 y9 yA yB u0 u1 u2 u3 u4 u5 u6 u7 u8 u9 uA
  have TP := HP1.out.cells
  have hOpen := TP
  simp only [Cells, blk, List.cons_append, List.nil_append, and_true, Nat.reduceAdd, Nat.add_zero, Nat.zero_add] at hOpen
  obtain ⟨y0, y1, y2, y3, y4, y5, y6, y7, y8, y9, yA, yB⟩ := hOpen
  have TR := HR1.out.cells
  have hOpen := TR
  simp only [Cells, blk, List.cons_append, List.nil_append, and_true, Nat.reduceAdd, Nat.add_zero, Nat.zero_add] at hOpen
  obtain ⟨s0, s1, s2, s3, s4, s5, s6, s7, s8, s9, sA, sB⟩ := hOpen
  have g0 := HR1.out.frozen 0
  have g1 := HR1.out.frozen 1
  have g2 := HR1.out.frozen 2
  have g3 := HR1.out.frozen 3
  have g4 := HR1.out.frozen 4
  have g5 := HR1.out.frozen 5
  have g6 := HR1.out.frozen 6
  have g7 := HR1.out.frozen 7
  have g8 := HR1.out.frozen 8
  have g9 := HR1.out.frozen 9
  have gA := HR1.out.frozen 10
  have gB := HR1.out.frozen 11
  obtain ⟨b12, h12, _⟩ := set12 HR1.out (.int .i64 x) (.int .i64 0) (.int .u16 0) (.int .u16 0) (.int .u64 0) (.int .u64 0) (.int .i64 0) (.int .i64 V0) (.int .i64 0) (.bool false) (.slice none 0 0) (.slice none 0 0)
  have HF := Lib.hid (h12 w.heap.size w (by simp) HB1.out)
  obtain ⟨r0, r1, r2, r3, r4, r5, r6, r7, r8, r9, rA, rB, _⟩ := b12.cells
  simp only [Nat.zero_add, Nat.add_zero] at r0 r1 r2 r3 r4 r5 r6 r7 r8 r9 rA rB
  clear TP TR b12 h12
  go_wp2
  refine bodyPost_ret (v := .tuple #[.agg #[.int .i64 x, .int .i64 0, .int .u16 0, .int .u16 0, .int .u64 0, .int .u64 0, .int .i64 0, .int .i64 V0, .int .i64 0, .bool false, .slice none 0 0, .slice none 0 0], .int .i64 0]) (by simp [results, Try.results40, go_sem, r0, r1, r2, r3, r4, r5, r6, r7, r8, r9, rA, rB]) rfl ?_
  exact ⟨0, 0, none, 0, 0, [], none, 0, 0, [], rfl, HF.out, fun h0 => ⟨rfl, nil_u8 _ _, rfl, by omega, by simp, nil_items _ _, by simp, rfl, by omega, by simp⟩⟩
set_option linter.unusedSimpArgs false in
set_option linter.unusedVariables false in
set_option maxRecDepth 100000 in
set_option maxHeartbeats 4000000 in
theorem tak_HL (x : Nat) (hk : fldC (x : Int) = some [72, 76]) (a : Option Addr) (n c : Nat) (b : List Nat) (w : World) (h : BytesAt w (.slice a n c) b) (hn : b.length = n) (hc : n ≤ c) (hK : 5 ≤ n) (hm : n ≤ 1000) :
    Calls Try.prog 40 #[.agg #[.int .i64 x, .int .i64 0, .int .u16 0, .int .u16 0, .int .u64 0, .int .u64 0, .int .i64 0, .int .i64 0, .int .i64 0, .bool false, .slice none 0 0, .slice none 0 0], .slice a n c] w (TakPost w x ⟨0, vnum ((b.drop 1).take 2), vnum ((b.drop 3).take 2), 0, 0, 0, false⟩ 0 (b.drop 5) 0) := by
  have hf : ∀ W, Calls Try.prog 28 #[.int .i64 x] W (fun e w' => e = .returned (.agg #[.bool true, .bool false, .bool true, .bool true, .bool false, .bool false, .bool false, .bool false, .bool false, .bool false, .bool false]) ∧ Below W.heap.size W w') := fun W => by
    have h := rfields_any x W
    rw [hk] at h
    exact h
  have hz := build_pdu
  have hlt := h.2.2
  have hn0 := fun W (hW : Below w.heap.size w W) => num_any _ b 1 2 W (h.below hW) (by omega) (by omega) (by omega)
  have hVb0 := vnum2_lt (b.drop 1) (fun y hy => hlt y (List.mem_of_mem_drop hy))
  obtain ⟨V0, hV0⟩ : ∃ v, vnum ((b.drop 1).take 2) = v := ⟨_, rfl⟩
  rw [hV0] at hVb0 ⊢
  simp only [hV0] at hn0
  have HN0 := Lib.hid hn0
  have hw0 : IntKind.u16.wrap (V0 : Int) = (V0 : Int) := IntWalk.u16_in _ (by omega)
  have hb0 : (V0 : Int) < 65536 := by omega
  clear hn0 hV0
  have hn1 := fun W (hW : Below w.heap.size w W) => num_any _ b 3 2 W (h.below hW) (by omega) (by omega) (by omega)
  have hVb1 := vnum2_lt (b.drop 3) (fun y hy => hlt y (List.mem_of_mem_drop hy))
  obtain ⟨V1, hV1⟩ : ∃ v, vnum ((b.drop 3).take 2) = v := ⟨_, rfl⟩
  rw [hV1] at hVb1 ⊢
  simp only [hV1] at hn1
  have HN1 := Lib.hid hn1
  have hw1 : IntKind.u16.wrap (V1 : Int) = (V1 : Int) := IntWalk.u16_in _ (by omega)
  have hb1 : (V1 : Int) < 65536 := by omega
  clear hn1 hV1
  have HFf := Lib.hid hf
  have hB := ((Below.refl w.heap.size w).alloc (Nat.le_refl _) (.cells #[.int .i64 x, .int .i64 0, .int .u16 0, .int .u16 0, .int .u64 0, .int .u64 0, .int .i64 0, .int .i64 0, .int .i64 0, .bool false, .slice none 0 0, .slice none 0 0] 29)).alloc (by simp) (.cells #[.int .i64 0, .int .i64 0, .int .u16 0, .int .u16 0, .int .u64 0, .int .u64 0, .int .i64 0, .int .i64 0, .int .i64 0, .bool false, .slice none 0 0, .slice none 0 0] 29)
  have bP := (Blk.new w 29 [.int .i64 x, .int .i64 0, .int .u16 0, .int .u16 0, .int .u64 0, .int .u64 0, .int .i64 0, .int .i64 0, .int .i64 0, .bool false, .slice none 0 0, .slice none 0 0]).alloc (.cells #[.int .i64 0, .int .i64 0, .int .u16 0, .int .u16 0, .int .u64 0, .int .u64 0, .int .i64 0, .int .i64 0, .int .i64 0, .bool false, .slice none 0 0, .slice none 0 0] 29)
  have bR := Blk.new (w.alloc (.cells #[.int .i64 x, .int .i64 0, .int .u16 0, .int .u16 0, .int .u64 0, .int .u64 0, .int .i64 0, .int .i64 0, .int .i64 0, .bool false, .slice none 0 0, .slice none 0 0] 29)) 29 [.int .i64 0, .int .i64 0, .int .u16 0, .int .u16 0, .int .u64 0, .int .u64 0, .int .i64 0, .int .i64 0, .int .i64 0, .bool false, .slice none 0 0, .slice none 0 0]
  simp only [World.size_alloc] at bR
  clear hf hk h hlt hn
  go_enter Try.func40, Try.ntmps40
  go_upto_region 1 with fail
  generalize World.alloc _ _ = X at bP bR hB ⊢
  have HB := Lib.hid hB
  have HP := Lib.hid bP
  have HR := Lib.hid bR
  have TP := bP.cells
  have hOpen := TP
  simp only [Cells, blk, List.cons_append, List.nil_append, and_true, Nat.reduceAdd, Nat.add_zero, Nat.zero_add] at hOpen
  obtain ⟨y0, y1, y2, y3, y4, y5, y6, y7, y8, y9, yA, yB⟩ := hOpen
  clear TP bP bR hB
  go_wp2_with fail
  refine (HFf.out _).mono ?_
  rintro e w1 ⟨rfl, hB1⟩
  have hneU : w1.heap.size ≠ w.heap.size := by have := HP.out.lt; have := hB1.size; omega
  have hneR : w.heap.size + 1 ≠ w.heap.size := by omega
  have hUlt : w.heap.size + 1 < w1.heap.size := Nat.lt_of_lt_of_le HR.out.lt hB1.size
  have bP := (HP.out.below hB1).alloc (.cells #[.bool true, .bool false, .bool true, .bool true, .bool false, .bool false, .bool false, .bool false, .bool false, .bool false, .bool false] 58)
  have bR := (HR.out.below hB1).alloc (.cells #[.bool true, .bool false, .bool true, .bool true, .bool false, .bool false, .bool false, .bool false, .bool false, .bool false, .bool false] 58)
  have bU := Blk.new w1 58 [.bool true, .bool false, .bool true, .bool true, .bool false, .bool false, .bool false, .bool false, .bool false, .bool false, .bool false]
  have hB2 := HB.out.trans (hB1.mono HB.out.size)
  have hB3 := hB2.alloc hB2.size (.cells #[.bool true, .bool false, .bool true, .bool true, .bool false, .bool false, .bool false, .bool false, .bool false, .bool false, .bool false] 58)
  clear y0 y1 y2 y3 y4 y5 y6 y7 y8 y9 yA yB hB1 hB2 HB HP HR HFf
  go_upto_region 2 with fail
  generalize World.alloc _ _ = W0 at bP bR bU hB3 ⊢
  have HP0 := Lib.hid bP
  have HR0 := Lib.hid bR
  have HU0 := Lib.hid bU
  have HB0 := Lib.hid hB3
  clear bP bR bU hB3
  have TP := HP0.out.cells
  have TU := HU0.out.cells
  have hOpen := TP
  simp only [Cells, blk, List.cons_append, List.nil_append, and_true, Nat.reduceAdd, Nat.add_zero, Nat.zero_add] at hOpen
  obtain ⟨y0, y1, y2, y3, y4, y5, y6, y7, y8, y9, yA, yB⟩ := hOpen
  have hOpen := TU
  simp only [Cells, blk, List.cons_append, List.nil_append, and_true, Nat.reduceAdd, Nat.add_zero, Nat.zero_add] at hOpen
  obtain ⟨u0, u1, u2, u3, u4, u5, u6, u7, u8, u9, uA⟩ := hOpen
  clear TP TU
  have fz := HP0.out.frozen 2
  go_wp2_with fail
  refine (HN0.out _ HB0.out).mono ?_
  rintro e w' ⟨rfl, rfl⟩
  have bP' := HP0.out.setAt (j := 2) (.int .u16 V0)
  simp only [List.set_cons_zero, List.set_cons_succ] at bP'
  have HX := Lib.hid (And.intro bP' (And.intro (HR0.out.other hneR (o := 2) (.int .u16 V0)) (And.intro (HU0.out.other hneU (o := 2) (.int .u16 V0)) (HB0.out.setCell (p := ⟨w.heap.size, 2, none⟩) (Nat.le_refl _) (.int .u16 V0)))))
  clear bP'
  go_upto_region 10 with fail
  clear fz y0 y1 y2 y3 y4 y5 y6 y7 y8 y9 yA yB u0 u1 u2 u3 u4 u5 u6 u7 u8 u9 uA HP0 HR0 HU0 HB0
  generalize World.setCell _ _ _ = W1 at HX ⊢
  have HP1 := Lib.hid HX.out.1
  have HR1 := Lib.hid HX.out.2.1
  have HU1 := Lib.hid HX.out.2.2.1
  have HB1 := Lib.hid HX.out.2.2.2
  clear HX
  have TP := HP1.out.cells
  have TU := HU1.out.cells
  have hOpen := TP
  simp only [Cells, blk, List.cons_append, List.nil_append, and_true, Nat.reduceAdd, Nat.add_zero, Nat.zero_add] at hOpen
  obtain ⟨y0, y1, y2, y3, y4, y5, y6, y7, y8, y9, yA, yB⟩ := hOpen
  have hOpen := TU
  simp only [Cells, blk, List.cons_append, List.nil_append, and_true, Nat.reduceAdd, Nat.add_zero, Nat.zero_add] at hOpen
  obtain ⟨u0, u1, u2, u3, u4, u5, u6, u7, u8, u9, uA⟩ := hOpen
  clear TP TU
  have fz := HP1.out.frozen 3
  go_wp2_with fail
  refine (HN1.out _ HB1.out).mono ?_
  rintro e w' ⟨rfl, rfl⟩
  have bP' := HP1.out.setAt (j := 3) (.int .u16 V1)
  simp only [List.set_cons_zero, List.set_cons_succ] at bP'
  have HX := Lib.hid (And.intro bP' (And.intro (HR1.out.other hneR (o := 3) (.int .u16 V1)) (And.intro (HU1.out.other hneU (o := 3) (.int .u16 V1)) (HB1.out.setCell (p := ⟨w.heap.size, 3, none⟩) (Nat.le_refl _) (.int .u16 V1)))))
  clear bP'
  go_upto_region 13 with fail
  clear fz y0 y1 y2 y3 y4 y5 y6 y7 y8 y9 yA yB u0 u1 u2 u3 u4 u5 u6 u7 u8 u9 uA HP1 HR1 HU1 HB1
  generalize World.setCell _ _ _ = W2 at HX ⊢
  have HP2 := Lib.hid HX.out.1
  have HR2 := Lib.hid HX.out.2.1
  have HU2 := Lib.hid HX.out.2.2.1
  have HB2 := Lib.hid HX.out.2.2.2
  clear HX
  have TP := HP2.out.cells
  have TU := HU2.out.cells
  have hOpen := TP
  simp only [Cells, blk, List.cons_append, List.nil_append, and_true, Nat.reduceAdd, Nat.add_zero, Nat.zero_add] at hOpen
  obtain ⟨y0, y1, y2, y3, y4, y5, y6, y7, y8, y9, yA, yB⟩ := hOpen
  have hOpen := TU
  simp only [Cells, blk, List.cons_append, List.nil_append, and_true, Nat.reduceAdd, Nat.add_zero, Nat.zero_add] at hOpen
  obtain ⟨u0, u1, u2, u3, u4, u5, u6, u7, u8, u9, uA⟩ := hOpen
  clear TP TU
  go_upto_region 31 with fail
  clear y0 y1 y2 y3 y4 y5 y6 y7 y8 y9 yA yB u0 u1 u2 u3 u4 u5 u6 u7 u8 u9 uA
  have TP := HP2.out.cells
  have hOpen := TP
  simp only [Cells, blk, List.cons_append, List.nil_append, and_true, Nat.reduceAdd, Nat.add_zero, Nat.zero_add] at hOpen
  obtain ⟨y0, y1, y2, y3, y4, y5, y6, y7, y8, y9, yA, yB⟩ := hOpen
  have TR := HR2.out.cells
  have hOpen := TR
  simp only [Cells, blk, List.cons_append, List.nil_append, and_true, Nat.reduceAdd, Nat.add_zero, Nat.zero_add] at hOpen
  obtain ⟨s0, s1, s2, s3, s4, s5, s6, s7, s8, s9, sA, sB⟩ := hOpen
  have g0 := HR2.out.frozen 0
  have g1 := HR2.out.frozen 1
  have g2 := HR2.out.frozen 2
  have g3 := HR2.out.frozen 3
  have g4 := HR2.out.frozen 4
  have g5 := HR2.out.frozen 5
  have g6 := HR2.out.frozen 6
  have g7 := HR2.out.frozen 7
  have g8 := HR2.out.frozen 8
  have g9 := HR2.out.frozen 9
  have gA := HR2.out.frozen 10
  have gB := HR2.out.frozen 11
  obtain ⟨b12, h12, _⟩ := set12 HR2.out (.int .i64 x) (.int .i64 0) (.int .u16 V0) (.int .u16 V1) (.int .u64 0) (.int .u64 0) (.int .i64 0) (.int .i64 0) (.int .i64 0) (.bool false) (.slice none 0 0) (.slice none 0 0)
  have HF := Lib.hid (h12 w.heap.size w (by simp) HB2.out)
  obtain ⟨r0, r1, r2, r3, r4, r5, r6, r7, r8, r9, rA, rB, _⟩ := b12.cells
  simp only [Nat.zero_add, Nat.add_zero] at r0 r1 r2 r3 r4 r5 r6 r7 r8 r9 rA rB
  clear TP TR b12 h12
  go_wp2
  refine bodyPost_ret (v := .tuple #[.agg #[.int .i64 x, .int .i64 0, .int .u16 V0, .int .u16 V1, .int .u64 0, .int .u64 0, .int .i64 0, .int .i64 0, .int .i64 0, .bool false, .slice none 0 0, .slice none 0 0], .int .i64 0]) (by simp [results, Try.results40, go_sem, r0, r1, r2, r3, r4, r5, r6, r7, r8, r9, rA, rB]) rfl ?_
  exact ⟨0, 0, none, 0, 0, [], none, 0, 0, [], rfl, HF.out, fun h0 => ⟨rfl, nil_u8 _ _, rfl, by omega, by simp, nil_items _ _, by simp, rfl, by omega, by simp⟩⟩
set_option linter.unusedSimpArgs false in
set_option linter.unusedVariables false in
set_option maxRecDepth 100000 in
set_option maxHeartbeats 4000000 in
theorem tak_HLT (x : Nat) (hk : fldC (x : Int) = some [72, 76, 84]) (a : Option Addr) (n c : Nat) (b : List Nat) (w : World) (h : BytesAt w (.slice a n c) b) (hn : b.length = n) (hc : n ≤ c) (hK : 5 ≤ n) (hm : n ≤ 1000) :
    Calls Try.prog 40 #[.agg #[.int .i64 x, .int .i64 0, .int .u16 0, .int .u16 0, .int .u64 0, .int .u64 0, .int .i64 0, .int .i64 0, .int .i64 0, .bool false, .slice none 0 0, .slice none 0 0], .slice a n c] w (TakPost w x ⟨0, vnum ((b.drop 1).take 2), vnum ((b.drop 3).take 2), 0, 0, 0, false⟩ 84 (b.drop 5) (remE x 84 (b.drop 5))) := by
  have hf : ∀ W, Calls Try.prog 28 #[.int .i64 x] W (fun e w' => e = .returned (.agg #[.bool true, .bool false, .bool true, .bool true, .bool true, .bool false, .bool false, .bool false, .bool false, .bool false, .bool false]) ∧ Below W.heap.size W w') := fun W => by
    have h := rfields_any x W
    rw [hk] at h
    exact h
  have hz := build_pdu
  have hlt := h.2.2
  have hn0 := fun W (hW : Below w.heap.size w W) => num_any _ b 1 2 W (h.below hW) (by omega) (by omega) (by omega)
  have hVb0 := vnum2_lt (b.drop 1) (fun y hy => hlt y (List.mem_of_mem_drop hy))
  obtain ⟨V0, hV0⟩ : ∃ v, vnum ((b.drop 1).take 2) = v := ⟨_, rfl⟩
  rw [hV0] at hVb0 ⊢
  simp only [hV0] at hn0
  have HN0 := Lib.hid hn0
  have hw0 : IntKind.u16.wrap (V0 : Int) = (V0 : Int) := IntWalk.u16_in _ (by omega)
  have hb0 : (V0 : Int) < 65536 := by omega
  clear hn0 hV0
  have hn1 := fun W (hW : Below w.heap.size w W) => num_any _ b 3 2 W (h.below hW) (by omega) (by omega) (by omega)
  have hVb1 := vnum2_lt (b.drop 3) (fun y hy => hlt y (List.mem_of_mem_drop hy))
  obtain ⟨V1, hV1⟩ : ∃ v, vnum ((b.drop 3).take 2) = v := ⟨_, rfl⟩
  rw [hV1] at hVb1 ⊢
  simp only [hV1] at hn1
  have HN1 := Lib.hid hn1
  have hw1 : IntKind.u16.wrap (V1 : Int) = (V1 : Int) := IntWalk.u16_in _ (by omega)
  have hb1 : (V1 : Int) < 65536 := by omega
  clear hn1 hV1
  obtain ⟨a2, c2, hby2, hc2, hs2⟩ := bytes_from w a n c 5 b h hn hc (by omega)
  replace hs2 : ∀ W, (Instr.slice 26 (.slice a n c) (some (.int .i64 5)) none none).run Try.prog W = .ok (.slice a2 (n - 5) c2) W := hs2
  obtain ⟨n2, hn2⟩ : ∃ n2, n - 5 = n2 := ⟨_, rfl⟩
  rw [hn2] at hby2 hc2 hs2
  have hd := fun W (hW : Below w.heap.size w W) => rdecode_any _ (b.drop 5) W (hby2.below hW) (by rw [List.length_drop]; omega)
  obtain ⟨⟨D1, D2, D3⟩, hD⟩ : ∃ D, decR (b.drop 5) = D := ⟨_, rfl⟩
  simp only [hD] at hd
  have hrem : remE x 84 (b.drop 5) = D3 := by unfold remE; rw [if_pos rfl, hD]
  rw [hrem]
  have HDR := Lib.hid hd
  have HDD := Lib.hid hD
  clear hd hD hby2 hc2 hn2 hrem
  have HFf := Lib.hid hf
  have hB := ((Below.refl w.heap.size w).alloc (Nat.le_refl _) (.cells #[.int .i64 x, .int .i64 0, .int .u16 0, .int .u16 0, .int .u64 0, .int .u64 0, .int .i64 0, .int .i64 0, .int .i64 0, .bool false, .slice none 0 0, .slice none 0 0] 29)).alloc (by simp) (.cells #[.int .i64 0, .int .i64 0, .int .u16 0, .int .u16 0, .int .u64 0, .int .u64 0, .int .i64 0, .int .i64 0, .int .i64 0, .bool false, .slice none 0 0, .slice none 0 0] 29)
  have bP := (Blk.new w 29 [.int .i64 x, .int .i64 0, .int .u16 0, .int .u16 0, .int .u64 0, .int .u64 0, .int .i64 0, .int .i64 0, .int .i64 0, .bool false, .slice none 0 0, .slice none 0 0]).alloc (.cells #[.int .i64 0, .int .i64 0, .int .u16 0, .int .u16 0, .int .u64 0, .int .u64 0, .int .i64 0, .int .i64 0, .int .i64 0, .bool false, .slice none 0 0, .slice none 0 0] 29)
  have bR := Blk.new (w.alloc (.cells #[.int .i64 x, .int .i64 0, .int .u16 0, .int .u16 0, .int .u64 0, .int .u64 0, .int .i64 0, .int .i64 0, .int .i64 0, .bool false, .slice none 0 0, .slice none 0 0] 29)) 29 [.int .i64 0, .int .i64 0, .int .u16 0, .int .u16 0, .int .u64 0, .int .u64 0, .int .i64 0, .int .i64 0, .int .i64 0, .bool false, .slice none 0 0, .slice none 0 0]
  simp only [World.size_alloc] at bR
  clear hf hk h hlt hn
  go_enter Try.func40, Try.ntmps40
  go_upto_region 1 with fail
  generalize World.alloc _ _ = X at bP bR hB ⊢
  have HB := Lib.hid hB
  have HP := Lib.hid bP
  have HR := Lib.hid bR
  have TP := bP.cells
  have hOpen := TP
  simp only [Cells, blk, List.cons_append, List.nil_append, and_true, Nat.reduceAdd, Nat.add_zero, Nat.zero_add] at hOpen
  obtain ⟨y0, y1, y2, y3, y4, y5, y6, y7, y8, y9, yA, yB⟩ := hOpen
  clear TP bP bR hB
  go_wp2_with fail
  refine (HFf.out _).mono ?_
  rintro e w1 ⟨rfl, hB1⟩
  have hneU : w1.heap.size ≠ w.heap.size := by have := HP.out.lt; have := hB1.size; omega
  have hneR : w.heap.size + 1 ≠ w.heap.size := by omega
  have hUlt : w.heap.size + 1 < w1.heap.size := Nat.lt_of_lt_of_le HR.out.lt hB1.size
  have bP := (HP.out.below hB1).alloc (.cells #[.bool true, .bool false, .bool true, .bool true, .bool true, .bool false, .bool false, .bool false, .bool false, .bool false, .bool false] 58)
  have bR := (HR.out.below hB1).alloc (.cells #[.bool true, .bool false, .bool true, .bool true, .bool true, .bool false, .bool false, .bool false, .bool false, .bool false, .bool false] 58)
  have bU := Blk.new w1 58 [.bool true, .bool false, .bool true, .bool true, .bool true, .bool false, .bool false, .bool false, .bool false, .bool false, .bool false]
  have hB2 := HB.out.trans (hB1.mono HB.out.size)
  have hB3 := hB2.alloc hB2.size (.cells #[.bool true, .bool false, .bool true, .bool true, .bool true, .bool false, .bool false, .bool false, .bool false, .bool false, .bool false] 58)
  clear y0 y1 y2 y3 y4 y5 y6 y7 y8 y9 yA yB hB1 hB2 HB HP HR HFf
  go_upto_region 2 with fail
  generalize World.alloc _ _ = W0 at bP bR bU hB3 ⊢
  have HP0 := Lib.hid bP
  have HR0 := Lib.hid bR
  have HU0 := Lib.hid bU
  have HB0 := Lib.hid hB3
  clear bP bR bU hB3
  have TP := HP0.out.cells
  have TU := HU0.out.cells
  have hOpen := TP
  simp only [Cells, blk, List.cons_append, List.nil_append, and_true, Nat.reduceAdd, Nat.add_zero, Nat.zero_add] at hOpen
  obtain ⟨y0, y1, y2, y3, y4, y5, y6, y7, y8, y9, yA, yB⟩ := hOpen
  have hOpen := TU
  simp only [Cells, blk, List.cons_append, List.nil_append, and_true, Nat.reduceAdd, Nat.add_zero, Nat.zero_add] at hOpen
  obtain ⟨u0, u1, u2, u3, u4, u5, u6, u7, u8, u9, uA⟩ := hOpen
  clear TP TU
  have fz := HP0.out.frozen 2
  go_wp2_with fail
  refine (HN0.out _ HB0.out).mono ?_
  rintro e w' ⟨rfl, rfl⟩
  have bP' := HP0.out.setAt (j := 2) (.int .u16 V0)
  simp only [List.set_cons_zero, List.set_cons_succ] at bP'
  have HX := Lib.hid (And.intro bP' (And.intro (HR0.out.other hneR (o := 2) (.int .u16 V0)) (And.intro (HU0.out.other hneU (o := 2) (.int .u16 V0)) (HB0.out.setCell (p := ⟨w.heap.size, 2, none⟩) (Nat.le_refl _) (.int .u16 V0)))))
  clear bP'
  go_upto_region 10 with fail
  clear fz y0 y1 y2 y3 y4 y5 y6 y7 y8 y9 yA yB u0 u1 u2 u3 u4 u5 u6 u7 u8 u9 uA HP0 HR0 HU0 HB0
  generalize World.setCell _ _ _ = W1 at HX ⊢
  have HP1 := Lib.hid HX.out.1
  have HR1 := Lib.hid HX.out.2.1
  have HU1 := Lib.hid HX.out.2.2.1
  have HB1 := Lib.hid HX.out.2.2.2
  clear HX
  have TP := HP1.out.cells
  have TU := HU1.out.cells
  have hOpen := TP
  simp only [Cells, blk, List.cons_append, List.nil_append, and_true, Nat.reduceAdd, Nat.add_zero, Nat.zero_add] at hOpen
  obtain ⟨y0, y1, y2, y3, y4, y5, y6, y7, y8, y9, yA, yB⟩ := hOpen
  have hOpen := TU
  simp only [Cells, blk, List.cons_append, List.nil_append, and_true, Nat.reduceAdd, Nat.add_zero, Nat.zero_add] at hOpen
  obtain ⟨u0, u1, u2, u3, u4, u5, u6, u7, u8, u9, uA⟩ := hOpen
  clear TP TU
  have fz := HP1.out.frozen 3
  go_wp2_with fail
  refine (HN1.out _ HB1.out).mono ?_
  rintro e w' ⟨rfl, rfl⟩
  have bP' := HP1.out.setAt (j := 3) (.int .u16 V1)
  simp only [List.set_cons_zero, List.set_cons_succ] at bP'
  have HX := Lib.hid (And.intro bP' (And.intro (HR1.out.other hneR (o := 3) (.int .u16 V1)) (And.intro (HU1.out.other hneU (o := 3) (.int .u16 V1)) (HB1.out.setCell (p := ⟨w.heap.size, 3, none⟩) (Nat.le_refl _) (.int .u16 V1)))))
  clear bP'
  go_upto_region 13 with fail
  clear fz y0 y1 y2 y3 y4 y5 y6 y7 y8 y9 yA yB u0 u1 u2 u3 u4 u5 u6 u7 u8 u9 uA HP1 HR1 HU1 HB1
  generalize World.setCell _ _ _ = W2 at HX ⊢
  have HP2 := Lib.hid HX.out.1
  have HR2 := Lib.hid HX.out.2.1
  have HU2 := Lib.hid HX.out.2.2.1
  have HB2 := Lib.hid HX.out.2.2.2
  clear HX
  have TP := HP2.out.cells
  have TU := HU2.out.cells
  have hOpen := TP
  simp only [Cells, blk, List.cons_append, List.nil_append, and_true, Nat.reduceAdd, Nat.add_zero, Nat.zero_add] at hOpen
  obtain ⟨y0, y1, y2, y3, y4, y5, y6, y7, y8, y9, yA, yB⟩ := hOpen
  have hOpen := TU
  simp only [Cells, blk, List.cons_append, List.nil_append, and_true, Nat.reduceAdd, Nat.add_zero, Nat.zero_add] at hOpen
  obtain ⟨u0, u1, u2, u3, u4, u5, u6, u7, u8, u9, uA⟩ := hOpen
  clear TP TU
  go_wp2_with fail
  refine (HDR.out _ HB2.out).mono ?_
  rintro e w5 ⟨rfl, hB5⟩
  have hal := (Below.refl w5.heap.size w5).alloc (Nat.le_refl _) (.cells #[.int .u64 D1, .int .u64 D2] 25)
  have bT := Blk.new w5 25 [.int .u64 D1, .int .u64 D2]
  have HX := Lib.hid (And.intro ((HP2.out.below hB5).below hal) (And.intro ((HR2.out.below hB5).below hal) ((HB2.out.trans (hB5.mono HB2.out.size)).trans (hal.mono (HB2.out.trans (hB5.mono HB2.out.size)).size))))
  clear y0 y1 y2 y3 y4 y5 y6 y7 y8 y9 yA yB u0 u1 u2 u3 u4 u5 u6 u7 u8 u9 uA hB5 hal HP2 HR2 HU2 HB2
  go_upto_region 16 with fail
  generalize World.alloc _ _ = WT at HX bT ⊢
  have TT := bT.cells
  have hOpen := TT
  simp only [Cells, blk, List.cons_append, List.nil_append, and_true, Nat.reduceAdd, Nat.add_zero, Nat.zero_add] at hOpen
  obtain ⟨d0, d1⟩ := hOpen
  have f4 := HX.out.1.frozen 4
  have f5 := HX.out.1.frozen 5
  have TP := HX.out.1.cells
  have hOpen := TP
  simp only [Cells, blk, List.cons_append, List.nil_append, and_true, Nat.reduceAdd, Nat.add_zero, Nat.zero_add] at hOpen
  obtain ⟨y0, y1, y2, y3, y4, y5, y6, y7, y8, y9, yA, yB⟩ := hOpen
  have bP' := (HX.out.1.setAt (j := 4) (.int .u64 D1)).setAt (j := 5) (.int .u64 D2)
  simp only [List.set_cons_zero, List.set_cons_succ] at bP'
  have HY := Lib.hid (And.intro bP' (And.intro ((HX.out.2.1.other hneR (o := 4) (.int .u64 D1)).other hneR (o := 5) (.int .u64 D2)) ((HX.out.2.2.setCell (p := ⟨w.heap.size, 4, none⟩) (Nat.le_refl _) (.int .u64 D1)).setCell (p := ⟨w.heap.size, 5, none⟩) (Nat.le_refl _) (.int .u64 D2))))
  clear TT bT TP bP' HX
  go_upto_region 17 with fail
  clear d0 d1 f4 f5
  generalize World.setCell _ _ _ = W3 at HY ⊢
  have HP3 := Lib.hid HY.out.1
  have HR3 := Lib.hid HY.out.2.1
  have HB3 := Lib.hid HY.out.2.2
  clear HY
  clear y0 y1 y2 y3 y4 y5 y6 y7 y8 y9 yA yB
  have TP := HP3.out.cells
  have hOpen := TP
  simp only [Cells, blk, List.cons_append, List.nil_append, and_true, Nat.reduceAdd, Nat.add_zero, Nat.zero_add] at hOpen
  obtain ⟨y0, y1, y2, y3, y4, y5, y6, y7, y8, y9, yA, yB⟩ := hOpen
  have TR := HR3.out.cells
  have hOpen := TR
  simp only [Cells, blk, List.cons_append, List.nil_append, and_true, Nat.reduceAdd, Nat.add_zero, Nat.zero_add] at hOpen
  obtain ⟨s0, s1, s2, s3, s4, s5, s6, s7, s8, s9, sA, sB⟩ := hOpen
  have g0 := HR3.out.frozen 0
  have g1 := HR3.out.frozen 1
  have g2 := HR3.out.frozen 2
  have g3 := HR3.out.frozen 3
  have g4 := HR3.out.frozen 4
  have g5 := HR3.out.frozen 5
  have g6 := HR3.out.frozen 6
  have g7 := HR3.out.frozen 7
  have g8 := HR3.out.frozen 8
  have g9 := HR3.out.frozen 9
  have gA := HR3.out.frozen 10
  have gB := HR3.out.frozen 11
  obtain ⟨b12, h12, _⟩ := set12 HR3.out (.int .i64 x) (.int .i64 0) (.int .u16 V0) (.int .u16 V1) (.int .u64 D1) (.int .u64 D2) (.int .i64 0) (.int .i64 0) (.int .i64 0) (.bool false) (.slice none 0 0) (.slice none 0 0)
  have HF := Lib.hid (h12 w.heap.size w (by simp) HB3.out)
  obtain ⟨r0, r1, r2, r3, r4, r5, r6, r7, r8, r9, rA, rB, _⟩ := b12.cells
  simp only [Nat.zero_add, Nat.add_zero] at r0 r1 r2 r3 r4 r5 r6 r7 r8 r9 rA rB
  clear TP TR b12 h12
  go_wp2
  refine bodyPost_ret (v := .tuple #[.agg #[.int .i64 x, .int .i64 0, .int .u16 V0, .int .u16 V1, .int .u64 D1, .int .u64 D2, .int .i64 0, .int .i64 0, .int .i64 0, .bool false, .slice none 0 0, .slice none 0 0], .int .i64 D3]) (by simp [results, Try.results40, go_sem, r0, r1, r2, r3, r4, r5, r6, r7, r8, r9, rA, rB]) rfl ?_
  exact ⟨D1, D2, none, 0, 0, [], none, 0, 0, [], rfl, HF.out, fun h0 => ⟨by simp [pdOf, HDD.out], nil_u8 _ _, rfl, by omega, by simp, nil_items _ _, by simp, rfl, by omega, by simp⟩⟩
end Go.Proofs.Ythnffdlnhfhabaa
namespace Go.Proofs.Ythnffdlnhfhabaa
open Go.RowKit

set_option linter.unusedSimpArgs false in
set_option linter.unusedVariables false in
set_option maxRecDepth 100000 in
set_option maxHeartbeats 4000000 in
theorem tak_H (x : Nat) (hk : fldC (x : Int) = some [72]) (a : Option Addr) (n c : Nat) (b : List Nat) (w : World) (h : BytesAt w (.slice a n c) b) (hn : b.length = n) (hc : n ≤ c) (hK : 3 ≤ n) (hm : n ≤ 1000) :
    Calls Try.prog 40 #[.agg #[.int .i64 x, .int .i64 0, .int .u16 0, .int .u16 0, .int .u64 0, .int .u64 0, .int .i64 0, .int .i64 0, .int .i64 0, .bool false, .slice none 0 0, .slice none 0 0], .slice a n c] w (TakPost w x ⟨0, vnum ((b.drop 1).take 2), 0, 0, 0, 0, false⟩ 0 (b.drop 3) 0) := by
  have hf : ∀ W, Calls Try.prog 28 #[.int .i64 x] W (fun e w' => e = .returned (.agg #[.bool true, .bool false, .bool true, .bool false, .bool false, .bool false, .bool false, .bool false, .bool false, .bool false, .bool false]) ∧ Below W.heap.size W w') := fun W => by
    have h := rfields_any x W
    rw [hk] at h
    exact h
  have hz := build_pdu
  have hlt := h.2.2
  have hn0 := fun W (hW : Below w.heap.size w W) => num_any _ b 1 2 W (h.below hW) (by omega) (by omega) (by omega)
  have hVb0 := vnum2_lt (b.drop 1) (fun y hy => hlt y (List.mem_of_mem_drop hy))
  obtain ⟨V0, hV0⟩ : ∃ v, vnum ((b.drop 1).take 2) = v := ⟨_, rfl⟩
  rw [hV0] at hVb0 ⊢
  simp only [hV0] at hn0
  have HN0 := Lib.hid hn0
  have hw0 : IntKind.u16.wrap (V0 : Int) = (V0 : Int) := IntWalk.u16_in _ (by omega)
  have hb0 : (V0 : Int) < 65536 := by omega
  clear hn0 hV0
  have HFf := Lib.hid hf
  have hB := ((Below.refl w.heap.size w).alloc (Nat.le_refl _) (.cells #[.int .i64 x, .int .i64 0, .int .u16 0, .int .u16 0, .int .u64 0, .int .u64 0, .int .i64 0, .int .i64 0, .int .i64 0, .bool false, .slice none 0 0, .slice none 0 0] 29)).alloc (by simp) (.cells #[.int .i64 0, .int .i64 0, .int .u16 0, .int .u16 0, .int .u64 0, .int .u64 0, .int .i64 0, .int .i64 0, .int .i64 0, .bool false, .slice none 0 0, .slice none 0 0] 29)
  have bP := (Blk.new w 29 [.int .i64 x, .int .i64 0, .int .u16 0, .int .u16 0, .int .u64 0, .int .u64 0, .int .i64 0, .int .i64 0, .int .i64 0, .bool false, .slice none 0 0, .slice none 0 0]).alloc (.cells #[.int .i64 0, .int .i64 0, .int .u16 0, .int .u16 0, .int .u64 0, .int .u64 0, .int .i64 0, .int .i64 0, .int .i64 0, .bool false, .slice none 0 0, .slice none 0 0] 29)
  have bR := Blk.new (w.alloc (.cells #[.int .i64 x, .int .i64 0, .int .u16 0, .int .u16 0, .int .u64 0, .int .u64 0, .int .i64 0, .int .i64 0, .int .i64 0, .bool false, .slice none 0 0, .slice none 0 0] 29)) 29 [.int .i64 0, .int .i64 0, .int .u16 0, .int .u16 0, .int .u64 0, .int .u64 0, .int .i64 0, .int .i64 0, .int .i64 0, .bool false, .slice none 0 0, .slice none 0 0]
  simp only [World.size_alloc] at bR
  clear hf hk h hlt hn
  go_enter Try.func40, Try.ntmps40
  go_upto_region 1 with fail
  generalize World.alloc _ _ = X at bP bR hB ⊢
  have HB := Lib.hid hB
  have HP := Lib.hid bP
  have HR := Lib.hid bR
  have TP := bP.cells
  have hOpen := TP
  simp only [Cells, blk, List.cons_append, List.nil_append, and_true, Nat.reduceAdd, Nat.add_zero, Nat.zero_add] at hOpen
  obtain ⟨y0, y1, y2, y3, y4, y5, y6, y7, y8, y9, yA, yB⟩ := hOpen
  clear TP bP bR hB
  go_wp2_with fail
  refine (HFf.out _).mono ?_
  rintro e w1 ⟨rfl, hB1⟩
  have hneU : w1.heap.size ≠ w.heap.size := by have := HP.out.lt; have := hB1.size; omega
  have hneR : w.heap.size + 1 ≠ w.heap.size := by omega
  have hUlt : w.heap.size + 1 < w1.heap.size := Nat.lt_of_lt_of_le HR.out.lt hB1.size
  have bP := (HP.out.below hB1).alloc (.cells #[.bool true, .bool false, .bool true, .bool false, .bool false, .bool false, .bool false, .bool false, .bool false, .bool false, .bool false] 58)
  have bR := (HR.out.below hB1).alloc (.cells #[.bool true, .bool false, .bool true, .bool false, .bool false, .bool false, .bool false, .bool false, .bool false, .bool false, .bool false] 58)
  have bU := Blk.new w1 58 [.bool true, .bool false, .bool true, .bool false, .bool false, .bool false, .bool false, .bool false, .bool false, .bool false, .bool false]
  have hB2 := HB.out.trans (hB1.mono HB.out.size)
  have hB3 := hB2.alloc hB2.size (.cells #[.bool true, .bool false, .bool true, .bool false, .bool false, .bool false, .bool false, .bool false, .bool false, .bool false, .bool false] 58)
  clear y0 y1 y2 y3 y4 y5 y6 y7 y8 y9 yA yB hB1 hB2 HB HP HR HFf
  go_upto_region 2 with fail
  generalize World.alloc _ _ = W0 at bP bR bU hB3 ⊢
  have HP0 := Lib.hid bP
  have HR0 := Lib.hid bR
  have HU0 := Lib.hid bU
  have HB0 := Lib.hid hB3
  clear bP bR bU hB3
  have TP := HP0.out.cells
  have TU := HU0.out.cells
  have hOpen := TP
  simp only [Cells, blk, List.cons_append, List.nil_append, and_true, Nat.reduceAdd, Nat.add_zero, Nat.zero_add] at hOpen
  obtain ⟨y0, y1, y2, y3, y4, y5, y6, y7, y8, y9, yA, yB⟩ := hOpen
  have hOpen := TU
  simp only [Cells, blk, List.cons_append, List.nil_append, and_true, Nat.reduceAdd, Nat.add_zero, Nat.zero_add] at hOpen
  obtain ⟨u0, u1, u2, u3, u4, u5, u6, u7, u8, u9, uA⟩ := hOpen
  clear TP TU
  have fz := HP0.out.frozen 2
  go_wp2_with fail
  refine (HN0.out _ HB0.out).mono ?_
  rintro e w' ⟨rfl, rfl⟩
  have bP' := HP0.out.setAt (j := 2) (.int .u16 V0)
  simp only [List.set_cons_zero, List.set_cons_succ] at bP'
  have HX := Lib.hid (And.intro bP' (And.intro (HR0.out.other hneR (o := 2) (.int .u16 V0)) (And.intro (HU0.out.other hneU (o := 2) (.int .u16 V0)) (HB0.out.setCell (p := ⟨w.heap.size, 2, none⟩) (Nat.le_refl _) (.int .u16 V0)))))
  clear bP'
  go_upto_region 10 with fail
  clear fz y0 y1 y2 y3 y4 y5 y6 y7 y8 y9 yA yB u0 u1 u2 u3 u4 u5 u6 u7 u8 u9 uA HP0 HR0 HU0 HB0
  generalize World.setCell _ _ _ = W1 at HX ⊢
  have HP1 := Lib.hid HX.out.1
  have HR1 := Lib.hid HX.out.2.1
  have HU1 := Lib.hid HX.out.2.2.1
  have HB1 := Lib.hid HX.out.2.2.2
  clear HX
  have TP := HP1.out.cells
  have TU := HU1.out.cells
  have hOpen := TP
  simp only [Cells, blk, List.cons_append, List.nil_append, and_true, Nat.reduceAdd, Nat.add_zero, Nat.zero_add] at hOpen
  obtain ⟨y0, y1, y2, y3, y4, y5, y6, y7, y8, y9, yA, yB⟩ := hOpen
  have hOpen := TU
  simp only [Cells, blk, List.cons_append, List.nil_append, and_true, Nat.reduceAdd, Nat.add_zero, Nat.zero_add] at hOpen
  obtain ⟨u0, u1, u2, u3, u4, u5, u6, u7, u8, u9, uA⟩ := hOpen
  clear TP TU
  go_upto_region 31 with fail
  clear y0 y1 y2 y3 y4 y5 y6 y7 y8 y9 yA yB u0 u1 u2 u3 u4 u5 u6 u7 u8 u9 uA
  have TP := HP1.out.cells
  have hOpen := TP
  simp only [Cells, blk, List.cons_append, List.nil_append, and_true, Nat.reduceAdd, Nat.add_zero, Nat.zero_add] at hOpen
  obtain ⟨y0, y1, y2, y3, y4, y5, y6, y7, y8, y9, yA, yB⟩ := hOpen
  have TR := HR1.out.cells
  have hOpen := TR
  simp only [Cells, blk, List.cons_append, List.nil_append, and_true, Nat.reduceAdd, Nat.add_zero, Nat.zero_add] at hOpen
  obtain ⟨s0, s1, s2, s3, s4, s5, s6, s7, s8, s9, sA, sB⟩ := hOpen
  have g0 := HR1.out.frozen 0
  have g1 := HR1.out.frozen 1
  have g2 := HR1.out.frozen 2
  have g3 := HR1.out.frozen 3
  have g4 := HR1.out.frozen 4
  have g5 := HR1.out.frozen 5
  have g6 := HR1.out.frozen 6
  have g7 := HR1.out.frozen 7
  have g8 := HR1.out.frozen 8
  have g9 := HR1.out.frozen 9
  have gA := HR1.out.frozen 10
  have gB := HR1.out.frozen 11
  obtain ⟨b12, h12, _⟩ := set12 HR1.out (.int .i64 x) (.int .i64 0) (.int .u16 V0) (.int .u16 0) (.int .u64 0) (.int .u64 0) (.int .i64 0) (.int .i64 0) (.int .i64 0) (.bool false) (.slice none 0 0) (.slice none 0 0)
  have HF := Lib.hid (h12 w.heap.size w (by simp) HB1.out)
  obtain ⟨r0, r1, r2, r3, r4, r5, r6, r7, r8, r9, rA, rB, _⟩ := b12.cells
  simp only [Nat.zero_add, Nat.add_zero] at r0 r1 r2 r3 r4 r5 r6 r7 r8 r9 rA rB
  clear TP TR b12 h12
  go_wp2
  refine bodyPost_ret (v := .tuple #[.agg #[.int .i64 x, .int .i64 0, .int .u16 V0, .int .u16 0, .int .u64 0, .int .u64 0, .int .i64 0, .int .i64 0, .int .i64 0, .bool false, .slice none 0 0, .slice none 0 0], .int .i64 0]) (by simp [results, Try.results40, go_sem, r0, r1, r2, r3, r4, r5, r6, r7, r8, r9, rA, rB]) rfl ?_
  exact ⟨0, 0, none, 0, 0, [], none, 0, 0, [], rfl, HF.out, fun h0 => ⟨rfl, nil_u8 _ _, rfl, by omega, by simp, nil_items _ _, by simp, rfl, by omega, by simp⟩⟩
set_option linter.unusedSimpArgs false in
set_option linter.unusedVariables false in
set_option maxRecDepth 100000 in
set_option maxHeartbeats 4000000 in
theorem tak_HO (x : Nat) (hk : fldC (x : Int) = some [72, 79]) (a : Option Addr) (n c : Nat) (b : List Nat) (w : World) (h : BytesAt w (.slice a n c) b) (hn : b.length = n) (hc : n ≤ c) (hK : 5 ≤ n) (hm : n ≤ 1000) :
    Calls Try.prog 40 #[.agg #[.int .i64 x, .int .i64 0, .int .u16 0, .int .u16 0, .int .u64 0, .int .u64 0, .int .i64 0, .int .i64 0, .int .i64 0, .bool false, .slice none 0 0, .slice none 0 0], .slice a n c] w (TakPost w x ⟨0, vnum ((b.drop 1).take 2), 0, ((vnum ((b.drop 3).take 2) : Nat) : Int), 0, 0, false⟩ 0 (b.drop 5) 0) := by
  have hf : ∀ W, Calls Try.prog 28 #[.int .i64 x] W (fun e w' => e = .returned (.agg #[.bool true, .bool false, .bool true, .bool false, .bool false, .bool true, .bool false, .bool false, .bool false, .bool false, .bool false]) ∧ Below W.heap.size W w') := fun W => by
    have h := rfields_any x W
    rw [hk] at h
    exact h
  have hz := build_pdu
  have hlt := h.2.2
  have hn0 := fun W (hW : Below w.heap.size w W) => num_any _ b 1 2 W (h.below hW) (by omega) (by omega) (by omega)
  have hVb0 := vnum2_lt (b.drop 1) (fun y hy => hlt y (List.mem_of_mem_drop hy))
  obtain ⟨V0, hV0⟩ : ∃ v, vnum ((b.drop 1).take 2) = v := ⟨_, rfl⟩
  rw [hV0] at hVb0 ⊢
  simp only [hV0] at hn0
  have HN0 := Lib.hid hn0
  have hw0 : IntKind.u16.wrap (V0 : Int) = (V0 : Int) := IntWalk.u16_in _ (by omega)
  have hb0 : (V0 : Int) < 65536 := by omega
  clear hn0 hV0
  have hn1 := fun W (hW : Below w.heap.size w W) => num_any _ b 3 2 W (h.below hW) (by omega) (by omega) (by omega)
  have hVb1 := vnum2_lt (b.drop 3) (fun y hy => hlt y (List.mem_of_mem_drop hy))
  obtain ⟨V1, hV1⟩ : ∃ v, vnum ((b.drop 3).take 2) = v := ⟨_, rfl⟩
  rw [hV1] at hVb1 ⊢
  simp only [hV1] at hn1
  have HN1 := Lib.hid hn1
  have hw1 : IntKind.u16.wrap (V1 : Int) = (V1 : Int) := IntWalk.u16_in _ (by omega)
  have hb1 : (V1 : Int) < 65536 := by omega
  clear hn1 hV1
  have HFf := Lib.hid hf
  have hB := ((Below.refl w.heap.size w).alloc (Nat.le_refl _) (.cells #[.int .i64 x, .int .i64 0, .int .u16 0, .int .u16 0, .int .u64 0, .int .u64 0, .int .i64 0, .int .i64 0, .int .i64 0, .bool false, .slice none 0 0, .slice none 0 0] 29)).alloc (by simp) (.cells #[.int .i64 0, .int .i64 0, .int .u16 0, .int .u16 0, .int .u64 0, .int .u64 0, .int .i64 0, .int .i64 0, .int .i64 0, .bool false, .slice none 0 0, .slice none 0 0] 29)
  have bP := (Blk.new w 29 [.int .i64 x, .int .i64 0, .int .u16 0, .int .u16 0, .int .u64 0, .int .u64 0, .int .i64 0, .int .i64 0, .int .i64 0, .bool false, .slice none 0 0, .slice none 0 0]).alloc (.cells #[.int .i64 0, .int .i64 0, .int .u16 0, .int .u16 0, .int .u64 0, .int .u64 0, .int .i64 0, .int .i64 0, .int .i64 0, .bool false, .slice none 0 0, .slice none 0 0] 29)
  have bR := Blk.new (w.alloc (.cells #[.int .i64 x, .int .i64 0, .int .u16 0, .int .u16 0, .int .u64 0, .int .u64 0, .int .i64 0, .int .i64 0, .int .i64 0, .bool false, .slice none 0 0, .slice none 0 0] 29)) 29 [.int .i64 0, .int .i64 0, .int .u16 0, .int .u16 0, .int .u64 0, .int .u64 0, .int .i64 0, .int .i64 0, .int .i64 0, .bool false, .slice none 0 0, .slice none 0 0]
  simp only [World.size_alloc] at bR
  clear hf hk h hlt hn
  go_enter Try.func40, Try.ntmps40
  go_upto_region 1 with fail
  generalize World.alloc _ _ = X at bP bR hB ⊢
  have HB := Lib.hid hB
  have HP := Lib.hid bP
  have HR := Lib.hid bR
  have TP := bP.cells
  have hOpen := TP
  simp only [Cells, blk, List.cons_append, List.nil_append, and_true, Nat.reduceAdd, Nat.add_zero, Nat.zero_add] at hOpen
  obtain ⟨y0, y1, y2, y3, y4, y5, y6, y7, y8, y9, yA, yB⟩ := hOpen
  clear TP bP bR hB
  go_wp2_with fail
  refine (HFf.out _).mono ?_
  rintro e w1 ⟨rfl, hB1⟩
  have hneU : w1.heap.size ≠ w.heap.size := by have := HP.out.lt; have := hB1.size; omega
  have hneR : w.heap.size + 1 ≠ w.heap.size := by omega
  have hUlt : w.heap.size + 1 < w1.heap.size := Nat.lt_of_lt_of_le HR.out.lt hB1.size
  have bP := (HP.out.below hB1).alloc (.cells #[.bool true, .bool false, .bool true, .bool false, .bool false, .bool true, .bool false, .bool false, .bool false, .bool false, .bool false] 58)
  have bR := (HR.out.below hB1).alloc (.cells #[.bool true, .bool false, .bool true, .bool false, .bool false, .bool true, .bool false, .bool false, .bool false, .bool false, .bool false] 58)
  have bU := Blk.new w1 58 [.bool true, .bool false, .bool true, .bool false, .bool false, .bool true, .bool false, .bool false, .bool false, .bool false, .bool false]
  have hB2 := HB.out.trans (hB1.mono HB.out.size)
  have hB3 := hB2.alloc hB2.size (.cells #[.bool true, .bool false, .bool true, .bool false, .bool false, .bool true, .bool false, .bool false, .bool false, .bool false, .bool false] 58)
  clear y0 y1 y2 y3 y4 y5 y6 y7 y8 y9 yA yB hB1 hB2 HB HP HR HFf
  go_upto_region 2 with fail
  generalize World.alloc _ _ = W0 at bP bR bU hB3 ⊢
  have HP0 := Lib.hid bP
  have HR0 := Lib.hid bR
  have HU0 := Lib.hid bU
  have HB0 := Lib.hid hB3
  clear bP bR bU hB3
  have TP := HP0.out.cells
  have TU := HU0.out.cells
  have hOpen := TP
  simp only [Cells, blk, List.cons_append, List.nil_append, and_true, Nat.reduceAdd, Nat.add_zero, Nat.zero_add] at hOpen
  obtain ⟨y0, y1, y2, y3, y4, y5, y6, y7, y8, y9, yA, yB⟩ := hOpen
  have hOpen := TU
  simp only [Cells, blk, List.cons_append, List.nil_append, and_true, Nat.reduceAdd, Nat.add_zero, Nat.zero_add] at hOpen
  obtain ⟨u0, u1, u2, u3, u4, u5, u6, u7, u8, u9, uA⟩ := hOpen
  clear TP TU
  have fz := HP0.out.frozen 2
  go_wp2_with fail
  refine (HN0.out _ HB0.out).mono ?_
  rintro e w' ⟨rfl, rfl⟩
  have bP' := HP0.out.setAt (j := 2) (.int .u16 V0)
  simp only [List.set_cons_zero, List.set_cons_succ] at bP'
  have HX := Lib.hid (And.intro bP' (And.intro (HR0.out.other hneR (o := 2) (.int .u16 V0)) (And.intro (HU0.out.other hneU (o := 2) (.int .u16 V0)) (HB0.out.setCell (p := ⟨w.heap.size, 2, none⟩) (Nat.le_refl _) (.int .u16 V0)))))
  clear bP'
  go_upto_region 10 with fail
  clear fz y0 y1 y2 y3 y4 y5 y6 y7 y8 y9 yA yB u0 u1 u2 u3 u4 u5 u6 u7 u8 u9 uA HP0 HR0 HU0 HB0
  generalize World.setCell _ _ _ = W1 at HX ⊢
  have HP1 := Lib.hid HX.out.1
  have HR1 := Lib.hid HX.out.2.1
  have HU1 := Lib.hid HX.out.2.2.1
  have HB1 := Lib.hid HX.out.2.2.2
  clear HX
  have TP := HP1.out.cells
  have TU := HU1.out.cells
  have hOpen := TP
  simp only [Cells, blk, List.cons_append, List.nil_append, and_true, Nat.reduceAdd, Nat.add_zero, Nat.zero_add] at hOpen
  obtain ⟨y0, y1, y2, y3, y4, y5, y6, y7, y8, y9, yA, yB⟩ := hOpen
  have hOpen := TU
  simp only [Cells, blk, List.cons_append, List.nil_append, and_true, Nat.reduceAdd, Nat.add_zero, Nat.zero_add] at hOpen
  obtain ⟨u0, u1, u2, u3, u4, u5, u6, u7, u8, u9, uA⟩ := hOpen
  clear TP TU
  have fz := HP1.out.frozen 6
  go_wp2_with fail
  refine (HN1.out _ HB1.out).mono ?_
  rintro e w' ⟨rfl, rfl⟩
  have bP' := HP1.out.setAt (j := 6) (.int .i64 V1)
  simp only [List.set_cons_zero, List.set_cons_succ] at bP'
  have HX := Lib.hid (And.intro bP' (And.intro (HR1.out.other hneR (o := 6) (.int .i64 V1)) (And.intro (HU1.out.other hneU (o := 6) (.int .i64 V1)) (HB1.out.setCell (p := ⟨w.heap.size, 6, none⟩) (Nat.le_refl _) (.int .i64 V1)))))
  clear bP'
  go_upto_region 20 with fail
  clear fz y0 y1 y2 y3 y4 y5 y6 y7 y8 y9 yA yB u0 u1 u2 u3 u4 u5 u6 u7 u8 u9 uA HP1 HR1 HU1 HB1
  generalize World.setCell _ _ _ = W2 at HX ⊢
  have HP2 := Lib.hid HX.out.1
  have HR2 := Lib.hid HX.out.2.1
  have HU2 := Lib.hid HX.out.2.2.1
  have HB2 := Lib.hid HX.out.2.2.2
  clear HX
  have TP := HP2.out.cells
  have TU := HU2.out.cells
  have hOpen := TP
  simp only [Cells, blk, List.cons_append, List.nil_append, and_true, Nat.reduceAdd, Nat.add_zero, Nat.zero_add] at hOpen
  obtain ⟨y0, y1, y2, y3, y4, y5, y6, y7, y8, y9, yA, yB⟩ := hOpen
  have hOpen := TU
  simp only [Cells, blk, List.cons_append, List.nil_append, and_true, Nat.reduceAdd, Nat.add_zero, Nat.zero_add] at hOpen
  obtain ⟨u0, u1, u2, u3, u4, u5, u6, u7, u8, u9, uA⟩ := hOpen
  clear TP TU
  go_upto_region 31 with fail
  clear y0 y1 y2 y3 y4 y5 y6 y7 y8 y9 yA yB u0 u1 u2 u3 u4 u5 u6 u7 u8 u9 uA
  have TP := HP2.out.cells
  have hOpen := TP
  simp only [Cells, blk, List.cons_append, List.nil_append, and_true, Nat.reduceAdd, Nat.add_zero, Nat.zero_add] at hOpen
  obtain ⟨y0, y1, y2, y3, y4, y5, y6, y7, y8, y9, yA, yB⟩ := hOpen
  have TR := HR2.out.cells
  have hOpen := TR
  simp only [Cells, blk, List.cons_append, List.nil_append, and_true, Nat.reduceAdd, Nat.add_zero, Nat.zero_add] at hOpen
  obtain ⟨s0, s1, s2, s3, s4, s5, s6, s7, s8, s9, sA, sB⟩ := hOpen
  have g0 := HR2.out.frozen 0
  have g1 := HR2.out.frozen 1
  have g2 := HR2.out.frozen 2
  have g3 := HR2.out.frozen 3
  have g4 := HR2.out.frozen 4
  have g5 := HR2.out.frozen 5
  have g6 := HR2.out.frozen 6
  have g7 := HR2.out.frozen 7
  have g8 := HR2.out.frozen 8
  have g9 := HR2.out.frozen 9
  have gA := HR2.out.frozen 10
  have gB := HR2.out.frozen 11
  obtain ⟨b12, h12, _⟩ := set12 HR2.out (.int .i64 x) (.int .i64 0) (.int .u16 V0) (.int .u16 0) (.int .u64 0) (.int .u64 0) (.int .i64 V1) (.int .i64 0) (.int .i64 0) (.bool false) (.slice none 0 0) (.slice none 0 0)
  have HF := Lib.hid (h12 w.heap.size w (by simp) HB2.out)
  obtain ⟨r0, r1, r2, r3, r4, r5, r6, r7, r8, r9, rA, rB, _⟩ := b12.cells
  simp only [Nat.zero_add, Nat.add_zero] at r0 r1 r2 r3 r4 r5 r6 r7 r8 r9 rA rB
  clear TP TR b12 h12
  go_wp2
  refine bodyPost_ret (v := .tuple #[.agg #[.int .i64 x, .int .i64 0, .int .u16 V0, .int .u16 0, .int .u64 0, .int .u64 0, .int .i64 V1, .int .i64 0, .int .i64 0, .bool false, .slice none 0 0, .slice none 0 0], .int .i64 0]) (by simp [results, Try.results40, go_sem, r0, r1, r2, r3, r4, r5, r6, r7, r8, r9, rA, rB]) rfl ?_
  exact ⟨0, 0, none, 0, 0, [], none, 0, 0, [], rfl, HF.out, fun h0 => ⟨rfl, nil_u8 _ _, rfl, by omega, by simp, nil_items _ _, by simp, rfl, by omega, by simp⟩⟩
set_option linter.unusedSimpArgs false in
set_option linter.unusedVariables false in
set_option maxRecDepth 100000 in
set_option maxHeartbeats 4000000 in
theorem tak_V (x : Nat) (hk : fldC (x : Int) = some [86]) (a : Option Addr) (n c : Nat) (b : List Nat) (w : World) (h : BytesAt w (.slice a n c) b) (hn : b.length = n) (hc : n ≤ c) (hK : 1 ≤ n) (hm : n ≤ 1000) :
    Calls Try.prog 40 #[.agg #[.int .i64 x, .int .i64 0, .int .u16 0, .int .u16 0, .int .u64 0, .int .u64 0, .int .i64 0, .int .i64 0, .int .i64 0, .bool false, .slice none 0 0, .slice none 0 0], .slice a n c] w (TakPost w x ⟨0, 0, 0, 0, 0, 0, false⟩ 86 (b.drop 1) (remE x 86 (b.drop 1))) := by
  have hf : ∀ W, Calls Try.prog 28 #[.int .i64 x] W (fun e w' => e = .returned (.agg #[.bool true, .bool false, .bool false, .bool false, .bool false, .bool false, .bool false, .bool false, .bool false, .bool true, .bool false]) ∧ Below W.heap.size W w') := fun W => by
    have h := rfields_any x W
    rw [hk] at h
    exact h
  have hz := build_pdu
  have hlt := h.2.2
  obtain ⟨i0, hii, hz0, hz1, hz2⟩ := info_parts Try.info_u8
  obtain ⟨a2, c2, hby2, hc2, hs2⟩ := bytes_from w a n c 1 b h hn hc (by omega)
  replace hs2 : ∀ W, (Instr.slice 26 (.slice a n c) (some (.int .i64 1)) none none).run Try.prog W = .ok (.slice a2 (n - 1) c2) W := hs2
  obtain ⟨n2, hn2⟩ : ∃ n2, n - 1 = n2 := ⟨_, rfl⟩
  rw [hn2] at hby2 hc2 hs2
  obtain ⟨rs, hrs⟩ : ∃ l, b.drop 1 = l := ⟨_, rfl⟩
  rw [hrs] at hby2 ⊢
  have hrl : rs.length = n2 := by rw [← hrs, List.length_drop]; omega
  have HRL := Lib.hid hrl
  have HBY2 := Lib.hid hby2
  have hn2b : n2 ≤ 1000 := by omega
  have hrem : remE x 86 rs = 0 := rfl
  rw [hrem]
  clear hrs hrl hby2 hc2 hn2 hrem
  have HFf := Lib.hid hf
  have hB := ((Below.refl w.heap.size w).alloc (Nat.le_refl _) (.cells #[.int .i64 x, .int .i64 0, .int .u16 0, .int .u16 0, .int .u64 0, .int .u64 0, .int .i64 0, .int .i64 0, .int .i64 0, .bool false, .slice none 0 0, .slice none 0 0] 29)).alloc (by simp) (.cells #[.int .i64 0, .int .i64 0, .int .u16 0, .int .u16 0, .int .u64 0, .int .u64 0, .int .i64 0, .int .i64 0, .int .i64 0, .bool false, .slice none 0 0, .slice none 0 0] 29)
  have bP := (Blk.new w 29 [.int .i64 x, .int .i64 0, .int .u16 0, .int .u16 0, .int .u64 0, .int .u64 0, .int .i64 0, .int .i64 0, .int .i64 0, .bool false, .slice none 0 0, .slice none 0 0]).alloc (.cells #[.int .i64 0, .int .i64 0, .int .u16 0, .int .u16 0, .int .u64 0, .int .u64 0, .int .i64 0, .int .i64 0, .int .i64 0, .bool false, .slice none 0 0, .slice none 0 0] 29)
  have bR := Blk.new (w.alloc (.cells #[.int .i64 x, .int .i64 0, .int .u16 0, .int .u16 0, .int .u64 0, .int .u64 0, .int .i64 0, .int .i64 0, .int .i64 0, .bool false, .slice none 0 0, .slice none 0 0] 29)) 29 [.int .i64 0, .int .i64 0, .int .u16 0, .int .u16 0, .int .u64 0, .int .u64 0, .int .i64 0, .int .i64 0, .int .i64 0, .bool false, .slice none 0 0, .slice none 0 0]
  simp only [World.size_alloc] at bR
  clear hf hk h hlt hn
  go_enter Try.func40, Try.ntmps40
  go_upto_region 1 with fail
  generalize World.alloc _ _ = X at bP bR hB ⊢
  have HB := Lib.hid hB
  have HP := Lib.hid bP
  have HR := Lib.hid bR
  have TP := bP.cells
  have hOpen := TP
  simp only [Cells, blk, List.cons_append, List.nil_append, and_true, Nat.reduceAdd, Nat.add_zero, Nat.zero_add] at hOpen
  obtain ⟨y0, y1, y2, y3, y4, y5, y6, y7, y8, y9, yA, yB⟩ := hOpen
  clear TP bP bR hB
  go_wp2_with fail
  refine (HFf.out _).mono ?_
  rintro e w1 ⟨rfl, hB1⟩
  have hneU : w1.heap.size ≠ w.heap.size := by have := HP.out.lt; have := hB1.size; omega
  have hneR : w.heap.size + 1 ≠ w.heap.size := by omega
  have hUlt : w.heap.size + 1 < w1.heap.size := Nat.lt_of_lt_of_le HR.out.lt hB1.size
  have bP := (HP.out.below hB1).alloc (.cells #[.bool true, .bool false, .bool false, .bool false, .bool false, .bool false, .bool false, .bool false, .bool false, .bool true, .bool false] 58)
  have bR := (HR.out.below hB1).alloc (.cells #[.bool true, .bool false, .bool false, .bool false, .bool false, .bool false, .bool false, .bool false, .bool false, .bool true, .bool false] 58)
  have bU := Blk.new w1 58 [.bool true, .bool false, .bool false, .bool false, .bool false, .bool false, .bool false, .bool false, .bool false, .bool true, .bool false]
  have hB2 := HB.out.trans (hB1.mono HB.out.size)
  have hB3 := hB2.alloc hB2.size (.cells #[.bool true, .bool false, .bool false, .bool false, .bool false, .bool false, .bool false, .bool false, .bool false, .bool true, .bool false] 58)
  clear y0 y1 y2 y3 y4 y5 y6 y7 y8 y9 yA yB hB1 hB2 HB HP HR HFf
  go_upto_region 2 with fail
  generalize World.alloc _ _ = W0 at bP bR bU hB3 ⊢
  have HP0 := Lib.hid bP
  have HR0 := Lib.hid bR
  have HU0 := Lib.hid bU
  have HB0 := Lib.hid hB3
  clear bP bR bU hB3
  have TP := HP0.out.cells
  have TU := HU0.out.cells
  have hOpen := TP
  simp only [Cells, blk, List.cons_append, List.nil_append, and_true, Nat.reduceAdd, Nat.add_zero, Nat.zero_add] at hOpen
  obtain ⟨y0, y1, y2, y3, y4, y5, y6, y7, y8, y9, yA, yB⟩ := hOpen
  have hOpen := TU
  simp only [Cells, blk, List.cons_append, List.nil_append, and_true, Nat.reduceAdd, Nat.add_zero, Nat.zero_add] at hOpen
  obtain ⟨u0, u1, u2, u3, u4, u5, u6, u7, u8, u9, uA⟩ := hOpen
  clear TP TU
  have hal := (Below.refl W0.heap.size W0).alloc (Nat.le_refl _) (.cells #[] 5)
  have hsr := ((HBY2.out.below HB0.out).below hal).sr HRL.out
  have HOE := Lib.hid (own_lit W0 [] 0 5 rfl (by decide))
  have HX := Lib.hid (And.intro (HP0.out.below hal) (And.intro (HR0.out.below hal) (HB0.out.trans (hal.mono HB0.out.size))))
  have hRl := HR0.out.lt
  have hWs := HB0.out.size
  clear hal HP0 HR0 HU0 HB0
  go_wp2_with (at_builtin; refine wpList_append_all rfl _ _ 26 rfl W0.heap.size 5 i0 (.int .u8 0) 1 1 Try.underlying26 hii hz0 hz1 hz2 rfl (by decide) _ 0 _ rfl HOE.out _ n2 _ rfl hsr (by unfold maxLen; omega) (by omega) (by simp) ?_)
  intro v9 w9 hown9 hg9 _
  obtain ⟨av, cv, rfl⟩ := own_slice hown9
  have hown9' : w9.ownsRow W0.heap.size 5 1 (.slice av (0 + n2) cv) (0 + n2) (bcells rs) := by simpa using hown9
  rw [Nat.zero_add] at hown9'
  have hlit : (Value.slice (some ⟨W0.heap.size, 0, none⟩) 0 0).ownBlock = some W0.heap.size := rfl
  have bP9 := HX.out.1.kept hg9 (by rw [hlit]; intro e; have := Option.some.inj e; omega)
  have bR9 := HX.out.2.1.kept hg9 (by rw [hlit]; intro e; have := Option.some.inj e; omega)
  have hB9 := HX.out.2.2.grown hg9 (by simp; omega) (fun p hp => by rw [hlit] at hp; have := Option.some.inj hp; omega)
  have bP' := bP9.setAt (j := 10) (.slice av n2 cv)
  simp only [List.set_cons_zero, List.set_cons_succ] at bP'
  have HY := Lib.hid (And.intro bP' (And.intro (bR9.other hneR (o := 10) (.slice av n2 cv)) (And.intro (hB9.setCell (p := ⟨w.heap.size, 10, none⟩) (Nat.le_refl _) (.slice av n2 cv)) (own_set (own_base hown9' hWs) bP9 (by decide) 10 (.slice av n2 cv)))))
  have fz9 := bP9.frozen 10
  have TP := bP9.cells
  clear y0 y1 y2 y3 y4 y5 y6 y7 y8 y9 yA yB u0 u1 u2 u3 u4 u5 u6 u7 u8 u9 uA hsr hg9 bR9 hB9 hown9 hown9' bP9 bP' HX hRl HOE hlit
  have hOpen := TP
  simp only [Cells, blk, List.cons_append, List.nil_append, and_true, Nat.reduceAdd, Nat.add_zero, Nat.zero_add] at hOpen
  obtain ⟨y0, y1, y2, y3, y4, y5, y6, y7, y8, y9, yA, yB⟩ := hOpen
  clear TP
  go_upto_region 31 with fail
  clear fz9
  generalize World.setCell _ _ _ = W1 at HY ⊢
  have HP1 := Lib.hid HY.out.1
  have HR1 := Lib.hid HY.out.2.1
  have HB1 := Lib.hid HY.out.2.2.1
  have HO := Lib.hid HY.out.2.2.2
  clear HY
  clear y0 y1 y2 y3 y4 y5 y6 y7 y8 y9 yA yB
  have TP := HP1.out.cells
  have hOpen := TP
  simp only [Cells, blk, List.cons_append, List.nil_append, and_true, Nat.reduceAdd, Nat.add_zero, Nat.zero_add] at hOpen
  obtain ⟨y0, y1, y2, y3, y4, y5, y6, y7, y8, y9, yA, yB⟩ := hOpen
  have TR := HR1.out.cells
  have hOpen := TR
  simp only [Cells, blk, List.cons_append, List.nil_append, and_true, Nat.reduceAdd, Nat.add_zero, Nat.zero_add] at hOpen
  obtain ⟨s0, s1, s2, s3, s4, s5, s6, s7, s8, s9, sA, sB⟩ := hOpen
  have g0 := HR1.out.frozen 0
  have g1 := HR1.out.frozen 1
  have g2 := HR1.out.frozen 2
  have g3 := HR1.out.frozen 3
  have g4 := HR1.out.frozen 4
  have g5 := HR1.out.frozen 5
  have g6 := HR1.out.frozen 6
  have g7 := HR1.out.frozen 7
  have g8 := HR1.out.frozen 8
  have g9 := HR1.out.frozen 9
  have gA := HR1.out.frozen 10
  have gB := HR1.out.frozen 11
  obtain ⟨b12, h12, o12⟩ := set12 HR1.out (.int .i64 x) (.int .i64 0) (.int .u16 0) (.int .u16 0) (.int .u64 0) (.int .u64 0) (.int .i64 0) (.int .i64 0) (.int .i64 0) (.bool false) (.slice av n2 cv) (.slice none 0 0)
  have HF := Lib.hid (h12 w.heap.size w (by simp) HB1.out)
  have HS := Lib.hid (o12 _ _ _ _ _ _ (by decide) HO.out)
  obtain ⟨r0, r1, r2, r3, r4, r5, r6, r7, r8, r9, rA, rB, _⟩ := b12.cells
  simp only [Nat.zero_add, Nat.add_zero] at r0 r1 r2 r3 r4 r5 r6 r7 r8 r9 rA rB
  clear TP TR b12 h12 o12
  go_wp2
  refine bodyPost_ret (v := .tuple #[.agg #[.int .i64 x, .int .i64 0, .int .u16 0, .int .u16 0, .int .u64 0, .int .u64 0, .int .i64 0, .int .i64 0, .int .i64 0, .bool false, .slice av n2 cv, .slice none 0 0], .int .i64 0]) (by simp [results, Try.results40, go_sem, r0, r1, r2, r3, r4, r5, r6, r7, r8, r9, rA, rB]) rfl ?_
  exact ⟨0, 0, av, n2, cv, rs, none, 0, 0, [], rfl, HF.out, fun h0 => ⟨by simp [pdOf], HS.out, HRL.out, hn2b, HBY2.out.2.2, nil_items _ _, by simp, rfl, by omega, by simp⟩⟩
set_option linter.unusedSimpArgs false in
set_option linter.unusedVariables false in
set_option maxRecDepth 100000 in
set_option maxHeartbeats 4000000 in
theorem tak_HV (x : Nat) (hk : fldC (x : Int) = some [72, 86]) (a : Option Addr) (n c : Nat) (b : List Nat) (w : World) (h : BytesAt w (.slice a n c) b) (hn : b.length = n) (hc : n ≤ c) (hK : 3 ≤ n) (hm : n ≤ 1000) :
    Calls Try.prog 40 #[.agg #[.int .i64 x, .int .i64 0, .int .u16 0, .int .u16 0, .int .u64 0, .int .u64 0, .int .i64 0, .int .i64 0, .int .i64 0, .bool false, .slice none 0 0, .slice none 0 0], .slice a n c] w (TakPost w x ⟨0, vnum ((b.drop 1).take 2), 0, 0, 0, 0, false⟩ 86 (b.drop 3) (remE x 86 (b.drop 3))) := by
  have hf : ∀ W, Calls Try.prog 28 #[.int .i64 x] W (fun e w' => e = .returned (.agg #[.bool true, .bool false, .bool true, .bool false, .bool false, .bool false, .bool false, .bool false, .bool false, .bool true, .bool false]) ∧ Below W.heap.size W w') := fun W => by
    have h := rfields_any x W
    rw [hk] at h
    exact h
  have hz := build_pdu
  have hlt := h.2.2
  have hn0 := fun W (hW : Below w.heap.size w W) => num_any _ b 1 2 W (h.below hW) (by omega) (by omega) (by omega)
  have hVb0 := vnum2_lt (b.drop 1) (fun y hy => hlt y (List.mem_of_mem_drop hy))
  obtain ⟨V0, hV0⟩ : ∃ v, vnum ((b.drop 1).take 2) = v := ⟨_, rfl⟩
  rw [hV0] at hVb0 ⊢
  simp only [hV0] at hn0
  have HN0 := Lib.hid hn0
  have hw0 : IntKind.u16.wrap (V0 : Int) = (V0 : Int) := IntWalk.u16_in _ (by omega)
  have hb0 : (V0 : Int) < 65536 := by omega
  clear hn0 hV0
  obtain ⟨i0, hii, hz0, hz1, hz2⟩ := info_parts Try.info_u8
  obtain ⟨a2, c2, hby2, hc2, hs2⟩ := bytes_from w a n c 3 b h hn hc (by omega)
  replace hs2 : ∀ W, (Instr.slice 26 (.slice a n c) (some (.int .i64 3)) none none).run Try.prog W = .ok (.slice a2 (n - 3) c2) W := hs2
  obtain ⟨n2, hn2⟩ : ∃ n2, n - 3 = n2 := ⟨_, rfl⟩
  rw [hn2] at hby2 hc2 hs2
  obtain ⟨rs, hrs⟩ : ∃ l, b.drop 3 = l := ⟨_, rfl⟩
  rw [hrs] at hby2 ⊢
  have hrl : rs.length = n2 := by rw [← hrs, List.length_drop]; omega
  have HRL := Lib.hid hrl
  have HBY2 := Lib.hid hby2
  have hn2b : n2 ≤ 1000 := by omega
  have hrem : remE x 86 rs = 0 := rfl
  rw [hrem]
  clear hrs hrl hby2 hc2 hn2 hrem
  have HFf := Lib.hid hf
  have hB := ((Below.refl w.heap.size w).alloc (Nat.le_refl _) (.cells #[.int .i64 x, .int .i64 0, .int .u16 0, .int .u16 0, .int .u64 0, .int .u64 0, .int .i64 0, .int .i64 0, .int .i64 0, .bool false, .slice none 0 0, .slice none 0 0] 29)).alloc (by simp) (.cells #[.int .i64 0, .int .i64 0, .int .u16 0, .int .u16 0, .int .u64 0, .int .u64 0, .int .i64 0, .int .i64 0, .int .i64 0, .bool false, .slice none 0 0, .slice none 0 0] 29)
  have bP := (Blk.new w 29 [.int .i64 x, .int .i64 0, .int .u16 0, .int .u16 0, .int .u64 0, .int .u64 0, .int .i64 0, .int .i64 0, .int .i64 0, .bool false, .slice none 0 0, .slice none 0 0]).alloc (.cells #[.int .i64 0, .int .i64 0, .int .u16 0, .int .u16 0, .int .u64 0, .int .u64 0, .int .i64 0, .int .i64 0, .int .i64 0, .bool false, .slice none 0 0, .slice none 0 0] 29)
  have bR := Blk.new (w.alloc (.cells #[.int .i64 x, .int .i64 0, .int .u16 0, .int .u16 0, .int .u64 0, .int .u64 0, .int .i64 0, .int .i64 0, .int .i64 0, .bool false, .slice none 0 0, .slice none 0 0] 29)) 29 [.int .i64 0, .int .i64 0, .int .u16 0, .int .u16 0, .int .u64 0, .int .u64 0, .int .i64 0, .int .i64 0, .int .i64 0, .bool false, .slice none 0 0, .slice none 0 0]
  simp only [World.size_alloc] at bR
  clear hf hk h hlt hn
  go_enter Try.func40, Try.ntmps40
  go_upto_region 1 with fail
  generalize World.alloc _ _ = X at bP bR hB ⊢
  have HB := Lib.hid hB
  have HP := Lib.hid bP
  have HR := Lib.hid bR
  have TP := bP.cells
  have hOpen := TP
  simp only [Cells, blk, List.cons_append, List.nil_append, and_true, Nat.reduceAdd, Nat.add_zero, Nat.zero_add] at hOpen
  obtain ⟨y0, y1, y2, y3, y4, y5, y6, y7, y8, y9, yA, yB⟩ := hOpen
  clear TP bP bR hB
  go_wp2_with fail
  refine (HFf.out _).mono ?_
  rintro e w1 ⟨rfl, hB1⟩
  have hneU : w1.heap.size ≠ w.heap.size := by have := HP.out.lt; have := hB1.size; omega
  have hneR : w.heap.size + 1 ≠ w.heap.size := by omega
  have hUlt : w.heap.size + 1 < w1.heap.size := Nat.lt_of_lt_of_le HR.out.lt hB1.size
  have bP := (HP.out.below hB1).alloc (.cells #[.bool true, .bool false, .bool true, .bool false, .bool false, .bool false, .bool false, .bool false, .bool false, .bool true, .bool false] 58)
  have bR := (HR.out.below hB1).alloc (.cells #[.bool true, .bool false, .bool true, .bool false, .bool false, .bool false, .bool false, .bool false, .bool false, .bool true, .bool false] 58)
  have bU := Blk.new w1 58 [.bool true, .bool false, .bool true, .bool false, .bool false, .bool false, .bool false, .bool false, .bool false, .bool true, .bool false]
  have hB2 := HB.out.trans (hB1.mono HB.out.size)
  have hB3 := hB2.alloc hB2.size (.cells #[.bool true, .bool false, .bool true, .bool false, .bool false, .bool false, .bool false, .bool false, .bool false, .bool true, .bool false] 58)
  clear y0 y1 y2 y3 y4 y5 y6 y7 y8 y9 yA yB hB1 hB2 HB HP HR HFf
  go_upto_region 2 with fail
  generalize World.alloc _ _ = W0 at bP bR bU hB3 ⊢
  have HP0 := Lib.hid bP
  have HR0 := Lib.hid bR
  have HU0 := Lib.hid bU
  have HB0 := Lib.hid hB3
  clear bP bR bU hB3
  have TP := HP0.out.cells
  have TU := HU0.out.cells
  have hOpen := TP
  simp only [Cells, blk, List.cons_append, List.nil_append, and_true, Nat.reduceAdd, Nat.add_zero, Nat.zero_add] at hOpen
  obtain ⟨y0, y1, y2, y3, y4, y5, y6, y7, y8, y9, yA, yB⟩ := hOpen
  have hOpen := TU
  simp only [Cells, blk, List.cons_append, List.nil_append, and_true, Nat.reduceAdd, Nat.add_zero, Nat.zero_add] at hOpen
  obtain ⟨u0, u1, u2, u3, u4, u5, u6, u7, u8, u9, uA⟩ := hOpen
  clear TP TU
  have fz := HP0.out.frozen 2
  go_wp2_with fail
  refine (HN0.out _ HB0.out).mono ?_
  rintro e w' ⟨rfl, rfl⟩
  have bP' := HP0.out.setAt (j := 2) (.int .u16 V0)
  simp only [List.set_cons_zero, List.set_cons_succ] at bP'
  have HX := Lib.hid (And.intro bP' (And.intro (HR0.out.other hneR (o := 2) (.int .u16 V0)) (And.intro (HU0.out.other hneU (o := 2) (.int .u16 V0)) (HB0.out.setCell (p := ⟨w.heap.size, 2, none⟩) (Nat.le_refl _) (.int .u16 V0)))))
  clear bP'
  go_upto_region 10 with fail
  clear fz y0 y1 y2 y3 y4 y5 y6 y7 y8 y9 yA yB u0 u1 u2 u3 u4 u5 u6 u7 u8 u9 uA HP0 HR0 HU0 HB0
  generalize World.setCell _ _ _ = W1 at HX ⊢
  have HP1 := Lib.hid HX.out.1
  have HR1 := Lib.hid HX.out.2.1
  have HU1 := Lib.hid HX.out.2.2.1
  have HB1 := Lib.hid HX.out.2.2.2
  clear HX
  have TP := HP1.out.cells
  have TU := HU1.out.cells
  have hOpen := TP
  simp only [Cells, blk, List.cons_append, List.nil_append, and_true, Nat.reduceAdd, Nat.add_zero, Nat.zero_add] at hOpen
  obtain ⟨y0, y1, y2, y3, y4, y5, y6, y7, y8, y9, yA, yB⟩ := hOpen
  have hOpen := TU
  simp only [Cells, blk, List.cons_append, List.nil_append, and_true, Nat.reduceAdd, Nat.add_zero, Nat.zero_add] at hOpen
  obtain ⟨u0, u1, u2, u3, u4, u5, u6, u7, u8, u9, uA⟩ := hOpen
  clear TP TU
  have hal := (Below.refl W1.heap.size W1).alloc (Nat.le_refl _) (.cells #[] 5)
  have hsr := ((HBY2.out.below HB1.out).below hal).sr HRL.out
  have HOE := Lib.hid (own_lit W1 [] 0 5 rfl (by decide))
  have HX := Lib.hid (And.intro (HP1.out.below hal) (And.intro (HR1.out.below hal) (HB1.out.trans (hal.mono HB1.out.size))))
  have hRl := HR1.out.lt
  have hWs := HB1.out.size
  clear hal HP1 HR1 HU1 HB1
  go_wp2_with (at_builtin; refine wpList_append_all rfl _ _ 26 rfl W1.heap.size 5 i0 (.int .u8 0) 1 1 Try.underlying26 hii hz0 hz1 hz2 rfl (by decide) _ 0 _ rfl HOE.out _ n2 _ rfl hsr (by unfold maxLen; omega) (by omega) (by simp) ?_)
  intro v9 w9 hown9 hg9 _
  obtain ⟨av, cv, rfl⟩ := own_slice hown9
  have hown9' : w9.ownsRow W1.heap.size 5 1 (.slice av (0 + n2) cv) (0 + n2) (bcells rs) := by simpa using hown9
  rw [Nat.zero_add] at hown9'
  have hlit : (Value.slice (some ⟨W1.heap.size, 0, none⟩) 0 0).ownBlock = some W1.heap.size := rfl
  have bP9 := HX.out.1.kept hg9 (by rw [hlit]; intro e; have := Option.some.inj e; omega)
  have bR9 := HX.out.2.1.kept hg9 (by rw [hlit]; intro e; have := Option.some.inj e; omega)
  have hB9 := HX.out.2.2.grown hg9 (by simp; omega) (fun p hp => by rw [hlit] at hp; have := Option.some.inj hp; omega)
  have bP' := bP9.setAt (j := 10) (.slice av n2 cv)
  simp only [List.set_cons_zero, List.set_cons_succ] at bP'
  have HY := Lib.hid (And.intro bP' (And.intro (bR9.other hneR (o := 10) (.slice av n2 cv)) (And.intro (hB9.setCell (p := ⟨w.heap.size, 10, none⟩) (Nat.le_refl _) (.slice av n2 cv)) (own_set (own_base hown9' hWs) bP9 (by decide) 10 (.slice av n2 cv)))))
  have fz9 := bP9.frozen 10
  have TP := bP9.cells
  clear y0 y1 y2 y3 y4 y5 y6 y7 y8 y9 yA yB u0 u1 u2 u3 u4 u5 u6 u7 u8 u9 uA hsr hg9 bR9 hB9 hown9 hown9' bP9 bP' HX hRl HOE hlit
  have hOpen := TP
  simp only [Cells, blk, List.cons_append, List.nil_append, and_true, Nat.reduceAdd, Nat.add_zero, Nat.zero_add] at hOpen
  obtain ⟨y0, y1, y2, y3, y4, y5, y6, y7, y8, y9, yA, yB⟩ := hOpen
  clear TP
  go_upto_region 31 with fail
  clear fz9
  generalize World.setCell _ _ _ = W2 at HY ⊢
  have HP2 := Lib.hid HY.out.1
  have HR2 := Lib.hid HY.out.2.1
  have HB2 := Lib.hid HY.out.2.2.1
  have HO := Lib.hid HY.out.2.2.2
  clear HY
  clear y0 y1 y2 y3 y4 y5 y6 y7 y8 y9 yA yB
  have TP := HP2.out.cells
  have hOpen := TP
  simp only [Cells, blk, List.cons_append, List.nil_append, and_true, Nat.reduceAdd, Nat.add_zero, Nat.zero_add] at hOpen
  obtain ⟨y0, y1, y2, y3, y4, y5, y6, y7, y8, y9, yA, yB⟩ := hOpen
  have TR := HR2.out.cells
  have hOpen := TR
  simp only [Cells, blk, List.cons_append, List.nil_append, and_true, Nat.reduceAdd, Nat.add_zero, Nat.zero_add] at hOpen
  obtain ⟨s0, s1, s2, s3, s4, s5, s6, s7, s8, s9, sA, sB⟩ := hOpen
  have g0 := HR2.out.frozen 0
  have g1 := HR2.out.frozen 1
  have g2 := HR2.out.frozen 2
  have g3 := HR2.out.frozen 3
  have g4 := HR2.out.frozen 4
  have g5 := HR2.out.frozen 5
  have g6 := HR2.out.frozen 6
  have g7 := HR2.out.frozen 7
  have g8 := HR2.out.frozen 8
  have g9 := HR2.out.frozen 9
  have gA := HR2.out.frozen 10
  have gB := HR2.out.frozen 11
  obtain ⟨b12, h12, o12⟩ := set12 HR2.out (.int .i64 x) (.int .i64 0) (.int .u16 V0) (.int .u16 0) (.int .u64 0) (.int .u64 0) (.int .i64 0) (.int .i64 0) (.int .i64 0) (.bool false) (.slice av n2 cv) (.slice none 0 0)
  have HF := Lib.hid (h12 w.heap.size w (by simp) HB2.out)
  have HS := Lib.hid (o12 _ _ _ _ _ _ (by decide) HO.out)
  obtain ⟨r0, r1, r2, r3, r4, r5, r6, r7, r8, r9, rA, rB, _⟩ := b12.cells
  simp only [Nat.zero_add, Nat.add_zero] at r0 r1 r2 r3 r4 r5 r6 r7 r8 r9 rA rB
  clear TP TR b12 h12 o12
  go_wp2
  refine bodyPost_ret (v := .tuple #[.agg #[.int .i64 x, .int .i64 0, .int .u16 V0, .int .u16 0, .int .u64 0, .int .u64 0, .int .i64 0, .int .i64 0, .int .i64 0, .bool false, .slice av n2 cv, .slice none 0 0], .int .i64 0]) (by simp [results, Try.results40, go_sem, r0, r1, r2, r3, r4, r5, r6, r7, r8, r9, rA, rB]) rfl ?_
  exact ⟨0, 0, av, n2, cv, rs, none, 0, 0, [], rfl, HF.out, fun h0 => ⟨by simp [pdOf], HS.out, HRL.out, hn2b, HBY2.out.2.2, nil_items _ _, by simp, rfl, by omega, by simp⟩⟩
end Go.Proofs.Ythnffdlnhfhabaa
namespace Go.Proofs.Ythnffdlnhfhabaa
open Go.RowKit

set_option linter.unusedSimpArgs false in
set_option linter.unusedVariables false in
set_option maxRecDepth 100000 in
set_option maxHeartbeats 4000000 in
theorem tak_HOV (x : Nat) (hk : fldC (x : Int) = some [72, 79, 86]) (a : Option Addr) (n c : Nat) (b : List Nat) (w : World) (h : BytesAt w (.slice a n c) b) (hn : b.length = n) (hc : n ≤ c) (hK : 5 ≤ n) (hm : n ≤ 1000) :
    Calls Try.prog 40 #[.agg #[.int .i64 x, .int .i64 0, .int .u16 0, .int .u16 0, .int .u64 0, .int .u64 0, .int .i64 0, .int .i64 0, .int .i64 0, .bool false, .slice none 0 0, .slice none 0 0], .slice a n c] w (TakPost w x ⟨0, vnum ((b.drop 1).take 2), 0, ((vnum ((b.drop 3).take 2) : Nat) : Int), 0, 0, false⟩ 86 (b.drop 5) (remE x 86 (b.drop 5))) := by
  have hf : ∀ W, Calls Try.prog 28 #[.int .i64 x] W (fun e w' => e = .returned (.agg #[.bool true, .bool false, .bool true, .bool false, .bool false, .bool true, .bool false, .bool false, .bool false, .bool true, .bool false]) ∧ Below W.heap.size W w') := fun W => by
    have h := rfields_any x W
    rw [hk] at h
    exact h
  have hz := build_pdu
  have hlt := h.2.2
  have hn0 := fun W (hW : Below w.heap.size w W) => num_any _ b 1 2 W (h.below hW) (by omega) (by omega) (by omega)
  have hVb0 := vnum2_lt (b.drop 1) (fun y hy => hlt y (List.mem_of_mem_drop hy))
  obtain ⟨V0, hV0⟩ : ∃ v, vnum ((b.drop 1).take 2) = v := ⟨_, rfl⟩
  rw [hV0] at hVb0 ⊢
  simp only [hV0] at hn0
  have HN0 := Lib.hid hn0
  have hw0 : IntKind.u16.wrap (V0 : Int) = (V0 : Int) := IntWalk.u16_in _ (by omega)
  have hb0 : (V0 : Int) < 65536 := by omega
  clear hn0 hV0
  have hn1 := fun W (hW : Below w.heap.size w W) => num_any _ b 3 2 W (h.below hW) (by omega) (by omega) (by omega)
  have hVb1 := vnum2_lt (b.drop 3) (fun y hy => hlt y (List.mem_of_mem_drop hy))
  obtain ⟨V1, hV1⟩ : ∃ v, vnum ((b.drop 3).take 2) = v := ⟨_, rfl⟩
  rw [hV1] at hVb1 ⊢
  simp only [hV1] at hn1
  have HN1 := Lib.hid hn1
  have hw1 : IntKind.u16.wrap (V1 : Int) = (V1 : Int) := IntWalk.u16_in _ (by omega)
  have hb1 : (V1 : Int) < 65536 := by omega
  clear hn1 hV1
  obtain ⟨i0, hii, hz0, hz1, hz2⟩ := info_parts Try.info_u8
  obtain ⟨a2, c2, hby2, hc2, hs2⟩ := bytes_from w a n c 5 b h hn hc (by omega)
  replace hs2 : ∀ W, (Instr.slice 26 (.slice a n c) (some (.int .i64 5)) none none).run Try.prog W = .ok (.slice a2 (n - 5) c2) W := hs2
  obtain ⟨n2, hn2⟩ : ∃ n2, n - 5 = n2 := ⟨_, rfl⟩
  rw [hn2] at hby2 hc2 hs2
  obtain ⟨rs, hrs⟩ : ∃ l, b.drop 5 = l := ⟨_, rfl⟩
  rw [hrs] at hby2 ⊢
  have hrl : rs.length = n2 := by rw [← hrs, List.length_drop]; omega
  have HRL := Lib.hid hrl
  have HBY2 := Lib.hid hby2
  have hn2b : n2 ≤ 1000 := by omega
  have hrem : remE x 86 rs = 0 := rfl
  rw [hrem]
  clear hrs hrl hby2 hc2 hn2 hrem
  have HFf := Lib.hid hf
  have hB := ((Below.refl w.heap.size w).alloc (Nat.le_refl _) (.cells #[.int .i64 x, .int .i64 0, .int .u16 0, .int .u16 0, .int .u64 0, .int .u64 0, .int .i64 0, .int .i64 0, .int .i64 0, .bool false, .slice none 0 0, .slice none 0 0] 29)).alloc (by simp) (.cells #[.int .i64 0, .int .i64 0, .int .u16 0, .int .u16 0, .int .u64 0, .int .u64 0, .int .i64 0, .int .i64 0, .int .i64 0, .bool false, .slice none 0 0, .slice none 0 0] 29)
  have bP := (Blk.new w 29 [.int .i64 x, .int .i64 0, .int .u16 0, .int .u16 0, .int .u64 0, .int .u64 0, .int .i64 0, .int .i64 0, .int .i64 0, .bool false, .slice none 0 0, .slice none 0 0]).alloc (.cells #[.int .i64 0, .int .i64 0, .int .u16 0, .int .u16 0, .int .u64 0, .int .u64 0, .int .i64 0, .int .i64 0, .int .i64 0, .bool false, .slice none 0 0, .slice none 0 0] 29)
  have bR := Blk.new (w.alloc (.cells #[.int .i64 x, .int .i64 0, .int .u16 0, .int .u16 0, .int .u64 0, .int .u64 0, .int .i64 0, .int .i64 0, .int .i64 0, .bool false, .slice none 0 0, .slice none 0 0] 29)) 29 [.int .i64 0, .int .i64 0, .int .u16 0, .int .u16 0, .int .u64 0, .int .u64 0, .int .i64 0, .int .i64 0, .int .i64 0, .bool false, .slice none 0 0, .slice none 0 0]
  simp only [World.size_alloc] at bR
  clear hf hk h hlt hn
  go_enter Try.func40, Try.ntmps40
  go_upto_region 1 with fail
  generalize World.alloc _ _ = X at bP bR hB ⊢
  have HB := Lib.hid hB
  have HP := Lib.hid bP
  have HR := Lib.hid bR
  have TP := bP.cells
  have hOpen := TP
  simp only [Cells, blk, List.cons_append, List.nil_append, and_true, Nat.reduceAdd, Nat.add_zero, Nat.zero_add] at hOpen
  obtain ⟨y0, y1, y2, y3, y4, y5, y6, y7, y8, y9, yA, yB⟩ := hOpen
  clear TP bP bR hB
  go_wp2_with fail
  refine (HFf.out _).mono ?_
  rintro e w1 ⟨rfl, hB1⟩
  have hneU : w1.heap.size ≠ w.heap.size := by have := HP.out.lt; have := hB1.size; omega
  have hneR : w.heap.size + 1 ≠ w.heap.size := by omega
  have hUlt : w.heap.size + 1 < w1.heap.size := Nat.lt_of_lt_of_le HR.out.lt hB1.size
  have bP := (HP.out.below hB1).alloc (.cells #[.bool true, .bool false, .bool true, .bool false, .bool false, .bool true, .bool false, .bool false, .bool false, .bool true, .bool false] 58)
  have bR := (HR.out.below hB1).alloc (.cells #[.bool true, .bool false, .bool true, .bool false, .bool false, .bool true, .bool false, .bool false, .bool false, .bool true, .bool false] 58)
  have bU := Blk.new w1 58 [.bool true, .bool false, .bool true, .bool false, .bool false, .bool true, .bool false, .bool false, .bool false, .bool true, .bool false]
  have hB2 := HB.out.trans (hB1.mono HB.out.size)
  have hB3 := hB2.alloc hB2.size (.cells #[.bool true, .bool false, .bool true, .bool false, .bool false, .bool true, .bool false, .bool false, .bool false, .bool true, .bool false] 58)
  clear y0 y1 y2 y3 y4 y5 y6 y7 y8 y9 yA yB hB1 hB2 HB HP HR HFf
  go_upto_region 2 with fail
  generalize World.alloc _ _ = W0 at bP bR bU hB3 ⊢
  have HP0 := Lib.hid bP
  have HR0 := Lib.hid bR
  have HU0 := Lib.hid bU
  have HB0 := Lib.hid hB3
  clear bP bR bU hB3
  have TP := HP0.out.cells
  have TU := HU0.out.cells
  have hOpen := TP
  simp only [Cells, blk, List.cons_append, List.nil_append, and_true, Nat.reduceAdd, Nat.add_zero, Nat.zero_add] at hOpen
  obtain ⟨y0, y1, y2, y3, y4, y5, y6, y7, y8, y9, yA, yB⟩ := hOpen
  have hOpen := TU
  simp only [Cells, blk, List.cons_append, List.nil_append, and_true, Nat.reduceAdd, Nat.add_zero, Nat.zero_add] at hOpen
  obtain ⟨u0, u1, u2, u3, u4, u5, u6, u7, u8, u9, uA⟩ := hOpen
  clear TP TU
  have fz := HP0.out.frozen 2
  go_wp2_with fail
  refine (HN0.out _ HB0.out).mono ?_
  rintro e w' ⟨rfl, rfl⟩
  have bP' := HP0.out.setAt (j := 2) (.int .u16 V0)
  simp only [List.set_cons_zero, List.set_cons_succ] at bP'
  have HX := Lib.hid (And.intro bP' (And.intro (HR0.out.other hneR (o := 2) (.int .u16 V0)) (And.intro (HU0.out.other hneU (o := 2) (.int .u16 V0)) (HB0.out.setCell (p := ⟨w.heap.size, 2, none⟩) (Nat.le_refl _) (.int .u16 V0)))))
  clear bP'
  go_upto_region 10 with fail
  clear fz y0 y1 y2 y3 y4 y5 y6 y7 y8 y9 yA yB u0 u1 u2 u3 u4 u5 u6 u7 u8 u9 uA HP0 HR0 HU0 HB0
  generalize World.setCell _ _ _ = W1 at HX ⊢
  have HP1 := Lib.hid HX.out.1
  have HR1 := Lib.hid HX.out.2.1
  have HU1 := Lib.hid HX.out.2.2.1
  have HB1 := Lib.hid HX.out.2.2.2
  clear HX
  have TP := HP1.out.cells
  have TU := HU1.out.cells
  have hOpen := TP
  simp only [Cells, blk, List.cons_append, List.nil_append, and_true, Nat.reduceAdd, Nat.add_zero, Nat.zero_add] at hOpen
  obtain ⟨y0, y1, y2, y3, y4, y5, y6, y7, y8, y9, yA, yB⟩ := hOpen
  have hOpen := TU
  simp only [Cells, blk, List.cons_append, List.nil_append, and_true, Nat.reduceAdd, Nat.add_zero, Nat.zero_add] at hOpen
  obtain ⟨u0, u1, u2, u3, u4, u5, u6, u7, u8, u9, uA⟩ := hOpen
  clear TP TU
  have fz := HP1.out.frozen 6
  go_wp2_with fail
  refine (HN1.out _ HB1.out).mono ?_
  rintro e w' ⟨rfl, rfl⟩
  have bP' := HP1.out.setAt (j := 6) (.int .i64 V1)
  simp only [List.set_cons_zero, List.set_cons_succ] at bP'
  have HX := Lib.hid (And.intro bP' (And.intro (HR1.out.other hneR (o := 6) (.int .i64 V1)) (And.intro (HU1.out.other hneU (o := 6) (.int .i64 V1)) (HB1.out.setCell (p := ⟨w.heap.size, 6, none⟩) (Nat.le_refl _) (.int .i64 V1)))))
  clear bP'
  go_upto_region 20 with fail
  clear fz y0 y1 y2 y3 y4 y5 y6 y7 y8 y9 yA yB u0 u1 u2 u3 u4 u5 u6 u7 u8 u9 uA HP1 HR1 HU1 HB1
  generalize World.setCell _ _ _ = W2 at HX ⊢
  have HP2 := Lib.hid HX.out.1
  have HR2 := Lib.hid HX.out.2.1
  have HU2 := Lib.hid HX.out.2.2.1
  have HB2 := Lib.hid HX.out.2.2.2
  clear HX
  have TP := HP2.out.cells
  have TU := HU2.out.cells
  have hOpen := TP
  simp only [Cells, blk, List.cons_append, List.nil_append, and_true, Nat.reduceAdd, Nat.add_zero, Nat.zero_add] at hOpen
  obtain ⟨y0, y1, y2, y3, y4, y5, y6, y7, y8, y9, yA, yB⟩ := hOpen
  have hOpen := TU
  simp only [Cells, blk, List.cons_append, List.nil_append, and_true, Nat.reduceAdd, Nat.add_zero, Nat.zero_add] at hOpen
  obtain ⟨u0, u1, u2, u3, u4, u5, u6, u7, u8, u9, uA⟩ := hOpen
  clear TP TU
  have hal := (Below.refl W2.heap.size W2).alloc (Nat.le_refl _) (.cells #[] 5)
  have hsr := ((HBY2.out.below HB2.out).below hal).sr HRL.out
  have HOE := Lib.hid (own_lit W2 [] 0 5 rfl (by decide))
  have HX := Lib.hid (And.intro (HP2.out.below hal) (And.intro (HR2.out.below hal) (HB2.out.trans (hal.mono HB2.out.size))))
  have hRl := HR2.out.lt
  have hWs := HB2.out.size
  clear hal HP2 HR2 HU2 HB2
  go_wp2_with (at_builtin; refine wpList_append_all rfl _ _ 26 rfl W2.heap.size 5 i0 (.int .u8 0) 1 1 Try.underlying26 hii hz0 hz1 hz2 rfl (by decide) _ 0 _ rfl HOE.out _ n2 _ rfl hsr (by unfold maxLen; omega) (by omega) (by simp) ?_)
  intro v9 w9 hown9 hg9 _
  obtain ⟨av, cv, rfl⟩ := own_slice hown9
  have hown9' : w9.ownsRow W2.heap.size 5 1 (.slice av (0 + n2) cv) (0 + n2) (bcells rs) := by simpa using hown9
  rw [Nat.zero_add] at hown9'
  have hlit : (Value.slice (some ⟨W2.heap.size, 0, none⟩) 0 0).ownBlock = some W2.heap.size := rfl
  have bP9 := HX.out.1.kept hg9 (by rw [hlit]; intro e; have := Option.some.inj e; omega)
  have bR9 := HX.out.2.1.kept hg9 (by rw [hlit]; intro e; have := Option.some.inj e; omega)
  have hB9 := HX.out.2.2.grown hg9 (by simp; omega) (fun p hp => by rw [hlit] at hp; have := Option.some.inj hp; omega)
  have bP' := bP9.setAt (j := 10) (.slice av n2 cv)
  simp only [List.set_cons_zero, List.set_cons_succ] at bP'
  have HY := Lib.hid (And.intro bP' (And.intro (bR9.other hneR (o := 10) (.slice av n2 cv)) (And.intro (hB9.setCell (p := ⟨w.heap.size, 10, none⟩) (Nat.le_refl _) (.slice av n2 cv)) (own_set (own_base hown9' hWs) bP9 (by decide) 10 (.slice av n2 cv)))))
  have fz9 := bP9.frozen 10
  have TP := bP9.cells
  clear y0 y1 y2 y3 y4 y5 y6 y7 y8 y9 yA yB u0 u1 u2 u3 u4 u5 u6 u7 u8 u9 uA hsr hg9 bR9 hB9 hown9 hown9' bP9 bP' HX hRl HOE hlit
  have hOpen := TP
  simp only [Cells, blk, List.cons_append, List.nil_append, and_true, Nat.reduceAdd, Nat.add_zero, Nat.zero_add] at hOpen
  obtain ⟨y0, y1, y2, y3, y4, y5, y6, y7, y8, y9, yA, yB⟩ := hOpen
  clear TP
  go_upto_region 31 with fail
  clear fz9
  generalize World.setCell _ _ _ = W3 at HY ⊢
  have HP3 := Lib.hid HY.out.1
  have HR3 := Lib.hid HY.out.2.1
  have HB3 := Lib.hid HY.out.2.2.1
  have HO := Lib.hid HY.out.2.2.2
  clear HY
  clear y0 y1 y2 y3 y4 y5 y6 y7 y8 y9 yA yB
  have TP := HP3.out.cells
  have hOpen := TP
  simp only [Cells, blk, List.cons_append, List.nil_append, and_true, Nat.reduceAdd, Nat.add_zero, Nat.zero_add] at hOpen
  obtain ⟨y0, y1, y2, y3, y4, y5, y6, y7, y8, y9, yA, yB⟩ := hOpen
  have TR := HR3.out.cells
  have hOpen := TR
  simp only [Cells, blk, List.cons_append, List.nil_append, and_true, Nat.reduceAdd, Nat.add_zero, Nat.zero_add] at hOpen
  obtain ⟨s0, s1, s2, s3, s4, s5, s6, s7, s8, s9, sA, sB⟩ := hOpen
  have g0 := HR3.out.frozen 0
  have g1 := HR3.out.frozen 1
  have g2 := HR3.out.frozen 2
  have g3 := HR3.out.frozen 3
  have g4 := HR3.out.frozen 4
  have g5 := HR3.out.frozen 5
  have g6 := HR3.out.frozen 6
  have g7 := HR3.out.frozen 7
  have g8 := HR3.out.frozen 8
  have g9 := HR3.out.frozen 9
  have gA := HR3.out.frozen 10
  have gB := HR3.out.frozen 11
  obtain ⟨b12, h12, o12⟩ := set12 HR3.out (.int .i64 x) (.int .i64 0) (.int .u16 V0) (.int .u16 0) (.int .u64 0) (.int .u64 0) (.int .i64 V1) (.int .i64 0) (.int .i64 0) (.bool false) (.slice av n2 cv) (.slice none 0 0)
  have HF := Lib.hid (h12 w.heap.size w (by simp) HB3.out)
  have HS := Lib.hid (o12 _ _ _ _ _ _ (by decide) HO.out)
  obtain ⟨r0, r1, r2, r3, r4, r5, r6, r7, r8, r9, rA, rB, _⟩ := b12.cells
  simp only [Nat.zero_add, Nat.add_zero] at r0 r1 r2 r3 r4 r5 r6 r7 r8 r9 rA rB
  clear TP TR b12 h12 o12
  go_wp2
  refine bodyPost_ret (v := .tuple #[.agg #[.int .i64 x, .int .i64 0, .int .u16 V0, .int .u16 0, .int .u64 0, .int .u64 0, .int .i64 V1, .int .i64 0, .int .i64 0, .bool false, .slice av n2 cv, .slice none 0 0], .int .i64 0]) (by simp [results, Try.results40, go_sem, r0, r1, r2, r3, r4, r5, r6, r7, r8, r9, rA, rB]) rfl ?_
  exact ⟨0, 0, av, n2, cv, rs, none, 0, 0, [], rfl, HF.out, fun h0 => ⟨by simp [pdOf], HS.out, HRL.out, hn2b, HBY2.out.2.2, nil_items _ _, by simp, rfl, by omega, by simp⟩⟩
set_option linter.unusedSimpArgs false in
set_option linter.unusedVariables false in
set_option maxRecDepth 100000 in
set_option maxHeartbeats 4000000 in
theorem tak_X (x : Nat) (hk : fldC (x : Int) = some [88]) (a : Option Addr) (n c : Nat) (b : List Nat) (w : World) (h : BytesAt w (.slice a n c) b) (hn : b.length = n) (hc : n ≤ c) (hK : 2 ≤ n) (hm : n ≤ 1000) :
    Calls Try.prog 40 #[.agg #[.int .i64 x, .int .i64 0, .int .u16 0, .int .u16 0, .int .u64 0, .int .u64 0, .int .i64 0, .int .i64 0, .int .i64 0, .bool false, .slice none 0 0, .slice none 0 0], .slice a n c] w (TakPost w x ⟨0, 0, 0, 0, 0, 0, (((vnum ((b.drop 1).take 1) : Nat) : Int) == 1)⟩ 0 (b.drop 2) (if 1 < vnum ((b.drop 1).take 1) then 2 else 0)) := by
  have hf : ∀ W, Calls Try.prog 28 #[.int .i64 x] W (fun e w' => e = .returned (.agg #[.bool true, .bool false, .bool false, .bool false, .bool false, .bool false, .bool false, .bool false, .bool true, .bool false, .bool false]) ∧ Below W.heap.size W w') := fun W => by
    have h := rfields_any x W
    rw [hk] at h
    exact h
  have hz := build_pdu
  have hlt := h.2.2
  obtain ⟨bb, off, ea0, kx0, hVb0⟩ := byte_at h hn 1 (by omega)
  obtain ⟨V0, hV0⟩ : ∃ v, vnum ((b.drop 1).take 1) = v := ⟨_, rfl⟩
  rw [hV0] at kx0 hVb0 ⊢
  have hb0 : (V0 : Int) < 256 := by omega
  have HK0 := Lib.hid kx0
  have hi0 : (1 : Int) < (n : Int) := by omega
  clear hV0 kx0
  subst ea0
  obtain ⟨qx, hqx⟩ : ∃ q, ((V0 : Int) == 1) = q := ⟨_, rfl⟩
  have hqx' : (V0 == 1) = qx := by rw [← hqx, Bool.eq_iff_iff]; simp only [beq_iff_eq]; omega
  rw [hqx]
  obtain ⟨EE, hEE⟩ : ∃ e : Int, (if 1 < V0 then (2 : Int) else 0) = e := ⟨_, rfl⟩
  rw [hEE]
  have HEE := Lib.hid hEE
  clear hEE
  have HFf := Lib.hid hf
  have hB := ((Below.refl w.heap.size w).alloc (Nat.le_refl _) (.cells #[.int .i64 x, .int .i64 0, .int .u16 0, .int .u16 0, .int .u64 0, .int .u64 0, .int .i64 0, .int .i64 0, .int .i64 0, .bool false, .slice none 0 0, .slice none 0 0] 29)).alloc (by simp) (.cells #[.int .i64 0, .int .i64 0, .int .u16 0, .int .u16 0, .int .u64 0, .int .u64 0, .int .i64 0, .int .i64 0, .int .i64 0, .bool false, .slice none 0 0, .slice none 0 0] 29)
  have bP := (Blk.new w 29 [.int .i64 x, .int .i64 0, .int .u16 0, .int .u16 0, .int .u64 0, .int .u64 0, .int .i64 0, .int .i64 0, .int .i64 0, .bool false, .slice none 0 0, .slice none 0 0]).alloc (.cells #[.int .i64 0, .int .i64 0, .int .u16 0, .int .u16 0, .int .u64 0, .int .u64 0, .int .i64 0, .int .i64 0, .int .i64 0, .bool false, .slice none 0 0, .slice none 0 0] 29)
  have bR := Blk.new (w.alloc (.cells #[.int .i64 x, .int .i64 0, .int .u16 0, .int .u16 0, .int .u64 0, .int .u64 0, .int .i64 0, .int .i64 0, .int .i64 0, .bool false, .slice none 0 0, .slice none 0 0] 29)) 29 [.int .i64 0, .int .i64 0, .int .u16 0, .int .u16 0, .int .u64 0, .int .u64 0, .int .i64 0, .int .i64 0, .int .i64 0, .bool false, .slice none 0 0, .slice none 0 0]
  simp only [World.size_alloc] at bR
  clear hf hk h hlt hn
  go_enter Try.func40, Try.ntmps40
  go_upto_region 1 with fail
  generalize World.alloc _ _ = X at bP bR hB ⊢
  have HB := Lib.hid hB
  have HP := Lib.hid bP
  have HR := Lib.hid bR
  have TP := bP.cells
  have hOpen := TP
  simp only [Cells, blk, List.cons_append, List.nil_append, and_true, Nat.reduceAdd, Nat.add_zero, Nat.zero_add] at hOpen
  obtain ⟨y0, y1, y2, y3, y4, y5, y6, y7, y8, y9, yA, yB⟩ := hOpen
  clear TP bP bR hB
  go_wp2_with fail
  refine (HFf.out _).mono ?_
  rintro e w1 ⟨rfl, hB1⟩
  have hneU : w1.heap.size ≠ w.heap.size := by have := HP.out.lt; have := hB1.size; omega
  have hneR : w.heap.size + 1 ≠ w.heap.size := by omega
  have hUlt : w.heap.size + 1 < w1.heap.size := Nat.lt_of_lt_of_le HR.out.lt hB1.size
  have bP := (HP.out.below hB1).alloc (.cells #[.bool true, .bool false, .bool false, .bool false, .bool false, .bool false, .bool false, .bool false, .bool true, .bool false, .bool false] 58)
  have bR := (HR.out.below hB1).alloc (.cells #[.bool true, .bool false, .bool false, .bool false, .bool false, .bool false, .bool false, .bool false, .bool true, .bool false, .bool false] 58)
  have bU := Blk.new w1 58 [.bool true, .bool false, .bool false, .bool false, .bool false, .bool false, .bool false, .bool false, .bool true, .bool false, .bool false]
  have hB2 := HB.out.trans (hB1.mono HB.out.size)
  have hB3 := hB2.alloc hB2.size (.cells #[.bool true, .bool false, .bool false, .bool false, .bool false, .bool false, .bool false, .bool false, .bool true, .bool false, .bool false] 58)
  clear y0 y1 y2 y3 y4 y5 y6 y7 y8 y9 yA yB hB1 hB2 HB HP HR HFf
  go_upto_region 2 with fail
  generalize World.alloc _ _ = W0 at bP bR bU hB3 ⊢
  have HP0 := Lib.hid bP
  have HR0 := Lib.hid bR
  have HU0 := Lib.hid bU
  have HB0 := Lib.hid hB3
  clear bP bR bU hB3
  have TP := HP0.out.cells
  have TU := HU0.out.cells
  have hOpen := TP
  simp only [Cells, blk, List.cons_append, List.nil_append, and_true, Nat.reduceAdd, Nat.add_zero, Nat.zero_add] at hOpen
  obtain ⟨y0, y1, y2, y3, y4, y5, y6, y7, y8, y9, yA, yB⟩ := hOpen
  have hOpen := TU
  simp only [Cells, blk, List.cons_append, List.nil_append, and_true, Nat.reduceAdd, Nat.add_zero, Nat.zero_add] at hOpen
  obtain ⟨u0, u1, u2, u3, u4, u5, u6, u7, u8, u9, uA⟩ := hOpen
  clear TP TU
  have fz := HP0.out.frozen 9
  have kx := kc HK0.out HB0.out
  have bP' := HP0.out.setAt (j := 9) (.bool qx)
  simp only [List.set_cons_zero, List.set_cons_succ] at bP'
  have HX := Lib.hid (And.intro bP' (And.intro (HR0.out.other hneR (o := 9) (.bool qx)) (And.intro (HU0.out.other hneU (o := 9) (.bool qx)) (HB0.out.setCell (p := ⟨w.heap.size, 9, none⟩) (Nat.le_refl _) (.bool qx)))))
  clear bP'
  go_upto_region 27 with fail
  clear fz y0 y1 y2 y3 y4 y5 y6 y7 y8 y9 yA yB u0 u1 u2 u3 u4 u5 u6 u7 u8 u9 uA HP0 HR0 HU0 HB0 kx
  generalize World.setCell _ _ _ = W1 at HX ⊢
  have HP1 := Lib.hid HX.out.1
  have HR1 := Lib.hid HX.out.2.1
  have HU1 := Lib.hid HX.out.2.2.1
  have HB1 := Lib.hid HX.out.2.2.2
  clear HX
  have TP := HP1.out.cells
  have TU := HU1.out.cells
  have hOpen := TP
  simp only [Cells, blk, List.cons_append, List.nil_append, and_true, Nat.reduceAdd, Nat.add_zero, Nat.zero_add] at hOpen
  obtain ⟨y0, y1, y2, y3, y4, y5, y6, y7, y8, y9, yA, yB⟩ := hOpen
  have hOpen := TU
  simp only [Cells, blk, List.cons_append, List.nil_append, and_true, Nat.reduceAdd, Nat.add_zero, Nat.zero_add] at hOpen
  obtain ⟨u0, u1, u2, u3, u4, u5, u6, u7, u8, u9, uA⟩ := hOpen
  clear TP TU
  have kx := kc HK0.out HB1.out
  by_cases hv : 1 < V0
  · have g1 : decide (1 < V0) = true := by simpa using hv
    have g1' : decide ((1 : Int) < (V0 : Int)) = true := by simp; omega
    obtain rfl : EE = 2 := by rw [← HEE.out, if_pos hv]
    go_upto_region 28 with fail
    clear kx
    clear y0 y1 y2 y3 y4 y5 y6 y7 y8 y9 yA yB u0 u1 u2 u3 u4 u5 u6 u7 u8 u9 uA
    have TP := HP1.out.cells
    have hOpen := TP
    simp only [Cells, blk, List.cons_append, List.nil_append, and_true, Nat.reduceAdd, Nat.add_zero, Nat.zero_add] at hOpen
    obtain ⟨y0, y1, y2, y3, y4, y5, y6, y7, y8, y9, yA, yB⟩ := hOpen
    have TR := HR1.out.cells
    have hOpen := TR
    simp only [Cells, blk, List.cons_append, List.nil_append, and_true, Nat.reduceAdd, Nat.add_zero, Nat.zero_add] at hOpen
    obtain ⟨s0, s1, s2, s3, s4, s5, s6, s7, s8, s9, sA, sB⟩ := hOpen
    have g0 := HR1.out.frozen 0
    have g1 := HR1.out.frozen 1
    have g2 := HR1.out.frozen 2
    have g3 := HR1.out.frozen 3
    have g4 := HR1.out.frozen 4
    have g5 := HR1.out.frozen 5
    have g6 := HR1.out.frozen 6
    have g7 := HR1.out.frozen 7
    have g8 := HR1.out.frozen 8
    have g9 := HR1.out.frozen 9
    have gA := HR1.out.frozen 10
    have gB := HR1.out.frozen 11
    obtain ⟨b12, h12, _⟩ := set12 HR1.out (.int .i64 x) (.int .i64 0) (.int .u16 0) (.int .u16 0) (.int .u64 0) (.int .u64 0) (.int .i64 0) (.int .i64 0) (.int .i64 0) (.bool qx) (.slice none 0 0) (.slice none 0 0)
    have HF := Lib.hid (h12 w.heap.size w (by simp) HB1.out)
    obtain ⟨r0, r1, r2, r3, r4, r5, r6, r7, r8, r9, rA, rB, _⟩ := b12.cells
    simp only [Nat.zero_add, Nat.add_zero] at r0 r1 r2 r3 r4 r5 r6 r7 r8 r9 rA rB
    clear TP TR b12 h12
    go_wp2
    refine bodyPost_ret (v := .tuple #[.agg #[.int .i64 x, .int .i64 0, .int .u16 0, .int .u16 0, .int .u64 0, .int .u64 0, .int .i64 0, .int .i64 0, .int .i64 0, .bool qx, .slice none 0 0, .slice none 0 0], .int .i64 2]) (by simp [results, Try.results40, go_sem, r0, r1, r2, r3, r4, r5, r6, r7, r8, r9, rA, rB]) rfl ?_
    exact ⟨0, 0, none, 0, 0, [], none, 0, 0, [], rfl, HF.out, fun h => by cases h⟩
  · have g1 : decide (1 < V0) = false := by simpa using hv
    have g1' : decide ((1 : Int) < (V0 : Int)) = false := by simp; omega
    obtain rfl : EE = 0 := by rw [← HEE.out, if_neg hv]
    go_upto_region 31 with fail
    clear kx
    clear y0 y1 y2 y3 y4 y5 y6 y7 y8 y9 yA yB u0 u1 u2 u3 u4 u5 u6 u7 u8 u9 uA
    have TP := HP1.out.cells
    have hOpen := TP
    simp only [Cells, blk, List.cons_append, List.nil_append, and_true, Nat.reduceAdd, Nat.add_zero, Nat.zero_add] at hOpen
    obtain ⟨y0, y1, y2, y3, y4, y5, y6, y7, y8, y9, yA, yB⟩ := hOpen
    have TR := HR1.out.cells
    have hOpen := TR
    simp only [Cells, blk, List.cons_append, List.nil_append, and_true, Nat.reduceAdd, Nat.add_zero, Nat.zero_add] at hOpen
    obtain ⟨s0, s1, s2, s3, s4, s5, s6, s7, s8, s9, sA, sB⟩ := hOpen
    have g0 := HR1.out.frozen 0
    have g1 := HR1.out.frozen 1
    have g2 := HR1.out.frozen 2
    have g3 := HR1.out.frozen 3
    have g4 := HR1.out.frozen 4
    have g5 := HR1.out.frozen 5
    have g6 := HR1.out.frozen 6
    have g7 := HR1.out.frozen 7
    have g8 := HR1.out.frozen 8
    have g9 := HR1.out.frozen 9
    have gA := HR1.out.frozen 10
    have gB := HR1.out.frozen 11
    obtain ⟨b12, h12, _⟩ := set12 HR1.out (.int .i64 x) (.int .i64 0) (.int .u16 0) (.int .u16 0) (.int .u64 0) (.int .u64 0) (.int .i64 0) (.int .i64 0) (.int .i64 0) (.bool qx) (.slice none 0 0) (.slice none 0 0)
    have HF := Lib.hid (h12 w.heap.size w (by simp) HB1.out)
    obtain ⟨r0, r1, r2, r3, r4, r5, r6, r7, r8, r9, rA, rB, _⟩ := b12.cells
    simp only [Nat.zero_add, Nat.add_zero] at r0 r1 r2 r3 r4 r5 r6 r7 r8 r9 rA rB
    clear TP TR b12 h12
    go_wp2
    refine bodyPost_ret (v := .tuple #[.agg #[.int .i64 x, .int .i64 0, .int .u16 0, .int .u16 0, .int .u64 0, .int .u64 0, .int .i64 0, .int .i64 0, .int .i64 0, .bool qx, .slice none 0 0, .slice none 0 0], .int .i64 0]) (by simp [results, Try.results40, go_sem, r0, r1, r2, r3, r4, r5, r6, r7, r8, r9, rA, rB]) rfl ?_
    exact ⟨0, 0, none, 0, 0, [], none, 0, 0, [], rfl, HF.out, fun _ => ⟨rfl, nil_u8 _ _, rfl, by omega, by simp, nil_items _ _, by simp, rfl, by omega, by simp⟩⟩
set_option linter.unusedSimpArgs false in
set_option linter.unusedVariables false in
set_option maxRecDepth 100000 in
set_option maxHeartbeats 4000000 in
theorem tak_n (x : Nat) (hk : fldC (x : Int) = some []) (a : Option Addr) (n c : Nat) (b : List Nat) (w : World) (h : BytesAt w (.slice a n c) b) (hn : b.length = n) (hc : n ≤ c) (hK : 1 ≤ n) (hm : n ≤ 1000) :
    Calls Try.prog 40 #[.agg #[.int .i64 x, .int .i64 0, .int .u16 0, .int .u16 0, .int .u64 0, .int .u64 0, .int .i64 0, .int .i64 0, .int .i64 0, .bool false, .slice none 0 0, .slice none 0 0], .slice a n c] w (TakPost w x ⟨0, 0, 0, 0, 0, 0, false⟩ 0 (b.drop 1) 0) := by
  have hf : ∀ W, Calls Try.prog 28 #[.int .i64 x] W (fun e w' => e = .returned (.agg #[.bool true, .bool false, .bool false, .bool false, .bool false, .bool false, .bool false, .bool false, .bool false, .bool false, .bool false]) ∧ Below W.heap.size W w') := fun W => by
    have h := rfields_any x W
    rw [hk] at h
    exact h
  have hz := build_pdu
  have hlt := h.2.2
  have HFf := Lib.hid hf
  have hB := ((Below.refl w.heap.size w).alloc (Nat.le_refl _) (.cells #[.int .i64 x, .int .i64 0, .int .u16 0, .int .u16 0, .int .u64 0, .int .u64 0, .int .i64 0, .int .i64 0, .int .i64 0, .bool false, .slice none 0 0, .slice none 0 0] 29)).alloc (by simp) (.cells #[.int .i64 0, .int .i64 0, .int .u16 0, .int .u16 0, .int .u64 0, .int .u64 0, .int .i64 0, .int .i64 0, .int .i64 0, .bool false, .slice none 0 0, .slice none 0 0] 29)
  have bP := (Blk.new w 29 [.int .i64 x, .int .i64 0, .int .u16 0, .int .u16 0, .int .u64 0, .int .u64 0, .int .i64 0, .int .i64 0, .int .i64 0, .bool false, .slice none 0 0, .slice none 0 0]).alloc (.cells #[.int .i64 0, .int .i64 0, .int .u16 0, .int .u16 0, .int .u64 0, .int .u64 0, .int .i64 0, .int .i64 0, .int .i64 0, .bool false, .slice none 0 0, .slice none 0 0] 29)
  have bR := Blk.new (w.alloc (.cells #[.int .i64 x, .int .i64 0, .int .u16 0, .int .u16 0, .int .u64 0, .int .u64 0, .int .i64 0, .int .i64 0, .int .i64 0, .bool false, .slice none 0 0, .slice none 0 0] 29)) 29 [.int .i64 0, .int .i64 0, .int .u16 0, .int .u16 0, .int .u64 0, .int .u64 0, .int .i64 0, .int .i64 0, .int .i64 0, .bool false, .slice none 0 0, .slice none 0 0]
  simp only [World.size_alloc] at bR
  clear hf hk h hlt hn
  go_enter Try.func40, Try.ntmps40
  go_upto_region 1 with fail
  generalize World.alloc _ _ = X at bP bR hB ⊢
  have HB := Lib.hid hB
  have HP := Lib.hid bP
  have HR := Lib.hid bR
  have TP := bP.cells
  have hOpen := TP
  simp only [Cells, blk, List.cons_append, List.nil_append, and_true, Nat.reduceAdd, Nat.add_zero, Nat.zero_add] at hOpen
  obtain ⟨y0, y1, y2, y3, y4, y5, y6, y7, y8, y9, yA, yB⟩ := hOpen
  clear TP bP bR hB
  go_wp2_with fail
  refine (HFf.out _).mono ?_
  rintro e w1 ⟨rfl, hB1⟩
  have hneU : w1.heap.size ≠ w.heap.size := by have := HP.out.lt; have := hB1.size; omega
  have hneR : w.heap.size + 1 ≠ w.heap.size := by omega
  have hUlt : w.heap.size + 1 < w1.heap.size := Nat.lt_of_lt_of_le HR.out.lt hB1.size
  have bP := (HP.out.below hB1).alloc (.cells #[.bool true, .bool false, .bool false, .bool false, .bool false, .bool false, .bool false, .bool false, .bool false, .bool false, .bool false] 58)
  have bR := (HR.out.below hB1).alloc (.cells #[.bool true, .bool false, .bool false, .bool false, .bool false, .bool false, .bool false, .bool false, .bool false, .bool false, .bool false] 58)
  have bU := Blk.new w1 58 [.bool true, .bool false, .bool false, .bool false, .bool false, .bool false, .bool false, .bool false, .bool false, .bool false, .bool false]
  have hB2 := HB.out.trans (hB1.mono HB.out.size)
  have hB3 := hB2.alloc hB2.size (.cells #[.bool true, .bool false, .bool false, .bool false, .bool false, .bool false, .bool false, .bool false, .bool false, .bool false, .bool false] 58)
  clear y0 y1 y2 y3 y4 y5 y6 y7 y8 y9 yA yB hB1 hB2 HB HP HR HFf
  go_upto_region 2 with fail
  generalize World.alloc _ _ = W0 at bP bR bU hB3 ⊢
  have HP0 := Lib.hid bP
  have HR0 := Lib.hid bR
  have HU0 := Lib.hid bU
  have HB0 := Lib.hid hB3
  clear bP bR bU hB3
  have TP := HP0.out.cells
  have TU := HU0.out.cells
  have hOpen := TP
  simp only [Cells, blk, List.cons_append, List.nil_append, and_true, Nat.reduceAdd, Nat.add_zero, Nat.zero_add] at hOpen
  obtain ⟨y0, y1, y2, y3, y4, y5, y6, y7, y8, y9, yA, yB⟩ := hOpen
  have hOpen := TU
  simp only [Cells, blk, List.cons_append, List.nil_append, and_true, Nat.reduceAdd, Nat.add_zero, Nat.zero_add] at hOpen
  obtain ⟨u0, u1, u2, u3, u4, u5, u6, u7, u8, u9, uA⟩ := hOpen
  clear TP TU
  go_upto_region 31 with fail
  clear y0 y1 y2 y3 y4 y5 y6 y7 y8 y9 yA yB u0 u1 u2 u3 u4 u5 u6 u7 u8 u9 uA
  have TP := HP0.out.cells
  have hOpen := TP
  simp only [Cells, blk, List.cons_append, List.nil_append, and_true, Nat.reduceAdd, Nat.add_zero, Nat.zero_add] at hOpen
  obtain ⟨y0, y1, y2, y3, y4, y5, y6, y7, y8, y9, yA, yB⟩ := hOpen
  have TR := HR0.out.cells
  have hOpen := TR
  simp only [Cells, blk, List.cons_append, List.nil_append, and_true, Nat.reduceAdd, Nat.add_zero, Nat.zero_add] at hOpen
  obtain ⟨s0, s1, s2, s3, s4, s5, s6, s7, s8, s9, sA, sB⟩ := hOpen
  have g0 := HR0.out.frozen 0
  have g1 := HR0.out.frozen 1
  have g2 := HR0.out.frozen 2
  have g3 := HR0.out.frozen 3
  have g4 := HR0.out.frozen 4
  have g5 := HR0.out.frozen 5
  have g6 := HR0.out.frozen 6
  have g7 := HR0.out.frozen 7
  have g8 := HR0.out.frozen 8
  have g9 := HR0.out.frozen 9
  have gA := HR0.out.frozen 10
  have gB := HR0.out.frozen 11
  obtain ⟨b12, h12, _⟩ := set12 HR0.out (.int .i64 x) (.int .i64 0) (.int .u16 0) (.int .u16 0) (.int .u64 0) (.int .u64 0) (.int .i64 0) (.int .i64 0) (.int .i64 0) (.bool false) (.slice none 0 0) (.slice none 0 0)
  have HF := Lib.hid (h12 w.heap.size w (by simp) HB0.out)
  obtain ⟨r0, r1, r2, r3, r4, r5, r6, r7, r8, r9, rA, rB, _⟩ := b12.cells
  simp only [Nat.zero_add, Nat.add_zero] at r0 r1 r2 r3 r4 r5 r6 r7 r8 r9 rA rB
  clear TP TR b12 h12
  go_wp2
  refine bodyPost_ret (v := .tuple #[.agg #[.int .i64 x, .int .i64 0, .int .u16 0, .int .u16 0, .int .u64 0, .int .u64 0, .int .i64 0, .int .i64 0, .int .i64 0, .bool false, .slice none 0 0, .slice none 0 0], .int .i64 0]) (by simp [results, Try.results40, go_sem, r0, r1, r2, r3, r4, r5, r6, r7, r8, r9, rA, rB]) rfl ?_
  exact ⟨0, 0, none, 0, 0, [], none, 0, 0, [], rfl, HF.out, fun h0 => ⟨rfl, nil_u8 _ _, rfl, by omega, by simp, nil_items _ _, by simp, rfl, by omega, by simp⟩⟩
end Go.Proofs.Ythnffdlnhfhabaa
