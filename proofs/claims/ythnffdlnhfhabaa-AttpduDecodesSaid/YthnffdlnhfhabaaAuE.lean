/- attpdu: the chapter's example. -/
import Derived.Test.YthnffdlnhfhabaaAtR
import Derived.Test.YthnffdlnhfhabaaAuA
namespace Go.Proofs.Ythnffdlnhfhabaa
open Go.RowKit

def exHi : Nat := 43980465115136
def exLo : Nat := 9223372588214596859
theorem ex_short (W : World) : Calls Try.prog 24 #[.int .u16 10240] W fun e w' => e = .returned (.agg #[.int .u64 (exHi : Nat), .int .u64 (exLo : Nat)]) ∧ Below W.heap.size W w' := rshort_any 10240 (by decide) W
theorem ex_c1 : chkP 1 10 3 0 0 0 0 0 1 false 0 0 [] = 0 := by decide +kernel
theorem ex_b1 : encP 1 10 3 0 0 0 0 0 1 false [] [] = [1, 10, 3, 0, 1] := by decide +kernel
theorem ex_enc1 (W : World) : Calls Try.prog 14 #[.agg #[.int .i64 1, .int .i64 10, .int .u16 3, .int .u16 0, .int .u64 0, .int .u64 0, .int .i64 0, .int .i64 0, .int .i64 1, .bool false, .slice none 0 0, .slice none 0 0]] W fun e w' => ∃ v, e = .returned (.tuple #[v, .int .i64 0]) ∧ BytesAt w' v [1, 10, 3, 0, 1] ∧ Below W.heap.size W w' := by
  have := aencode_any 1 10 3 0 0 0 0 0 1 false none none 0 0 0 0 [] [] W (bytesAt_nil _) rfl (items_nil _) (by decide) (by simp) (by decide) (by decide) (by decide) (by decide)
  simp only [ex_c1, if_true, ex_b1] at this
  exact this
def exIts (A B : Nat) : List It := [⟨2, 0, 0, 0, some ⟨A, 0, none⟩, 1, 1, [7]⟩, ⟨5, 0, 0, 0, some ⟨B, 0, none⟩, 1, 1, [8]⟩]
theorem exIts_len (A B : Nat) : ∀ t ∈ exIts A B, t.bs.length = t.n := by
  intro t ht
  simp only [exIts, List.mem_cons, List.not_mem_nil, or_false] at ht
  rcases ht with rfl | rfl <;> rfl
theorem exIts_of (A B : Nat) : (exIts A B).map (fun t => itOf (dat t)) = [⟨2, 0, 0, 0, none, 1, 0, [7]⟩, ⟨5, 0, 0, 0, none, 1, 0, [8]⟩] := rfl
theorem ex_c2 (A B : Nat) : chkP 9 0 0 0 0 0 0 0 0 false 0 2 (exIts A B) = 0 := by rw [chkP_of _ _ _ _ _ _ _ _ _ _ _ _ _ (exIts_len A B), exIts_of]; decide +kernel
theorem ex_b2 (A B : Nat) : encP 9 0 0 0 0 0 0 0 0 false [] (exIts A B) = [9, 3, 2, 0, 7, 5, 0, 8] := by rw [encP_of _ _ _ _ _ _ _ _ _ _ _ _ (exIts_len A B), exIts_of]; decide +kernel
theorem ex_enc2 (W : World) (A B L : Nat) (hA : Blk W A 5 [.int .u8 7]) (hB : Blk W B 5 [.int .u8 8]) (hL : Blk W L 46 [.int .u16 2, .int .u16 0, .int .u64 0, .int .u64 0, .slice (some ⟨A, 0, none⟩) 1 1, .int .u16 5, .int .u16 0, .int .u64 0, .int .u64 0, .slice (some ⟨B, 0, none⟩) 1 1]) : Calls Try.prog 14 #[.agg #[.int .i64 9, .int .i64 0, .int .u16 0, .int .u16 0, .int .u64 0, .int .u64 0, .int .i64 0, .int .i64 0, .int .i64 0, .bool false, .slice none 0 0, .slice (some ⟨L, 0, none⟩) 2 2]] W fun e w' => ∃ v, e = .returned (.tuple #[v, .int .i64 0]) ∧ BytesAt w' v [9, 3, 2, 0, 7, 5, 0, 8] ∧ Below W.heap.size W w' := by
  have bA : BytesAt W (.slice (some ⟨A, 0, none⟩) 1 1) [7] := bytesAt_of_blk (bs := [7]) hA rfl (by decide) (by decide)
  have bB : BytesAt W (.slice (some ⟨B, 0, none⟩) 1 1) [8] := bytesAt_of_blk (bs := [8]) hB rfl (by decide) (by decide)
  have hits : Items W (.slice (some ⟨L, 0, none⟩) 2 2) 2 (exIts A B) := by
    refine ⟨rfl, ⟨by unfold maxLen; omega, rfl, ?_, some ⟨L, 0, none⟩, 2, rfl, fun h => (by cases h), fun _ => ⟨L, 0, rfl, hL.lt, fun j u hj => ?_⟩⟩, ?_⟩
    · exact itc_one _
    · rw [Nat.zero_add]
      exact hL.cell hj
    · intro t ht
      simp only [exIts, List.mem_cons, List.not_mem_nil, or_false] at ht
      rcases ht with rfl | rfl
      · exact ⟨show (2 : Nat) < 65536 by decide, show (0 : Nat) < 65536 by decide, show (0 : Nat) < 18446744073709551616 by decide, show (0 : Nat) < 18446744073709551616 by decide, rfl, bA⟩
      · exact ⟨show (5 : Nat) < 65536 by decide, show (0 : Nat) < 65536 by decide, show (0 : Nat) < 18446744073709551616 by decide, show (0 : Nat) < 18446744073709551616 by decide, rfl, bB⟩
  have := aencode_any 9 0 0 0 0 0 0 0 0 false none (some ⟨L, 0, none⟩) 0 0 2 2 [] (exIts A B) W (bytesAt_nil _) rfl hits (by decide) (by intro t ht; simp only [exIts, List.mem_cons, List.not_mem_nil, or_false] at ht; rcases ht with rfl | rfl <;> exact (show (1 : Nat) ≤ 1000000 by decide)) (by decide) (by decide) (by decide) (by decide)
  simp only [ex_c2, if_true, ex_b2] at this
  exact this
theorem ex_d1 : decP [8, 1, 0, 255, 255, 0, 40] = ((0 : Int), (⟨8, ⟨0, 1, 65535, 0, 0, 0, false⟩, exHi, exLo, [], []⟩ : Pd)) := rfl
theorem ex_dec1 (W : World) (B : Nat) (hB : Blk W B 5 [.int .u8 8, .int .u8 1, .int .u8 0, .int .u8 255, .int .u8 255, .int .u8 0, .int .u8 40]) : Calls Try.prog 17 #[.slice (some ⟨B, 0, none⟩) 7 7] W fun e w' => ∃ (av : Option Addr) (nv cv : Nat) (al : Option Addr) (m d : Nat), e = .returned (.tuple #[.agg #[.int .i64 8, .int .i64 0, .int .u16 1, .int .u16 65535, .int .u64 (exHi : Nat), .int .u64 (exLo : Nat), .int .i64 0, .int .i64 0, .int .i64 0, .bool false, .slice av nv cv, .slice al m d], .int .i64 0]) ∧ Below W.heap.size W w' := by
  refine (adecode_any (some ⟨B, 0, none⟩) 7 7 [8, 1, 0, 255, 255, 0, 40] W (bytesAt_of_blk (bs := [8, 1, 0, 255, 255, 0, 40]) hB rfl (by decide) (by decide)) rfl (Nat.le_refl _)).mono ?_
  rintro e w' ⟨av, nv, cv, al, m, d, its, he, _, _, _, _, hb⟩
  rw [ex_d1] at he
  exact ⟨av, nv, cv, al, m, d, he, hb⟩
theorem ex_d2 : decP [10, 0, 0] = ((5 : Int), pd0) := rfl
theorem ex_dec2 (W : World) (B : Nat) (hB : Blk W B 5 [.int .u8 10, .int .u8 0, .int .u8 0]) : Calls Try.prog 17 #[.slice (some ⟨B, 0, none⟩) 3 3] W fun e w' => ∃ (av : Option Addr) (nv cv : Nat) (al : Option Addr) (m d : Nat), e = .returned (.tuple #[.agg #[.int .i64 0, .int .i64 0, .int .u16 0, .int .u16 0, .int .u64 0, .int .u64 0, .int .i64 0, .int .i64 0, .int .i64 0, .bool false, .slice av nv cv, .slice al m d], .int .i64 5]) ∧ Below W.heap.size W w' := by
  refine (adecode_any (some ⟨B, 0, none⟩) 3 3 [10, 0, 0] W (bytesAt_of_blk (bs := [10, 0, 0]) hB rfl (by decide) (by decide)) rfl (Nat.le_refl _)).mono ?_
  rintro e w' ⟨av, nv, cv, al, m, d, its, he, _, _, _, _, hb⟩
  rw [ex_d2] at he
  exact ⟨av, nv, cv, al, m, d, he, hb⟩
theorem ex_d3 : decP [5, 3, 1, 0, 0, 40] = ((2 : Int), pd0) := rfl
theorem ex_dec3 (W : World) (B : Nat) (hB : Blk W B 5 [.int .u8 5, .int .u8 3, .int .u8 1, .int .u8 0, .int .u8 0, .int .u8 40]) : Calls Try.prog 17 #[.slice (some ⟨B, 0, none⟩) 6 6] W fun e w' => ∃ (av : Option Addr) (nv cv : Nat) (al : Option Addr) (m d : Nat), e = .returned (.tuple #[.agg #[.int .i64 0, .int .i64 0, .int .u16 0, .int .u16 0, .int .u64 0, .int .u64 0, .int .i64 0, .int .i64 0, .int .i64 0, .bool false, .slice av nv cv, .slice al m d], .int .i64 2]) ∧ Below W.heap.size W w' := by
  refine (adecode_any (some ⟨B, 0, none⟩) 6 6 [5, 3, 1, 0, 0, 40] W (bytesAt_of_blk (bs := [5, 3, 1, 0, 0, 40]) hB rfl (by decide) (by decide)) rfl (Nat.le_refl _)).mono ?_
  rintro e w' ⟨av, nv, cv, al, m, d, its, he, _, _, _, _, hb⟩
  rw [ex_d3] at he
  exact ⟨av, nv, cv, al, m, d, he, hb⟩
theorem ex_k1 (W : World) : (Instr.build 29 #[(0, .int .i64 1), (1, .int .i64 10), (2, .int .u16 3), (7, .int .i64 1)]).run Try.prog W = .ok (.agg #[.int .i64 1, .int .i64 10, .int .u16 3, .int .u16 0, .int .u64 0, .int .u64 0, .int .i64 0, .int .i64 0, .int .i64 1, .bool false, .slice none 0 0, .slice none 0 0]) W := by kernel_rfl
theorem ex_k2 (a : Option Addr) (n c : Nat) (W : World) : (Instr.build 46 #[(0, .int .u16 2), (3, .slice a n c)]).run Try.prog W = .ok (.agg #[.int .u16 2, .int .u16 0, .int .u64 0, .int .u64 0, .slice a n c]) W := by kernel_rfl
theorem ex_k3 (a : Option Addr) (n c : Nat) (W : World) : (Instr.build 46 #[(0, .int .u16 5), (3, .slice a n c)]).run Try.prog W = .ok (.agg #[.int .u16 5, .int .u16 0, .int .u64 0, .int .u64 0, .slice a n c]) W := by kernel_rfl
theorem ex_k4 (a : Option Addr) (n c : Nat) (W : World) : (Instr.build 29 #[(0, .int .i64 9), (10, .slice a n c)]).run Try.prog W = .ok (.agg #[.int .i64 9, .int .i64 0, .int .u16 0, .int .u16 0, .int .u64 0, .int .u64 0, .int .i64 0, .int .i64 0, .int .i64 0, .bool false, .slice none 0 0, .slice a n c]) W := by kernel_rfl
set_option linter.unusedSimpArgs false in
set_option linter.unusedVariables false in
set_option maxRecDepth 100000 in
set_option maxHeartbeats 4000000 in
theorem example_any (w : World) : Calls Try.prog 11 #[] w fun e w' => e = .returned (.bool true) ∧ Below w.heap.size w w' := by
  have k1 := ex_k1
  have k2 := ex_k2
  have k3 := ex_k3
  have k4 := ex_k4
  have h1 := ex_short
  have h2 := ex_dec1
  generalize exHi = HI at h1 h2
  generalize exLo = LO at h1 h2
  have H1 := Lib.hid h1
  have H2 := Lib.hid h2
  clear h1 h2
  go_enter Try.func11, Try.ntmps11
  go_wp2_with fail
  refine (ex_enc1 _).mono ?_
  rintro e w1 ⟨v1, rfl, hv1, hB1⟩
  have HV1 := Lib.hid hv1
  have HB1 := Lib.hid hB1
  have bA := ((Blk.new w1 5 [.int .u8 7]).alloc (.cells #[.int .u8 8] 5)).alloc (.cells #[.int .u16 2, .int .u16 0, .int .u64 0, .int .u64 0, .slice (some ⟨w1.heap.size, 0, none⟩) 1 1, .int .u16 5, .int .u16 0, .int .u64 0, .int .u64 0, .slice (some ⟨w1.heap.size + 1, 0, none⟩) 1 1] 46)
  have bB := (Blk.new (w1.alloc (.cells #[.int .u8 7] 5)) 5 [.int .u8 8]).alloc (.cells #[.int .u16 2, .int .u16 0, .int .u64 0, .int .u64 0, .slice (some ⟨w1.heap.size, 0, none⟩) 1 1, .int .u16 5, .int .u16 0, .int .u64 0, .int .u64 0, .slice (some ⟨w1.heap.size + 1, 0, none⟩) 1 1] 46)
  have bL := Blk.new ((w1.alloc (.cells #[.int .u8 7] 5)).alloc (.cells #[.int .u8 8] 5)) 46 [.int .u16 2, .int .u16 0, .int .u64 0, .int .u64 0, .slice (some ⟨w1.heap.size, 0, none⟩) 1 1, .int .u16 5, .int .u16 0, .int .u64 0, .int .u64 0, .slice (some ⟨w1.heap.size + 1, 0, none⟩) 1 1]
  simp only [World.size_alloc] at bA bB bL
  have hE2 := ex_enc2 _ _ _ _ bA bB bL
  have hB2 := ((hB1.alloc hB1.size (.cells #[.int .u8 7] 5)).alloc (by have := hB1.size; simp; omega) (.cells #[.int .u8 8] 5)).alloc (by have := hB1.size; simp; omega) (.cells #[.int .u16 2, .int .u16 0, .int .u64 0, .int .u64 0, .slice (some ⟨w1.heap.size, 0, none⟩) 1 1, .int .u16 5, .int .u16 0, .int .u64 0, .int .u64 0, .slice (some ⟨w1.heap.size + 1, 0, none⟩) 1 1] 46)
  have hv2 := hv1.below ((((Below.refl w1.heap.size w1).alloc (Nat.le_refl _) (.cells #[.int .u8 7] 5)).alloc (by simp) (.cells #[.int .u8 8] 5)).alloc (by simp; omega) (.cells #[.int .u16 2, .int .u16 0, .int .u64 0, .int .u64 0, .slice (some ⟨w1.heap.size, 0, none⟩) 1 1, .int .u16 5, .int .u16 0, .int .u64 0, .int .u64 0, .slice (some ⟨w1.heap.size + 1, 0, none⟩) 1 1] 46))
  have HE2 := Lib.hid hE2
  have HB2 := Lib.hid hB2
  have HV2 := Lib.hid hv2
  clear bA bB bL hE2 hB2 hv2 hv1 hB1 HV1 HB1
  go_wp2_with fail
  refine HE2.out.mono ?_
  rintro e w2 ⟨v2, rfl, hv2, hB3⟩
  have HV1 := Lib.hid (HV2.out.below hB3)
  have HB3 := Lib.hid (HB2.out.trans (hB3.mono HB2.out.size))
  have HV2 := Lib.hid hv2
  clear hB3 hv2 HE2 HB2
  have hcall := H2.out _ _ (Blk.new w2 5 [.int .u8 8, .int .u8 1, .int .u8 0, .int .u8 255, .int .u8 255, .int .u8 0, .int .u8 40])
  have HCALL := Lib.hid hcall
  clear hcall
  go_wp2_with fail
  refine HCALL.out.mono ?_
  rintro e w3 ⟨av, nv, cv, al, m, d, rfl, hBn⟩
  have hBb := HB3.out.alloc HB3.out.size (.cells #[.int .u8 8, .int .u8 1, .int .u8 0, .int .u8 255, .int .u8 255, .int .u8 0, .int .u8 40] 5)
  have hBc := hBb.trans (hBn.mono hBb.size)
  have hal := ((Below.refl w2.heap.size w2).alloc (Nat.le_refl _) (.cells #[.int .u8 8, .int .u8 1, .int .u8 0, .int .u8 255, .int .u8 255, .int .u8 0, .int .u8 40] 5))
  have HV1 := Lib.hid (((HV1.out.below hal).below hBn).below ((Below.refl w3.heap.size w3).alloc (Nat.le_refl _) (.cells #[.int .i64 8, .int .i64 0, .int .u16 1, .int .u16 65535, .int .u64 HI, .int .u64 LO, .int .i64 0, .int .i64 0, .int .i64 0, .bool false, .slice av nv cv, .slice al m d] 29)))
  have HV2 := Lib.hid (((HV2.out.below hal).below hBn).below ((Below.refl w3.heap.size w3).alloc (Nat.le_refl _) (.cells #[.int .i64 8, .int .i64 0, .int .u16 1, .int .u16 65535, .int .u64 HI, .int .u64 LO, .int .i64 0, .int .i64 0, .int .i64 0, .bool false, .slice av nv cv, .slice al m d] 29)))
  have HB3 := Lib.hid (hBc.alloc hBc.size (.cells #[.int .i64 8, .int .i64 0, .int .u16 1, .int .u16 65535, .int .u64 HI, .int .u64 LO, .int .i64 0, .int .i64 0, .int .i64 0, .bool false, .slice av nv cv, .slice al m d] 29))
  have HP1 := Lib.hid (Blk.new w3 29 [.int .i64 8, .int .i64 0, .int .u16 1, .int .u16 65535, .int .u64 HI, .int .u64 LO, .int .i64 0, .int .i64 0, .int .i64 0, .bool false, .slice av nv cv, .slice al m d])
  clear hBb hBc hal hBn HCALL
  go_upto_region 4 with fail
  generalize World.alloc _ _ = X3 at HV1 HV2 HB3 HP1 ⊢
  have hcall := ex_dec2 _ _ (Blk.new X3 5 [.int .u8 10, .int .u8 0, .int .u8 0])
  have HCALL := Lib.hid hcall
  clear hcall
  go_wp2_with fail
  refine HCALL.out.mono ?_
  rintro e w4 ⟨av2, nv2, cv2, al2, m2, d2, rfl, hBn⟩
  have hBb := HB3.out.alloc HB3.out.size (.cells #[.int .u8 10, .int .u8 0, .int .u8 0] 5)
  have hBc := hBb.trans (hBn.mono hBb.size)
  have hal := ((Below.refl X3.heap.size X3).alloc (Nat.le_refl _) (.cells #[.int .u8 10, .int .u8 0, .int .u8 0] 5))
  have HV1 := Lib.hid (((HV1.out.below hal).below hBn).below ((Below.refl w4.heap.size w4).alloc (Nat.le_refl _) (.cells #[.int .i64 0, .int .i64 0, .int .u16 0, .int .u16 0, .int .u64 0, .int .u64 0, .int .i64 0, .int .i64 0, .int .i64 0, .bool false, .slice av2 nv2 cv2, .slice al2 m2 d2] 29)))
  have HV2 := Lib.hid (((HV2.out.below hal).below hBn).below ((Below.refl w4.heap.size w4).alloc (Nat.le_refl _) (.cells #[.int .i64 0, .int .i64 0, .int .u16 0, .int .u16 0, .int .u64 0, .int .u64 0, .int .i64 0, .int .i64 0, .int .i64 0, .bool false, .slice av2 nv2 cv2, .slice al2 m2 d2] 29)))
  have HB3 := Lib.hid (hBc.alloc hBc.size (.cells #[.int .i64 0, .int .i64 0, .int .u16 0, .int .u16 0, .int .u64 0, .int .u64 0, .int .i64 0, .int .i64 0, .int .i64 0, .bool false, .slice av2 nv2 cv2, .slice al2 m2 d2] 29))
  have HP1 := Lib.hid ((HP1.out.alloc (.cells #[.int .u8 10, .int .u8 0, .int .u8 0] 5)).below hBn |>.alloc (.cells #[.int .i64 0, .int .i64 0, .int .u16 0, .int .u16 0, .int .u64 0, .int .u64 0, .int .i64 0, .int .i64 0, .int .i64 0, .bool false, .slice av2 nv2 cv2, .slice al2 m2 d2] 29))

  clear hBb hBc hal hBn HCALL
  go_upto_region 5 with fail
  generalize World.alloc _ _ = X4 at HV1 HV2 HB3 HP1 ⊢
  have hcall := ex_dec3 _ _ (Blk.new X4 5 [.int .u8 5, .int .u8 3, .int .u8 1, .int .u8 0, .int .u8 0, .int .u8 40])
  have HCALL := Lib.hid hcall
  clear hcall
  go_wp2_with fail
  refine HCALL.out.mono ?_
  rintro e w5 ⟨av3, nv3, cv3, al3, m3, d3, rfl, hBn⟩
  have hBb := HB3.out.alloc HB3.out.size (.cells #[.int .u8 5, .int .u8 3, .int .u8 1, .int .u8 0, .int .u8 0, .int .u8 40] 5)
  have hBc := hBb.trans (hBn.mono hBb.size)
  have hal := ((Below.refl X4.heap.size X4).alloc (Nat.le_refl _) (.cells #[.int .u8 5, .int .u8 3, .int .u8 1, .int .u8 0, .int .u8 0, .int .u8 40] 5))
  have HV1 := Lib.hid (((HV1.out.below hal).below hBn).below ((Below.refl w5.heap.size w5).alloc (Nat.le_refl _) (.cells #[.int .i64 0, .int .i64 0, .int .u16 0, .int .u16 0, .int .u64 0, .int .u64 0, .int .i64 0, .int .i64 0, .int .i64 0, .bool false, .slice av3 nv3 cv3, .slice al3 m3 d3] 29)))
  have HV2 := Lib.hid (((HV2.out.below hal).below hBn).below ((Below.refl w5.heap.size w5).alloc (Nat.le_refl _) (.cells #[.int .i64 0, .int .i64 0, .int .u16 0, .int .u16 0, .int .u64 0, .int .u64 0, .int .i64 0, .int .i64 0, .int .i64 0, .bool false, .slice av3 nv3 cv3, .slice al3 m3 d3] 29)))
  have HB3 := Lib.hid (hBc.alloc hBc.size (.cells #[.int .i64 0, .int .i64 0, .int .u16 0, .int .u16 0, .int .u64 0, .int .u64 0, .int .i64 0, .int .i64 0, .int .i64 0, .bool false, .slice av3 nv3 cv3, .slice al3 m3 d3] 29))
  have HP1 := Lib.hid ((HP1.out.alloc (.cells #[.int .u8 5, .int .u8 3, .int .u8 1, .int .u8 0, .int .u8 0, .int .u8 40] 5)).below hBn |>.alloc (.cells #[.int .i64 0, .int .i64 0, .int .u16 0, .int .u16 0, .int .u64 0, .int .u64 0, .int .i64 0, .int .i64 0, .int .i64 0, .bool false, .slice av3 nv3 cv3, .slice al3 m3 d3] 29))

  clear hBb hBc hal hBn HCALL
  go_upto_region 6 with fail
  generalize World.alloc _ _ = X5 at HV1 HV2 HB3 HP1 ⊢
  have TP := HP1.out.cells
  refine wp_region_held_drew (S := (fun W' : World => Cells W' (blk w3.heap.size 0 0 [.int .i64 8, .int .i64 0, .int .u16 1, .int .u16 65535, .int .u64 HI, .int .u64 LO, .int .i64 0, .int .i64 0, .int .i64 0, .bool false, .slice av nv cv, .slice al m d]))) (by kernel_rfl) (TP.drew) (fun hHeld => ?_)
  refine wpAnyH_take (i := 0) (oi := _) (v := ?_) (by rw [List.getElem?_toArray]; rfl) (by kernel_rfl) (by kernel_rfl) (by kernel_rfl) (by exact fun _ _ _ h => h) (Or.inl ⟨by rfl, ?_⟩) (by assumption) ?_
  rotate_left
  · intro w hSw
    try simp only [Cells, blk, List.cons_append, List.nil_append, and_true, Nat.reduceAdd, Nat.add_zero, Nat.zero_add] at hSw
    go_simp
    try with_reducible rfl
  simp only [Act.put, List.setIfInBounds_toArray, List.set_cons_zero, List.set_cons_succ]
  refine wpAnyH_take (i := 1) (oi := _) (v := ?_) (by rw [List.getElem?_toArray]; rfl) (by kernel_rfl) (by kernel_rfl) (by kernel_rfl) (by exact fun _ _ _ h => h) (Or.inl ⟨by rfl, ?_⟩) (by assumption) ?_
  rotate_left
  · intro w hSw
    try simp only [Cells, blk, List.cons_append, List.nil_append, and_true, Nat.reduceAdd, Nat.add_zero, Nat.zero_add] at hSw
    go_simp
    try with_reducible rfl
  simp only [Act.put, List.setIfInBounds_toArray, List.set_cons_zero, List.set_cons_succ]
  refine wpAnyH_take (i := 2) (oi := _) (v := ?_) (by rw [List.getElem?_toArray]; rfl) (by kernel_rfl) (by kernel_rfl) (by kernel_rfl) (by exact fun _ _ _ h => h) (Or.inl ⟨by rfl, ?_⟩) (by assumption) ?_
  rotate_left
  · intro w hSw
    try simp only [Cells, blk, List.cons_append, List.nil_append, and_true, Nat.reduceAdd, Nat.add_zero, Nat.zero_add] at hSw
    go_simp
    try with_reducible rfl
  simp only [Act.put, List.setIfInBounds_toArray, List.set_cons_zero, List.set_cons_succ]
  refine wpAnyH_take (i := 3) (oi := _) (v := ?_) (by rw [List.getElem?_toArray]; rfl) (by kernel_rfl) (by kernel_rfl) (by kernel_rfl) (by exact fun _ _ _ h => h) (Or.inl ⟨by rfl, ?_⟩) (by assumption) ?_
  rotate_left
  · intro w hSw
    try simp only [Cells, blk, List.cons_append, List.nil_append, and_true, Nat.reduceAdd, Nat.add_zero, Nat.zero_add] at hSw
    go_simp
    try with_reducible rfl
  simp only [Act.put, List.setIfInBounds_toArray, List.set_cons_zero, List.set_cons_succ]
  refine wpAnyH_ready (rs := [4]) (by kernel_rfl) (by simp) (AllReadyH.cons (o := _) (by rw [List.getElem?_toArray]; rfl) (fun K hK => ?_) AllReadyH.nil)
  go_simp
  have hal := ((Below.refl X5.heap.size X5).alloc (Nat.le_refl _) (.cells #[.int .u8 1, .int .u8 10, .int .u8 3, .int .u8 0, .int .u8 1] 5)).drew
  have bA := (Blk.new X5 5 [.int .u8 1, .int .u8 10, .int .u8 3, .int .u8 0, .int .u8 1]).drew
  have HVx := Lib.hid (HV1.out.below hal)
  have HP1 := Lib.hid (HP1.out.below hal)
  have HB3 := Lib.hid (HB3.out.trans (hal.mono HB3.out.size))
  have HV2 := Lib.hid (HV2.out.below hal)
  clear hal
  generalize World.drew _ = X6 at bA HVx HP1 HB3 HV2 ⊢
  clear hHeld
  refine hK.out _ _ (HP1.out.cells) (fun hHeld => ?_)
  clear hK K
  try simp only [Act.put, List.setIfInBounds_toArray, List.set_cons_zero, List.set_cons_succ]
  refine wpAnyH_ready (rs := [5]) (by kernel_rfl) (by simp) (AllReadyH.cons (o := _) (by rw [List.getElem?_toArray]; rfl) (fun K hK => ?_) AllReadyH.nil)
  go_simp
  refine (same_any _ _ _ _ _ HVx.out (bytesAt_of_blk (bs := [1, 10, 3, 0, 1]) bA rfl (by decide) (by decide))).mono ?_
  rintro e w9 ⟨rfl, rfl⟩
  rw [show decide ([1, 10, 3, 0, 1] = ([1, 10, 3, 0, 1] : List Nat)) = true from by decide]
  clear HVx bA
  clear hHeld
  refine hK.out _ _ (HP1.out.cells) (fun hHeld => ?_)
  clear hK K
  try simp only [Act.put, List.setIfInBounds_toArray, List.set_cons_zero, List.set_cons_succ]
  refine wpAnyH_take (i := 6) (oi := _) (v := ?_) (by rw [List.getElem?_toArray]; rfl) (by kernel_rfl) (by kernel_rfl) (by kernel_rfl) (by exact fun _ _ _ h => h) (Or.inl ⟨by rfl, ?_⟩) (by assumption) ?_
  rotate_left
  · intro w hSw
    try simp only [Cells, blk, List.cons_append, List.nil_append, and_true, Nat.reduceAdd, Nat.add_zero, Nat.zero_add] at hSw
    go_simp
    try with_reducible rfl
  simp only [Act.put, List.setIfInBounds_toArray, List.set_cons_zero, List.set_cons_succ]
  refine wpAnyH_take (i := 7) (oi := _) (v := ?_) (by rw [List.getElem?_toArray]; rfl) (by kernel_rfl) (by kernel_rfl) (by kernel_rfl) (by exact fun _ _ _ h => h) (Or.inl ⟨by rfl, ?_⟩) (by assumption) ?_
  rotate_left
  · intro w hSw
    try simp only [Cells, blk, List.cons_append, List.nil_append, and_true, Nat.reduceAdd, Nat.add_zero, Nat.zero_add] at hSw
    go_simp
    try with_reducible rfl
  simp only [Act.put, List.setIfInBounds_toArray, List.set_cons_zero, List.set_cons_succ]
  refine wpAnyH_take (i := 8) (oi := _) (v := ?_) (by rw [List.getElem?_toArray]; rfl) (by kernel_rfl) (by kernel_rfl) (by kernel_rfl) (by exact fun _ _ _ h => h) (Or.inl ⟨by rfl, ?_⟩) (by assumption) ?_
  rotate_left
  · intro w hSw
    try simp only [Cells, blk, List.cons_append, List.nil_append, and_true, Nat.reduceAdd, Nat.add_zero, Nat.zero_add] at hSw
    go_simp
    try with_reducible rfl
  simp only [Act.put, List.setIfInBounds_toArray, List.set_cons_zero, List.set_cons_succ]
  refine wpAnyH_take (i := 9) (oi := _) (v := ?_) (by rw [List.getElem?_toArray]; rfl) (by kernel_rfl) (by kernel_rfl) (by kernel_rfl) (by exact fun _ _ _ h => h) (Or.inl ⟨by rfl, ?_⟩) (by assumption) ?_
  rotate_left
  · intro w hSw
    try simp only [Cells, blk, List.cons_append, List.nil_append, and_true, Nat.reduceAdd, Nat.add_zero, Nat.zero_add] at hSw
    go_simp
    try with_reducible rfl
  simp only [Act.put, List.setIfInBounds_toArray, List.set_cons_zero, List.set_cons_succ]
  refine wpAnyH_take (i := 10) (oi := _) (v := ?_) (by rw [List.getElem?_toArray]; rfl) (by kernel_rfl) (by kernel_rfl) (by kernel_rfl) (by exact fun _ _ _ h => h) (Or.inl ⟨by rfl, ?_⟩) (by assumption) ?_
  rotate_left
  · intro w hSw
    try simp only [Cells, blk, List.cons_append, List.nil_append, and_true, Nat.reduceAdd, Nat.add_zero, Nat.zero_add] at hSw
    go_simp
    try with_reducible rfl
  simp only [Act.put, List.setIfInBounds_toArray, List.set_cons_zero, List.set_cons_succ]
  refine wpAnyH_take (i := 11) (oi := _) (v := ?_) (by rw [List.getElem?_toArray]; rfl) (by kernel_rfl) (by kernel_rfl) (by kernel_rfl) (by exact fun _ _ _ h => h) (Or.inl ⟨by rfl, ?_⟩) (by assumption) ?_
  rotate_left
  · intro w hSw
    try simp only [Cells, blk, List.cons_append, List.nil_append, and_true, Nat.reduceAdd, Nat.add_zero, Nat.zero_add] at hSw
    go_simp
    try with_reducible rfl
  simp only [Act.put, List.setIfInBounds_toArray, List.set_cons_zero, List.set_cons_succ]
  refine wpAnyH_take (i := 12) (oi := _) (v := ?_) (by rw [List.getElem?_toArray]; rfl) (by kernel_rfl) (by kernel_rfl) (by kernel_rfl) (by exact fun _ _ _ h => h) (Or.inl ⟨by rfl, ?_⟩) (by assumption) ?_
  rotate_left
  · intro w hSw
    try simp only [Cells, blk, List.cons_append, List.nil_append, and_true, Nat.reduceAdd, Nat.add_zero, Nat.zero_add] at hSw
    go_simp
    try with_reducible rfl
  simp only [Act.put, List.setIfInBounds_toArray, List.set_cons_zero, List.set_cons_succ]
  refine wpAnyH_ready (rs := [13]) (by kernel_rfl) (by simp) (AllReadyH.cons (o := _) (by rw [List.getElem?_toArray]; rfl) (fun K hK => ?_) AllReadyH.nil)
  go_simp
  have hal := ((Below.refl X6.heap.size X6).alloc (Nat.le_refl _) (.cells #[.int .u8 9, .int .u8 3, .int .u8 2, .int .u8 0, .int .u8 7, .int .u8 5, .int .u8 0, .int .u8 8] 5))
  have bA := (Blk.new X6 5 [.int .u8 9, .int .u8 3, .int .u8 2, .int .u8 0, .int .u8 7, .int .u8 5, .int .u8 0, .int .u8 8])
  have HVx := Lib.hid (HV2.out.below hal)
  have HP1 := Lib.hid (HP1.out.below hal)
  have HB3 := Lib.hid (HB3.out.trans (hal.mono HB3.out.size))

  clear hal
  generalize World.alloc _ _ = X7 at bA HVx HP1 HB3 ⊢
  clear hHeld
  refine hK.out _ _ (HP1.out.cells) (fun hHeld => ?_)
  clear hK K
  try simp only [Act.put, List.setIfInBounds_toArray, List.set_cons_zero, List.set_cons_succ]
  refine wpAnyH_ready (rs := [14]) (by kernel_rfl) (by simp) (AllReadyH.cons (o := _) (by rw [List.getElem?_toArray]; rfl) (fun K hK => ?_) AllReadyH.nil)
  go_simp
  refine (same_any _ _ _ _ _ HVx.out (bytesAt_of_blk (bs := [9, 3, 2, 0, 7, 5, 0, 8]) bA rfl (by decide) (by decide))).mono ?_
  rintro e w9 ⟨rfl, rfl⟩
  rw [show decide ([9, 3, 2, 0, 7, 5, 0, 8] = ([9, 3, 2, 0, 7, 5, 0, 8] : List Nat)) = true from by decide]
  clear HVx bA
  clear hHeld
  refine hK.out _ _ (HP1.out.cells) (fun hHeld => ?_)
  clear hK K
  try simp only [Act.put, List.setIfInBounds_toArray, List.set_cons_zero, List.set_cons_succ]
  refine wpAnyH_take (i := 15) (oi := _) (v := ?_) (by rw [List.getElem?_toArray]; rfl) (by kernel_rfl) (by kernel_rfl) (by kernel_rfl) (by exact fun _ _ _ h => h) (Or.inl ⟨by rfl, ?_⟩) (by assumption) ?_
  rotate_left
  · intro w hSw
    try simp only [Cells, blk, List.cons_append, List.nil_append, and_true, Nat.reduceAdd, Nat.add_zero, Nat.zero_add] at hSw
    go_simp
    try with_reducible rfl
  simp only [Act.put, List.setIfInBounds_toArray, List.set_cons_zero, List.set_cons_succ]
  refine wpAnyH_take (i := 16) (oi := _) (v := ?_) (by rw [List.getElem?_toArray]; rfl) (by kernel_rfl) (by kernel_rfl) (by kernel_rfl) (by exact fun _ _ _ h => h) (Or.inl ⟨by rfl, ?_⟩) (by assumption) ?_
  rotate_left
  · intro w hSw
    try simp only [Cells, blk, List.cons_append, List.nil_append, and_true, Nat.reduceAdd, Nat.add_zero, Nat.zero_add] at hSw
    go_simp
    try with_reducible rfl
  simp only [Act.put, List.setIfInBounds_toArray, List.set_cons_zero, List.set_cons_succ]
  refine wpAnyH_take (i := 17) (oi := _) (v := ?_) (by rw [List.getElem?_toArray]; rfl) (by kernel_rfl) (by kernel_rfl) (by kernel_rfl) (by exact fun _ _ _ h => h) (Or.inl ⟨by rfl, ?_⟩) (by assumption) ?_
  rotate_left
  · intro w hSw
    try simp only [Cells, blk, List.cons_append, List.nil_append, and_true, Nat.reduceAdd, Nat.add_zero, Nat.zero_add] at hSw
    go_simp
    try with_reducible rfl
  simp only [Act.put, List.setIfInBounds_toArray, List.set_cons_zero, List.set_cons_succ]
  refine wpAnyH_take (i := 18) (oi := _) (v := ?_) (by rw [List.getElem?_toArray]; rfl) (by kernel_rfl) (by kernel_rfl) (by kernel_rfl) (by exact fun _ _ _ h => h) (Or.inl ⟨by rfl, ?_⟩) (by assumption) ?_
  rotate_left
  · intro w hSw
    try simp only [Cells, blk, List.cons_append, List.nil_append, and_true, Nat.reduceAdd, Nat.add_zero, Nat.zero_add] at hSw
    go_simp
    try with_reducible rfl
  simp only [Act.put, List.setIfInBounds_toArray, List.set_cons_zero, List.set_cons_succ]
  refine wpAnyH_take (i := 19) (oi := _) (v := ?_) (by rw [List.getElem?_toArray]; rfl) (by kernel_rfl) (by kernel_rfl) (by kernel_rfl) (by exact fun _ _ _ h => h) (Or.inl ⟨by rfl, ?_⟩) (by assumption) ?_
  rotate_left
  · intro w hSw
    try simp only [Cells, blk, List.cons_append, List.nil_append, and_true, Nat.reduceAdd, Nat.add_zero, Nat.zero_add] at hSw
    go_simp
    try with_reducible rfl
  simp only [Act.put, List.setIfInBounds_toArray, List.set_cons_zero, List.set_cons_succ]
  refine wpAnyH_take (i := 20) (oi := _) (v := ?_) (by rw [List.getElem?_toArray]; rfl) (by kernel_rfl) (by kernel_rfl) (by kernel_rfl) (by exact fun _ _ _ h => h) (Or.inl ⟨by rfl, ?_⟩) (by assumption) ?_
  rotate_left
  · intro w hSw
    try simp only [Cells, blk, List.cons_append, List.nil_append, and_true, Nat.reduceAdd, Nat.add_zero, Nat.zero_add] at hSw
    go_simp
    try with_reducible rfl
  simp only [Act.put, List.setIfInBounds_toArray, List.set_cons_zero, List.set_cons_succ]
  refine wpAnyH_take (i := 21) (oi := _) (v := ?_) (by rw [List.getElem?_toArray]; rfl) (by kernel_rfl) (by kernel_rfl) (by kernel_rfl) (by exact fun _ _ _ h => h) (Or.inl ⟨by rfl, ?_⟩) (by assumption) ?_
  rotate_left
  · intro w hSw
    try simp only [Cells, blk, List.cons_append, List.nil_append, and_true, Nat.reduceAdd, Nat.add_zero, Nat.zero_add] at hSw
    go_simp
    try with_reducible rfl
  simp only [Act.put, List.setIfInBounds_toArray, List.set_cons_zero, List.set_cons_succ]
  refine wpAnyH_take (i := 22) (oi := _) (v := ?_) (by rw [List.getElem?_toArray]; rfl) (by kernel_rfl) (by kernel_rfl) (by kernel_rfl) (by exact fun _ _ _ h => h) (Or.inl ⟨by rfl, ?_⟩) (by assumption) ?_
  rotate_left
  · intro w hSw
    try simp only [Cells, blk, List.cons_append, List.nil_append, and_true, Nat.reduceAdd, Nat.add_zero, Nat.zero_add] at hSw
    go_simp
    try with_reducible rfl
  simp only [Act.put, List.setIfInBounds_toArray, List.set_cons_zero, List.set_cons_succ]
  refine wpAnyH_ready (rs := [23]) (by kernel_rfl) (by simp) (AllReadyH.cons (o := _) (by rw [List.getElem?_toArray]; rfl) (fun K hK => ?_) AllReadyH.nil)
  go_simp
  refine (H1.out _).mono ?_
  rintro e w8 ⟨rfl, hB8⟩
  have HP1 := Lib.hid (HP1.out.below hB8)
  have HB3 := Lib.hid (HB3.out.trans (hB8.mono HB3.out.size))
  clear hB8
  clear hHeld
  refine hK.out _ _ (HP1.out.cells) (fun hHeld => ?_)
  clear hK K
  try simp only [Act.put, List.setIfInBounds_toArray, List.set_cons_zero, List.set_cons_succ]
  refine wpAnyH_take (i := 24) (oi := _) (v := ?_) (by rw [List.getElem?_toArray]; rfl) (by kernel_rfl) (by kernel_rfl) (by kernel_rfl) (by exact fun _ _ _ h => h) (Or.inl ⟨by rfl, ?_⟩) (by assumption) ?_
  rotate_left
  · intro w hSw
    try simp only [Cells, blk, List.cons_append, List.nil_append, and_true, Nat.reduceAdd, Nat.add_zero, Nat.zero_add] at hSw
    go_simp
    try with_reducible rfl
  simp only [Act.put, List.setIfInBounds_toArray, List.set_cons_zero, List.set_cons_succ]
  refine wpAnyH_take (i := 25) (oi := _) (v := ?_) (by rw [List.getElem?_toArray]; rfl) (by kernel_rfl) (by kernel_rfl) (by kernel_rfl) (by exact fun _ _ _ h => h) (Or.inl ⟨by rfl, ?_⟩) (by assumption) ?_
  rotate_left
  · intro w hSw
    try simp only [Cells, blk, List.cons_append, List.nil_append, and_true, Nat.reduceAdd, Nat.add_zero, Nat.zero_add] at hSw
    go_simp
    try with_reducible rfl
  simp only [Act.put, List.setIfInBounds_toArray, List.set_cons_zero, List.set_cons_succ]
  refine wpAnyH_take (i := 26) (oi := _) (v := ?_) (by rw [List.getElem?_toArray]; rfl) (by kernel_rfl) (by kernel_rfl) (by kernel_rfl) (by exact fun _ _ _ h => h) (Or.inl ⟨by rfl, ?_⟩) (by assumption) ?_
  rotate_left
  · intro w hSw
    try simp only [Cells, blk, List.cons_append, List.nil_append, and_true, Nat.reduceAdd, Nat.add_zero, Nat.zero_add] at hSw
    go_simp
    try with_reducible rfl
  simp only [Act.put, List.setIfInBounds_toArray, List.set_cons_zero, List.set_cons_succ]
  refine wpAnyH_take (i := 27) (oi := _) (v := ?_) (by rw [List.getElem?_toArray]; rfl) (by kernel_rfl) (by kernel_rfl) (by kernel_rfl) (by exact fun _ _ _ h => h) (Or.inl ⟨by rfl, ?_⟩) (by assumption) ?_
  rotate_left
  · intro w hSw
    try simp only [Cells, blk, List.cons_append, List.nil_append, and_true, Nat.reduceAdd, Nat.add_zero, Nat.zero_add] at hSw
    go_simp
    try with_reducible rfl
  simp only [Act.put, List.setIfInBounds_toArray, List.set_cons_zero, List.set_cons_succ]
  refine wpAnyH_take (i := 28) (oi := _) (v := ?_) (by rw [List.getElem?_toArray]; rfl) (by kernel_rfl) (by kernel_rfl) (by kernel_rfl) (by exact fun _ _ _ h => h) (Or.inl ⟨by rfl, ?_⟩) (by assumption) ?_
  rotate_left
  · intro w hSw
    try simp only [Cells, blk, List.cons_append, List.nil_append, and_true, Nat.reduceAdd, Nat.add_zero, Nat.zero_add] at hSw
    go_simp
    try with_reducible rfl
  simp only [Act.put, List.setIfInBounds_toArray, List.set_cons_zero, List.set_cons_succ]
  refine wpAnyH_take (i := 29) (oi := _) (v := ?_) (by rw [List.getElem?_toArray]; rfl) (by kernel_rfl) (by kernel_rfl) (by kernel_rfl) (by exact fun _ _ _ h => h) (Or.inl ⟨by rfl, ?_⟩) (by assumption) ?_
  rotate_left
  · intro w hSw
    try simp only [Cells, blk, List.cons_append, List.nil_append, and_true, Nat.reduceAdd, Nat.add_zero, Nat.zero_add] at hSw
    go_simp
    try with_reducible rfl
  simp only [Act.put, List.setIfInBounds_toArray, List.set_cons_zero, List.set_cons_succ]
  refine wpAnyH_take (i := 30) (oi := _) (v := ?_) (by rw [List.getElem?_toArray]; rfl) (by kernel_rfl) (by kernel_rfl) (by kernel_rfl) (by exact fun _ _ _ h => h) (Or.inl ⟨by rfl, ?_⟩) (by assumption) ?_
  rotate_left
  · intro w hSw
    try simp only [Cells, blk, List.cons_append, List.nil_append, and_true, Nat.reduceAdd, Nat.add_zero, Nat.zero_add] at hSw
    go_simp
    try with_reducible rfl
  simp only [Act.put, List.setIfInBounds_toArray, List.set_cons_zero, List.set_cons_succ]
  refine wpAnyH_take (i := 31) (oi := _) (v := ?_) (by rw [List.getElem?_toArray]; rfl) (by kernel_rfl) (by kernel_rfl) (by kernel_rfl) (by exact fun _ _ _ h => h) (Or.inl ⟨by rfl, ?_⟩) (by assumption) ?_
  rotate_left
  · intro w hSw
    try simp only [Cells, blk, List.cons_append, List.nil_append, and_true, Nat.reduceAdd, Nat.add_zero, Nat.zero_add] at hSw
    go_simp
    try with_reducible rfl
  simp only [Act.put, List.setIfInBounds_toArray, List.set_cons_zero, List.set_cons_succ]
  refine wpAnyH_take (i := 32) (oi := _) (v := ?_) (by rw [List.getElem?_toArray]; rfl) (by kernel_rfl) (by kernel_rfl) (by kernel_rfl) (by exact fun _ _ _ h => h) (Or.inl ⟨by rfl, ?_⟩) (by assumption) ?_
  rotate_left
  · intro w hSw
    try simp only [Cells, blk, List.cons_append, List.nil_append, and_true, Nat.reduceAdd, Nat.add_zero, Nat.zero_add] at hSw
    go_simp
    try with_reducible rfl
  simp only [Act.put, List.setIfInBounds_toArray, List.set_cons_zero, List.set_cons_succ]
  refine wpAnyH_take (i := 33) (oi := _) (v := ?_) (by rw [List.getElem?_toArray]; rfl) (by kernel_rfl) (by kernel_rfl) (by kernel_rfl) (by exact fun _ _ _ h => h) (Or.inl ⟨by rfl, ?_⟩) (by assumption) ?_
  rotate_left
  · intro w hSw
    try simp only [Cells, blk, List.cons_append, List.nil_append, and_true, Nat.reduceAdd, Nat.add_zero, Nat.zero_add] at hSw
    go_simp
    try with_reducible rfl
  simp only [Act.put, List.setIfInBounds_toArray, List.set_cons_zero, List.set_cons_succ]
  refine wpAnyH_take (i := 34) (oi := _) (v := ?_) (by rw [List.getElem?_toArray]; rfl) (by kernel_rfl) (by kernel_rfl) (by kernel_rfl) (by exact fun _ _ _ h => h) (Or.inl ⟨by rfl, ?_⟩) (by assumption) ?_
  rotate_left
  · intro w hSw
    try simp only [Cells, blk, List.cons_append, List.nil_append, and_true, Nat.reduceAdd, Nat.add_zero, Nat.zero_add] at hSw
    go_simp
    try with_reducible rfl
  simp only [Act.put, List.setIfInBounds_toArray, List.set_cons_zero, List.set_cons_succ]
  refine wpAnyH_take (i := 35) (oi := _) (v := ?_) (by rw [List.getElem?_toArray]; rfl) (by kernel_rfl) (by kernel_rfl) (by kernel_rfl) (by exact fun _ _ _ h => h) (Or.inl ⟨by rfl, ?_⟩) (by assumption) ?_
  rotate_left
  · intro w hSw
    try simp only [Cells, blk, List.cons_append, List.nil_append, and_true, Nat.reduceAdd, Nat.add_zero, Nat.zero_add] at hSw
    go_simp
    try with_reducible rfl
  simp only [Act.put, List.setIfInBounds_toArray, List.set_cons_zero, List.set_cons_succ]
  refine wpAnyH_take (i := 36) (oi := _) (v := ?_) (by rw [List.getElem?_toArray]; rfl) (by kernel_rfl) (by kernel_rfl) (by kernel_rfl) (by exact fun _ _ _ h => h) (Or.inl ⟨by rfl, ?_⟩) (by assumption) ?_
  rotate_left
  · intro w hSw
    try simp only [Cells, blk, List.cons_append, List.nil_append, and_true, Nat.reduceAdd, Nat.add_zero, Nat.zero_add] at hSw
    go_simp
    try with_reducible rfl
  simp only [Act.put, List.setIfInBounds_toArray, List.set_cons_zero, List.set_cons_succ]
  refine wpAnyH_take (i := 37) (oi := _) (v := ?_) (by rw [List.getElem?_toArray]; rfl) (by kernel_rfl) (by kernel_rfl) (by kernel_rfl) (by exact fun _ _ _ h => h) (Or.inl ⟨by rfl, ?_⟩) (by assumption) ?_
  rotate_left
  · intro w hSw
    try simp only [Cells, blk, List.cons_append, List.nil_append, and_true, Nat.reduceAdd, Nat.add_zero, Nat.zero_add] at hSw
    go_simp
    try with_reducible rfl
  simp only [Act.put, List.setIfInBounds_toArray, List.set_cons_zero, List.set_cons_succ]
  refine wpAnyH_take (i := 38) (oi := _) (v := ?_) (by rw [List.getElem?_toArray]; rfl) (by kernel_rfl) (by kernel_rfl) (by kernel_rfl) (by exact fun _ _ _ h => h) (Or.inl ⟨by rfl, ?_⟩) (by assumption) ?_
  rotate_left
  · intro w hSw
    try simp only [Cells, blk, List.cons_append, List.nil_append, and_true, Nat.reduceAdd, Nat.add_zero, Nat.zero_add] at hSw
    go_simp
    try with_reducible rfl
  simp only [Act.put, List.setIfInBounds_toArray, List.set_cons_zero, List.set_cons_succ]
  refine wpAnyH_take (i := 39) (oi := _) (v := ?_) (by rw [List.getElem?_toArray]; rfl) (by kernel_rfl) (by kernel_rfl) (by kernel_rfl) (by exact fun _ _ _ h => h) (Or.inl ⟨by rfl, ?_⟩) (by assumption) ?_
  rotate_left
  · intro w hSw
    try simp only [Cells, blk, List.cons_append, List.nil_append, and_true, Nat.reduceAdd, Nat.add_zero, Nat.zero_add] at hSw
    go_simp
    try with_reducible rfl
  simp only [Act.put, List.setIfInBounds_toArray, List.set_cons_zero, List.set_cons_succ]
  refine wpAnyH_done (by kernel_rfl) ?_ _
  clear hHeld
  go_wp2
  go_ret
  exact ⟨by simp, HB3.out⟩
end Go.Proofs.Ythnffdlnhfhabaa
