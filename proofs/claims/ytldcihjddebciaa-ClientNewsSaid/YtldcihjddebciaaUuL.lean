/- uuid: the code's Decode at any bytes. -/
import Derived.Test.YtldcihjddebciaaUuK
import Derived.RegionTactic
import Derived.BigRegion
namespace Go.Proofs.Ytldcihjddebciaa
open Go.RowKit

set_option linter.unusedSimpArgs false in
set_option linter.unusedVariables false in
set_option maxRecDepth 100000 in
set_option maxHeartbeats 4000000 in
theorem decode_16 (v : Value) (bs : List Nat) (w : World) (h : BytesAt w v bs) (hn : bs.length = 16) :
    Calls Try.prog 93 #[v] w fun e w' => e = .returned (.tuple #[.agg #[.int .u64 (decR bs).1, .int .u64 (decR bs).2.1], .int .i64 (decR bs).2.2]) ∧ Below w.heap.size w w' := by
  obtain ⟨⟨_, _, _, ao, cap, rfl, _, hc⟩, _, hlt⟩ := h
  obtain ⟨b, off, rfl, hb, hcell⟩ := hc (by omega)
  have HC := Lib.hid hcell
  have HLT := Lib.hid hlt
  have HN := Lib.hid hn
  have hd : decR bs = if isShort (vnum (bs.drop 8)) (vnum (bs.take 8)) then (0, 0, 2) else (vnum (bs.drop 8), vnum (bs.take 8), 0) := by
    unfold decR
    rw [hn, if_neg (by decide), if_neg (by decide), if_neg (by decide)]
  obtain ⟨⟨D1, D2, D3⟩, hD⟩ : ∃ D, decR bs = D := ⟨_, rfl⟩
  rw [hD] at hd ⊢
  rw [hn]
  have HD := Lib.hid hd
  clear hc hcell hlt hn hd hD
  have hB0 := ((Below.refl w.heap.size w).alloc (Nat.le_refl _) (.cells #[.int .u64 0, .int .u64 0] 29)).alloc (by simp) (.cells #[.int .u64 0, .int .u64 0] 29)
  have bR := (Blk.new w 29 [.int .u64 0, .int .u64 0]).alloc (.cells #[.int .u64 0, .int .u64 0] 29)
  have bU := Blk.new (w.alloc (.cells #[.int .u64 0, .int .u64 0] 29)) 29 [.int .u64 0, .int .u64 0]
  simp only [World.size_alloc] at bU
  have HB0 := Lib.hid hB0
  have HR := Lib.hid bR
  have HU := Lib.hid bU
  clear hB0 bR bU
  go_enter Try.func93, Try.ntmps93
  go_wp2
  go_loopw [5, 33] (fun _ i wr => ∃ k : Nat, i = .int .i64 k ∧ k ≤ 8 ∧ Blk wr w.heap.size 29 [.int .u64 0, .int .u64 0] ∧ Blk wr (w.heap.size + 1) 29 [.int .u64 (vnum ((bs.drop 8).take k) : Nat), .int .u64 (vnum (bs.take k) : Nat)] ∧ Below w.heap.size w wr) (fun _ i _ => 8 - (intOf i).toNat)
  case atStart => exact ⟨0, by simp, by omega, HR.out, HU.out, HB0.out⟩
  case round =>
    obtain ⟨k, rfl, hk, br, bu, hB⟩ := hrel
    by_cases hlt : k < 8
    · have g1 : decide (k < 8) = true := by simpa using hlt
      have g1' : decide ((k : Int) < 8) = true := by simp; omega
      have hk1 : k < bs.length := by rw [HN.out]; omega
      have hk2 : 8 + k < bs.length := by rw [HN.out]; omega
      have t1 := take_succ_getD bs k hk1
      have t2 := take_succ_getD (bs.drop 8) k (by rw [List.length_drop, HN.out]; omega)
      rw [show (bs.drop 8).getD k 0 = bs.getD (8 + k) 0 by simp [List.getD_eq_getElem?_getD]] at t2
      have x1 := HC.out k (.int .u8 (bs[k] : Nat)) (by simp [bcells, List.getElem?_eq_getElem hk1])
      have x2 := HC.out (8 + k) (.int .u8 (bs[8 + k] : Nat)) (by simp [bcells, List.getElem?_eq_getElem hk2])
      have l1 := HLT.out _ (List.getElem_mem hk1)
      have l2 := HLT.out _ (List.getElem_mem hk2)
      rw [show bs.getD k 0 = bs[k] by rw [List.getD_eq_getElem?_getD, List.getElem?_eq_getElem hk1]; rfl] at t1
      rw [show bs.getD (8 + k) 0 = bs[8 + k] by rw [List.getD_eq_getElem?_getD, List.getElem?_eq_getElem hk2]; rfl] at t2
      obtain ⟨x, hx⟩ : ∃ x, bs[k] = x := ⟨_, rfl⟩
      obtain ⟨y, hy⟩ : ∃ x, bs[8 + k] = x := ⟨_, rfl⟩
      rw [hx] at t1 x1 l1
      rw [hy] at t2 x2 l2
      have o1 := or_step (bs.take k) x (fun z hz => HLT.out z (List.mem_of_mem_take hz)) (by simp; omega) l1
      have o2 := or_step ((bs.drop 8).take k) y (fun z hz => HLT.out z (List.mem_of_mem_drop (List.mem_of_mem_take hz))) (by simp; omega) l2
      rw [show (bs.take k).length = k by simp; omega] at o1
      rw [show ((bs.drop 8).take k).length = k by simp; omega] at o2
      rw [← t1] at o1
      rw [← t2] at o2
      have p1 := shl_wrap x k l1 hlt
      have p2 := shl_wrap y k l2 hlt
      obtain ⟨LO, hLO⟩ : ∃ z, vnum (bs.take k) = z := ⟨_, rfl⟩
      obtain ⟨HI, hHI⟩ : ∃ z, vnum ((bs.drop 8).take k) = z := ⟨_, rfl⟩
      obtain ⟨LO2, hLO2⟩ : ∃ z, vnum (bs.take (k + 1)) = z := ⟨_, rfl⟩
      obtain ⟨HI2, hHI2⟩ : ∃ z, vnum ((bs.drop 8).take (k + 1)) = z := ⟨_, rfl⟩
      rw [hLO, hLO2] at o1
      rw [hHI, hHI2] at o2
      rw [hLO, hHI] at bu
      rw [← p1, show (8 * (k : Int)).toNat = 8 * k by omega] at o1
      rw [← p2, show (8 * (k : Int)).toNat = 8 * k by omega] at o2
      have HLO2 := Lib.hid hLO2
      have HHI2 := Lib.hid hHI2
      have d1 := kc x1 hB
      have d2 := kc x2 hB
      have O1 := Lib.hid o1
      have O2 := Lib.hid o2
      clear t1 t2 p1 p2 hLO hHI hLO2 hHI2 hx hy x1 x2 hk1 hk2 o1 o2
      have i1 : (k : Int) < 16 := by omega
      have i2 : (8 : Int) + k < 16 := by omega
      have i3 : (0 : Int) ≤ 8 + k := by omega
      have i4 : (0 : Int) ≤ 8 * (k : Int) := by omega
      have e2 : ((8 : Int) + (k : Int)).toNat = 8 + k := by omega
      have w1 : IntKind.i64.wrap ((k : Int) + 1) = (k : Int) + 1 := IntWalk.i64_in _ (by omega)
      have w2 : IntKind.i64.wrap (8 * (k : Int)) = 8 * (k : Int) := IntWalk.i64_in _ (by omega)
      have w3 : IntKind.i64.wrap (8 + (k : Int)) = 8 + (k : Int) := IntWalk.i64_in _ (by omega)
      have b1 : (x : Int) < 256 := by omega
      have b2 : (y : Int) < 256 := by omega
      obtain ⟨u0, u1, _⟩ := bu.cells
      simp only [Nat.zero_add, Nat.add_zero] at u0 u1
      have f0 := bu.frozen 0
      have f1 := bu.frozen 1
      go_upto_region 11 with fail
      go_region
      rw [O1.out]
      generalize hX1 : World.drew _ = X1
      have bu1 : Blk X1 (w.heap.size + 1) 29 [.int .u64 HI, .int .u64 LO2] := by rw [← hX1]; exact bu.setAt (j := 1) _
      have br1 : Blk X1 w.heap.size 29 [.int .u64 0, .int .u64 0] := by rw [← hX1]; exact br.other (by omega) _
      have hB1 : Below w.heap.size w X1 := by rw [← hX1]; exact (hB.setCell (p := ⟨w.heap.size + 1, 1, none⟩) (by simp) _).drew
      have D2 := Lib.hid ((hB1.cell (p := ⟨b, off + (8 + k), none⟩) hb).trans ((hB.cell (p := ⟨b, off + (8 + k), none⟩) hb).symm.trans d2))
      clear hX1 u0 u1 f0 f1 d1 d2 bu br hB
      have d2 := D2.out
      obtain ⟨u0, u1, _⟩ := bu1.cells
      simp only [Nat.zero_add, Nat.add_zero] at u0 u1
      have f0 := bu1.frozen 0
      have f1 := bu1.frozen 1
      go_upto_region 12 with fail
      go_region
      rw [O2.out]
      generalize hX2 : World.drew _ = X2
      have bu2 : Blk X2 (w.heap.size + 1) 29 [.int .u64 HI2, .int .u64 LO2] := by rw [← hX2]; exact bu1.setAt (j := 0) _
      have br2 : Blk X2 w.heap.size 29 [.int .u64 0, .int .u64 0] := by rw [← hX2]; exact br1.other (by omega) _
      have hB2 : Below w.heap.size w X2 := by rw [← hX2]; exact (hB1.setCell (p := ⟨w.heap.size + 1, 0, none⟩) (by simp) _).drew
      have HREL : Hid (∃ k2 : Nat, Value.int .i64 ((k : Int) + 1) = .int .i64 k2 ∧ k2 ≤ 8 ∧ Blk X2 w.heap.size 29 [.int .u64 0, .int .u64 0] ∧ Blk X2 (w.heap.size + 1) 29 [.int .u64 (vnum ((bs.drop 8).take k2) : Nat), .int .u64 (vnum (bs.take k2) : Nat)] ∧ Below w.heap.size w X2) :=
        Lib.hid ⟨k + 1, by simp, by omega, br2, by rw [HLO2.out, HHI2.out]; exact bu2, hB2⟩
      clear hX2 u0 u1 f0 f1 d2 bu1 br1 hB1 bu2 br2 hB2 D2
      go_wp2
      refine ⟨HREL.out, ?_⟩
      simp [intOf]
      omega
    · obtain rfl : k = 8 := by omega
      have g1 : decide (8 < 8) = false := by decide
      have g1' : decide (((8 : Nat) : Int) < 8) = false := by decide
      have z := fun W => run_build0 W
      rw [show (bs.drop 8).take 8 = bs.drop 8 by rw [List.take_of_length_le (by rw [List.length_drop, HN.out]; omega)]] at bu
      have v1 : vnum (bs.take 8) < 18446744073709551616 := by
        have := vnum_lt (bs.take 8) fun x hx => HLT.out x (List.mem_of_mem_take hx)
        rw [List.length_take, HN.out] at this
        exact this
      have v2 : vnum (bs.drop 8) < 18446744073709551616 := by
        have := vnum_lt (bs.drop 8) fun x hx => HLT.out x (List.mem_of_mem_drop hx)
        rw [List.length_drop, HN.out] at this
        exact this
      have hnum := fun W => number_any (vnum (bs.drop 8)) (vnum (bs.take 8)) v2 v1 W
      obtain ⟨lo, hlo⟩ : ∃ V, vnum (bs.take 8) = V := ⟨_, rfl⟩
      obtain ⟨hi, hhi⟩ : ∃ V, vnum (bs.drop 8) = V := ⟨_, rfl⟩
      rw [hlo, hhi] at bu hnum
      obtain ⟨bb, hbb⟩ : ∃ b, isShort hi lo = b := ⟨_, rfl⟩
      obtain ⟨q, hq⟩ : ∃ q, numI hi lo = q := ⟨_, rfl⟩
      simp only [hbb, hq] at hnum
      have HNUM := Lib.hid hnum
      have HLO := Lib.hid hlo
      have HHI := Lib.hid hhi
      have HBB := Lib.hid hbb
      obtain ⟨u0, u1, _⟩ := bu.cells
      simp only [Nat.zero_add, Nat.add_zero] at u0 u1
      clear hnum hlo hhi hbb hq v1 v2
      go_wp2_with fail
      go_at_call 98
      refine (HNUM.out _).mono ?_
      rintro e w3 ⟨rfl, hB3⟩
      have bu3 := bu.below hB3
      have br3 := br.below hB3
      have hB4 := hB.trans (hB3.mono hB.size)
      have T3 := bu3.cells
      have TR := br3.cells
      clear u0 u1
      have hOpen := T3
      simp only [Cells, blk, List.cons_append, List.nil_append, and_true, Nat.reduceAdd, Nat.add_zero, Nat.zero_add] at hOpen
      obtain ⟨c0, c1⟩ := hOpen
      have hOpen := TR
      simp only [Cells, blk, List.cons_append, List.nil_append, and_true, Nat.reduceAdd, Nat.add_zero, Nat.zero_add] at hOpen
      obtain ⟨r0, r1⟩ := hOpen
      have f0 := br3.frozen 0
      have f1 := br3.frozen 1
      have HB3 := Lib.hid br3
      clear T3 TR bu bu3 br br3 hB3 hB
      cases bb
      · go_wp2
        have b3 := (HB3.out.setAt (j := 0) (.int .u64 (hi : Int))).setAt (j := 1) (.int .u64 (lo : Int))
        obtain ⟨x0, x1, _⟩ := b3.cells
        simp only [Nat.zero_add, Nat.add_zero, List.set_cons_zero, List.set_cons_succ] at x0 x1
        refine bodyPost_ret (v := .tuple #[.agg #[.int .u64 hi, .int .u64 lo], .int .i64 0]) (by simp [results, Try.results93, go_sem, x0, x1]) rfl ?_
        have hd := HD.out
        rw [HLO.out, HHI.out, HBB.out] at hd
        simp only [Bool.false_eq_true, if_false, if_true, Prod.mk.injEq] at hd
        obtain ⟨rfl, rfl, rfl⟩ := hd
        refine ⟨rfl, (hB4.setCell (p := ⟨w.heap.size, 0, none⟩) (by simp) _).setCell (p := ⟨w.heap.size, 1, none⟩) (by simp) _⟩
      · go_wp2
        have b3 := (HB3.out.setAt (j := 0) (.int .u64 0)).setAt (j := 1) (.int .u64 0)
        obtain ⟨x0, x1, _⟩ := b3.cells
        simp only [Nat.zero_add, Nat.add_zero, List.set_cons_zero, List.set_cons_succ] at x0 x1
        refine bodyPost_ret (v := .tuple #[.agg #[.int .u64 0, .int .u64 0], .int .i64 2]) (by simp [results, Try.results93, go_sem, x0, x1]) rfl ?_
        have hd := HD.out
        rw [HLO.out, HHI.out, HBB.out] at hd
        simp only [Bool.false_eq_true, if_false, if_true, Prod.mk.injEq] at hd
        obtain ⟨rfl, rfl, rfl⟩ := hd
        refine ⟨rfl, (hB4.setCell (p := ⟨w.heap.size, 0, none⟩) (by simp) _).setCell (p := ⟨w.heap.size, 1, none⟩) (by simp) _⟩
set_option linter.unusedSimpArgs false in
set_option linter.unusedVariables false in
set_option maxRecDepth 100000 in
set_option maxHeartbeats 4000000 in
theorem decode_any (v : Value) (bs : List Nat) (w : World) (h : BytesAt w v bs) (hm : bs.length ≤ 1099511627776) :
    Calls Try.prog 93 #[v] w fun e w' => e = .returned (.tuple #[.agg #[.int .u64 (decR bs).1, .int .u64 (decR bs).2.1], .int .i64 (decR bs).2.2]) ∧ Below w.heap.size w w' := by
  have HBY := Lib.hid h
  obtain ⟨⟨_, _, _, ao, cap, rfl, _, _⟩, _, hlt⟩ := h
  have HLT := Lib.hid hlt
  obtain ⟨n, hn⟩ : ∃ n, bs.length = n := ⟨_, rfl⟩
  have HN := Lib.hid hn
  unfold decR
  rw [hn] at hm ⊢
  have hz := fun W => run_build0 W
  have hB0 := (Below.refl w.heap.size w).alloc (Nat.le_refl _) (.cells #[.int .u64 0, .int .u64 0] 29)
  have HBY1 : Hid (BytesAt w (.slice ao n cap) bs) := by rw [← HN.out]; exact HBY
  clear hlt hn HBY
  by_cases h2 : n = 2
  · subst h2
    rw [if_pos rfl]
    obtain ⟨x0, x1, rfl⟩ := list2 bs HN.out
    have := decode_two x0 x1 _ w HBY1.out
    unfold decR at this
    rw [if_pos (show [x0, x1].length = 2 from rfl)] at this
    exact this
  rw [if_neg h2]
  have g2 : ((n : Int) == 2) = false := by simp; omega
  by_cases h3 : n < 16
  · rw [if_pos h3]
    have g3 : decide (n < 16) = true := by simpa using h3
    have g3' : decide ((n : Int) < 16) = true := by simp; omega
    go_enter Try.func93, Try.ntmps93
    go_wp2
    refine bodyPost_ret (v := .tuple #[.agg #[.int .u64 0, .int .u64 0], .int .i64 3]) (by simp [results, Try.results93, go_sem] <;> rfl) rfl ?_
    exact ⟨rfl, hB0⟩
  rw [if_neg h3]
  have g3 : decide (n < 16) = false := by simpa using h3
  have g3' : decide ((n : Int) < 16) = false := by simp; omega
  by_cases h4 : 16 < n
  · rw [if_pos h4]
    have g4 : decide (16 < n) = true := by simpa using h4
    have g4' : decide ((16 : Int) < (n : Int)) = true := by simp; omega
    go_enter Try.func93, Try.ntmps93
    go_wp2
    refine bodyPost_ret (v := .tuple #[.agg #[.int .u64 0, .int .u64 0], .int .i64 2]) (by simp [results, Try.results93, go_sem] <;> rfl) rfl ?_
    exact ⟨rfl, hB0⟩
  rw [if_neg h4]
  obtain rfl : n = 16 := by omega
  have := decode_16 _ bs w HBY1.out HN.out
  unfold decR at this
  rw [HN.out, if_neg (by decide), if_neg (by decide), if_neg (by decide)] at this
  exact this
end Go.Proofs.Ytldcihjddebciaa
