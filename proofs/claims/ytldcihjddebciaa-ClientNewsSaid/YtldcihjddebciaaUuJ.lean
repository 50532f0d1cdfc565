/- uuid: Decode. -/
import Derived.Test.YtldcihjddebciaaUuD
import Derived.Test.YtldcihjddebciaaUuF
namespace Go.Proofs.Ytldcihjddebciaa
open Go.RowKit

theorem vnum_snoc (l : List Nat) (x : Nat) : vnum (l ++ [x]) = vnum l + x * 256 ^ l.length := by
  induction l with
  | nil => simp [vnum]
  | cons b l ih =>
    simp only [List.cons_append, vnum, ih, List.length_cons, Nat.pow_succ]
    rw [Nat.add_mul, Nat.mul_assoc, Nat.mul_comm (256 ^ l.length) 256]
    omega
theorem vnum_or (l : List Nat) (x : Nat) (hl : ∀ y ∈ l, y < 256) : vnum l ||| x * 256 ^ l.length = vnum l + x * 256 ^ l.length := by
  have e : (256 : Nat) ^ l.length = 2 ^ (8 * l.length) := by rw [Nat.pow_mul]
  have h := vnum_lt l hl
  rw [e] at h ⊢
  rw [Nat.or_comm, ← Nat.shiftLeft_eq, ← Nat.shiftLeft_add_eq_or_of_lt h]
  omega
/-- the UUID of bytes, or an error -/
def decR (bs : List Nat) : Nat × Nat × Int :=
  if bs.length = 2 then (vnum bs * 4294967296 + 4096, 9223372588214596859, 0) else if bs.length < 16 then (0, 0, 3) else if 16 < bs.length then (0, 0, 2) else
    if isShort (vnum (bs.drop 8)) (vnum (bs.take 8)) then (0, 0, 2) else (vnum (bs.drop 8), vnum (bs.take 8), 0)
theorem run_build0 (w : World) : (Instr.build 29 #[]).run Try.prog w = .ok (.agg #[.int .u64 0, .int .u64 0]) w := by kernel_rfl
theorem num_short (hi lo n : Nat) (h1 : hi = n * 4294967296 + 4096) (h2 : lo = 9223372588214596859) (hn : n < 65536) : isShort hi lo = true := by
  subst h1 h2
  unfold isShort
  simp
  omega
set_option linter.unusedSimpArgs false in
set_option linter.unusedVariables false in
set_option maxRecDepth 100000 in
set_option maxHeartbeats 4000000 in
theorem rdecode_any (v : Value) (bs : List Nat) (w : World) (h : BytesAt w v bs) (hm : bs.length ≤ 1099511627776) :
    Calls Try.prog 99 #[v] w fun e w' => e = .returned (.tuple #[.agg #[.int .u64 (decR bs).1, .int .u64 (decR bs).2.1], .int .i64 (decR bs).2.2]) ∧ Below w.heap.size w w' := by
  have HBY := Lib.hid h
  obtain ⟨⟨_, _, _, ao, cap, rfl, _, _⟩, _, hlt⟩ := h
  have HLT := Lib.hid hlt
  obtain ⟨n, hn⟩ : ∃ n, bs.length = n := ⟨_, rfl⟩
  have HN := Lib.hid hn
  unfold decR
  rw [hn] at hm ⊢
  have hz := fun W => run_build0 W
  have hB0 := (Below.refl w.heap.size w).alloc (Nat.le_refl _) (.cells #[.int .u64 0, .int .u64 0] 29)
  have HBY1 : Hid (BytesAt w (.slice ao n cap) bs) := by rw [← HN.out]; exact HBY
  clear hlt hn HBY
  by_cases h2 : n = 2
  · subst h2
    simp only [if_true]
    have hv : vnum bs < 65536 := by have := vnum_lt bs HLT.out; rw [HN.out] at this; exact this
    have hnum := num_any _ bs 0 2 w HBY1.out (by rw [HN.out]; omega) (by omega) (by rw [HN.out]; omega)
    rw [show (bs.drop 0).take 2 = bs by rw [List.drop_zero, List.take_of_length_le (by rw [HN.out]; omega)]] at hnum
    have hnum' := num_any _ bs 0 2 _ (HBY1.out.below hB0) (by rw [HN.out]; omega) (by omega) (by rw [HN.out]; omega)
    rw [show (bs.drop 0).take 2 = bs by rw [List.drop_zero, List.take_of_length_le (by rw [HN.out]; omega)]] at hnum'
    obtain ⟨V, hV⟩ : ∃ V, vnum bs = V := ⟨_, rfl⟩
    rw [hV] at hv hnum' ⊢
    have HNUM := Lib.hid hnum'
    have w16 : IntKind.u16.wrap (V : Int) = (V : Int) := IntWalk.u16_in _ (by omega)
    have bR := Blk.new w 29 [.int .u64 0, .int .u64 0]
    have HR := Lib.hid bR
    have hsh := fun W => rshort_any V hv W
    obtain ⟨M, hM⟩ : ∃ M : Int, (V : Int) * 4294967296 + 4096 = M := ⟨_, rfl⟩
    obtain ⟨L, hL⟩ : ∃ M : Int, (9223372588214596859 : Int) = M := ⟨_, rfl⟩
    rw [show (((V * 4294967296 + 4096 : Nat)) : Int) = M by rw [← hM]; simp, show ((9223372588214596859 : Nat) : Int) = L by rw [← hL]; rfl]
    simp only [hM, hL] at hsh
    have HSH := Lib.hid hsh
    clear hnum hnum' hV bR hsh hM hL
    go_enter Try.func99, Try.ntmps99
    go_wp2_with fail
    go_at_call 102
    refine HNUM.out.mono ?_
    rintro e w1 ⟨rfl, rfl⟩
    go_wp2_with fail
    go_at_call 78
    refine (HSH.out _).mono ?_
    rintro e w2 ⟨rfl, hB2⟩
    have b2 := HR.out.below hB2
    have T2 := b2.cells
    have hOpen := T2
    simp only [Cells, blk, List.cons_append, List.nil_append, and_true, Nat.reduceAdd, Nat.add_zero, Nat.zero_add] at hOpen
    obtain ⟨c0, c1⟩ := hOpen
    have f0 := b2.frozen 0
    have f1 := b2.frozen 1
    have hB3 := hB0.trans (hB2.mono hB0.size)
    have HB2 := Lib.hid b2
    clear T2 b2 hB2
    go_wp2
    have b3 := (HB2.out.setAt (j := 0) (.int .u64 M)).setAt (j := 1) (.int .u64 L)
    obtain ⟨x0, x1, _⟩ := b3.cells
    simp only [Nat.zero_add, Nat.add_zero, List.set_cons_zero, List.set_cons_succ] at x0 x1
    refine bodyPost_ret (v := .tuple #[.agg #[.int .u64 M, .int .u64 L], .int .i64 0]) (by simp [results, Try.results99, go_sem, x0, x1]) rfl ?_
    exact ⟨rfl, (hB3.setCell (p := ⟨w.heap.size, 0, none⟩) (by simp) _).setCell (p := ⟨w.heap.size, 1, none⟩) (by simp) _⟩
  rw [if_neg h2]
  have g2 : ((n : Int) == 2) = false := by simp; omega
  by_cases h3 : n < 16
  · rw [if_pos h3]
    have g3 : decide (n < 16) = true := by simpa using h3
    have g3' : decide ((n : Int) < 16) = true := by simp; omega
    go_enter Try.func99, Try.ntmps99
    go_wp2
    refine bodyPost_ret (v := .tuple #[.agg #[.int .u64 0, .int .u64 0], .int .i64 3]) (by simp [results, Try.results99, go_sem] <;> rfl) rfl ?_
    exact ⟨rfl, hB0⟩
  rw [if_neg h3]
  have g3 : decide (n < 16) = false := by simpa using h3
  have g3' : decide ((n : Int) < 16) = false := by simp; omega
  by_cases h4 : 16 < n
  · rw [if_pos h4]
    have g4 : decide (16 < n) = true := by simpa using h4
    have g4' : decide ((16 : Int) < (n : Int)) = true := by simp; omega
    go_enter Try.func99, Try.ntmps99
    go_wp2
    refine bodyPost_ret (v := .tuple #[.agg #[.int .u64 0, .int .u64 0], .int .i64 2]) (by simp [results, Try.results99, go_sem] <;> rfl) rfl ?_
    exact ⟨rfl, hB0⟩
  rw [if_neg h4]
  obtain rfl : n = 16 := by omega
  have g4 : decide (16 < 16) = false := by decide
  have hn1 := num_any _ bs 0 8 _ (HBY1.out.below hB0) (by rw [HN.out]; omega) (by omega) (by rw [HN.out]; omega)
  have hn2 := num_any _ bs 8 8 _ (HBY1.out.below hB0) (by rw [HN.out]; omega) (by omega) (by rw [HN.out]; omega)
  rw [List.drop_zero] at hn1
  rw [show (bs.drop 8).take 8 = bs.drop 8 by rw [List.take_of_length_le (by rw [List.length_drop, HN.out]; omega)]] at hn2
  have v1 : vnum (bs.take 8) < 18446744073709551616 := by
    have := vnum_lt (bs.take 8) fun x hx => HLT.out x (List.mem_of_mem_take hx)
    rw [List.length_take, HN.out] at this
    exact this
  have v2 : vnum (bs.drop 8) < 18446744073709551616 := by
    have := vnum_lt (bs.drop 8) fun x hx => HLT.out x (List.mem_of_mem_drop hx)
    rw [List.length_drop, HN.out] at this
    exact this
  obtain ⟨lo, hlo⟩ : ∃ V, vnum (bs.take 8) = V := ⟨_, rfl⟩
  obtain ⟨hi, hhi⟩ : ∃ V, vnum (bs.drop 8) = V := ⟨_, rfl⟩
  rw [hlo] at hn1 v1 ⊢
  rw [hhi] at hn2 v2 ⊢
  have hnum := fun W => rnumber_any hi lo v2 v1 W
  obtain ⟨b, hb⟩ : ∃ b, isShort hi lo = b := ⟨_, rfl⟩
  obtain ⟨q, hq⟩ : ∃ q, numI hi lo = q := ⟨_, rfl⟩
  rw [hb, hq] at hnum
  rw [hb]
  have bR := Blk.new w 29 [.int .u64 0, .int .u64 0]
  have HR := Lib.hid bR
  have HN1 := Lib.hid hn1
  have HN2 := Lib.hid hn2
  have HNUM := Lib.hid hnum
  clear hn1 hn2 hnum hlo hhi hb hq bR v1 v2
  go_enter Try.func99, Try.ntmps99
  go_wp2_with fail
  go_at_call 102
  refine HN1.out.mono ?_
  rintro e w1 ⟨rfl, rfl⟩
  go_wp2_with fail
  go_at_call 102
  refine HN2.out.mono ?_
  rintro e w1 ⟨rfl, rfl⟩
  go_wp2_with fail
  go_at_call 97
  refine (HNUM.out _).mono ?_
  rintro e w3 ⟨rfl, hB3⟩
  have hB1 := hB0.alloc hB0.size (.cells #[.int .u64 hi, .int .u64 lo] 29)
  have bU := Blk.new (w.alloc (.cells #[.int .u64 0, .int .u64 0] 29)) 29 [.int .u64 hi, .int .u64 lo]
  simp only [World.size_alloc] at bU
  have bU3 := bU.below hB3
  have bR3 := (HR.out.alloc (.cells #[.int .u64 hi, .int .u64 lo] 29)).below hB3
  have T3 := bU3.cells
  have TR := bR3.cells
  have hOpen := T3
  simp only [Cells, blk, List.cons_append, List.nil_append, and_true, Nat.reduceAdd, Nat.add_zero, Nat.zero_add] at hOpen
  obtain ⟨c0, c1⟩ := hOpen
  have hOpen := TR
  simp only [Cells, blk, List.cons_append, List.nil_append, and_true, Nat.reduceAdd, Nat.add_zero, Nat.zero_add] at hOpen
  obtain ⟨r0, r1⟩ := hOpen
  have f0 := bR3.frozen 0
  have f1 := bR3.frozen 1
  have hB4 := hB1.trans (hB3.mono hB1.size)
  have HB3 := Lib.hid bR3
  clear T3 TR bU bU3 bR3 hB3 hB1
  cases b
  · go_wp2
    have b3 := (HB3.out.setAt (j := 0) (.int .u64 (hi : Int))).setAt (j := 1) (.int .u64 (lo : Int))
    obtain ⟨x0, x1, _⟩ := b3.cells
    simp only [Nat.zero_add, Nat.add_zero, List.set_cons_zero, List.set_cons_succ] at x0 x1
    refine bodyPost_ret (v := .tuple #[.agg #[.int .u64 hi, .int .u64 lo], .int .i64 0]) (by simp [results, Try.results99, go_sem, x0, x1]) rfl ?_
    exact ⟨rfl, (hB4.setCell (p := ⟨w.heap.size, 0, none⟩) (by simp) _).setCell (p := ⟨w.heap.size, 1, none⟩) (by simp) _⟩
  · go_wp2
    have b3 := (HB3.out.setAt (j := 0) (.int .u64 0)).setAt (j := 1) (.int .u64 0)
    obtain ⟨x0, x1, _⟩ := b3.cells
    simp only [Nat.zero_add, Nat.add_zero, List.set_cons_zero, List.set_cons_succ] at x0 x1
    refine bodyPost_ret (v := .tuple #[.agg #[.int .u64 0, .int .u64 0], .int .i64 2]) (by simp [results, Try.results99, go_sem, x0, x1]) rfl ?_
    exact ⟨rfl, (hB4.setCell (p := ⟨w.heap.size, 0, none⟩) (by simp) _).setCell (p := ⟨w.heap.size, 1, none⟩) (by simp) _⟩
end Go.Proofs.Ytldcihjddebciaa
