/- uuid: the code's Decode. -/
import Derived.Test.YtldcihjddebciaaUuJ
namespace Go.Proofs.Ytldcihjddebciaa
open Go.RowKit

theorem or16 (a b : Nat) (ha : a < 256) (hb : b < 256) : bits .or .u16 (a : Int) ((b : Int) * 256) = ((b * 256 + a : Nat) : Int) := by
  have e : ((b : Int) * 256) = ((b * 256 : Nat) : Int) := by simp
  rw [e, u16_or_nat _ _ (by omega) (by omega)]
  have : a ||| b * 256 = b * 256 + a := by
    rw [Nat.or_comm, show b * 256 = b <<< 8 by rw [Nat.shiftLeft_eq]]
    exact (Nat.shiftLeft_add_eq_or_of_lt (by simpa using ha) _).symm
  rw [this]
theorem shl_wrap (x k : Nat) (hx : x < 256) (hk : k < 8) : IntKind.u64.wrap ((x : Int) * 2 ^ (8 * (k : Int)).toNat) = ((x * 256 ^ k : Nat) : Int) := by
  have e : (8 * (k : Int)).toNat = 8 * k := by omega
  rw [e]
  have e2 : (256 : Nat) ^ k = 2 ^ (8 * k) := by rw [Nat.pow_mul]
  rw [e2]
  have e3 : ((x : Int) * 2 ^ (8 * k)) = ((x * 2 ^ (8 * k) : Nat) : Int) := by simp
  rw [e3]
  have : x * 2 ^ (8 * k) < 18446744073709551616 := by
    have h1 : 2 ^ (8 * k) ≤ 2 ^ 56 := Nat.pow_le_pow_right (by decide) (by omega)
    calc x * 2 ^ (8 * k) ≤ 255 * 2 ^ 56 := Nat.mul_le_mul (by omega) h1
      _ < _ := by decide
  exact IntWalk.u64_in _ (by omega)
theorem or_step (l : List Nat) (x : Nat) (hl : ∀ y ∈ l, y < 256) (hk : l.length < 8) (hx : x < 256) : bits .or .u64 ((vnum l : Nat) : Int) ((x * 256 ^ l.length : Nat) : Int) = ((vnum (l ++ [x]) : Nat) : Int) := by
  have h1 := vnum_lt l hl
  have h3 := vnum_lt (l ++ [x]) (fun y hy => by
    rcases List.mem_append.1 hy with h | h
    · exact hl y h
    · simp at h; omega)
  have hp : (256 : Nat) ^ (l ++ [x]).length ≤ 256 ^ 8 := Nat.pow_le_pow_right (by decide) (by simp; omega)
  have hp2 : (256 : Nat) ^ l.length ≤ 256 ^ 8 := Nat.pow_le_pow_right (by decide) (by omega)
  have e8 : (256 : Nat) ^ 8 = 18446744073709551616 := by decide
  rw [vnum_snoc] at h3 ⊢
  rw [u64_or_nat _ _ (by omega) (by omega), vnum_or l x hl]
theorem take_succ_getD (bs : List Nat) (k : Nat) (h : k < bs.length) : bs.take (k + 1) = bs.take k ++ [bs.getD k 0] := by
  rw [List.take_succ_eq_append_getElem h, List.getD_eq_getElem?_getD, List.getElem?_eq_getElem h]
  rfl
set_option linter.unusedSimpArgs false in
set_option linter.unusedVariables false in
set_option maxRecDepth 100000 in
set_option maxHeartbeats 4000000 in
theorem decode_two (x0 x1 : Nat) (v : Value) (w : World) (h : BytesAt w v [x0, x1]) :
    Calls Try.prog 93 #[v] w fun e w' => e = .returned (.tuple #[.agg #[.int .u64 (decR [x0, x1]).1, .int .u64 (decR [x0, x1]).2.1], .int .i64 (decR [x0, x1]).2.2]) ∧ Below w.heap.size w w' := by
  obtain ⟨⟨_, _, _, ao, cap, rfl, _, hc⟩, _, hlt⟩ := h
  obtain ⟨b, off, rfl, hb, hcell⟩ := hc (by simp)
  have y0 : x0 < 256 := hlt x0 (by simp)
  have y1 : x1 < 256 := hlt x1 (by simp)
  have ho := or16 x0 x1 y0 y1
  have hd : decR [x0, x1] = ((x1 * 256 + x0) * 4294967296 + 4096, 9223372588214596859, 0) := by
    unfold decR
    rw [if_pos (by simp)]
    simp [vnum]
  rw [hd]
  obtain ⟨V, hV⟩ : ∃ V, x1 * 256 + x0 = V := ⟨_, rfl⟩
  have hVb : V < 65536 := by omega
  rw [hV] at ho ⊢
  have k0 := hcell 0 (.int .u8 (x0 : Int)) rfl
  have k1 := hcell 1 (.int .u8 (x1 : Int)) rfl
  have hB0 := (Below.refl w.heap.size w).alloc (Nat.le_refl _) (.cells #[.int .u64 0, .int .u64 0] 29)
  have bR := Blk.new w 29 [.int .u64 0, .int .u64 0]
  have TB : Cells (w.alloc (.cells #[.int .u64 0, .int .u64 0] 29)) (blk w.heap.size 0 0 [.int .u64 0, .int .u64 0] ++ blk b off 0 [.int .u8 x0, .int .u8 x1]) := bR.cells.app ⟨kc (j := off + 0) k0 hB0, kc k1 hB0, trivial⟩
  have TW : Cells w (blk b off 0 [.int .u8 x0, .int .u8 x1]) := ⟨k0, k1, trivial⟩
  have HTW := Lib.hid TW
  clear TW
  have hsh := fun W => short_any V hVb W
  obtain ⟨M, hM⟩ : ∃ M : Int, (V : Int) * 4294967296 + 4096 = M := ⟨_, rfl⟩
  obtain ⟨L, hL⟩ : ∃ M : Int, (9223372588214596859 : Int) = M := ⟨_, rfl⟩
  rw [show (((V * 4294967296 + 4096 : Nat)) : Int) = M by rw [← hM]; simp, show ((9223372588214596859 : Nat) : Int) = L by rw [← hL]; rfl]
  simp only [hM, hL] at hsh
  have HSH := Lib.hid hsh
  have HO := Lib.hid ho
  have z0 : (0 : Int) ≤ (x0 : Int) := by omega
  have z1 : (0 : Int) ≤ (x1 : Int) := by omega
  have q0 : (x0 : Int) < 256 := by omega
  have q1 : (x1 : Int) < 256 := by omega
  have u0 : IntKind.u16.wrap (x0 : Int) = (x0 : Int) := IntWalk.u16_in _ (by omega)
  have u1 : IntKind.u16.wrap (x1 : Int) = (x1 : Int) := IntWalk.u16_in _ (by omega)
  have u2 : IntKind.u16.wrap ((x1 : Int) * 256) = (x1 : Int) * 256 := IntWalk.u16_in _ (by omega)
  clear hsh hM hL hd hV ho hcell hc hlt k0 k1
  go_enter Try.func93, Try.ntmps93
  go_upto_region 2 with fail
  generalize hX : World.alloc _ _ = X at TB bR hB0 ⊢
  clear hX
  have ho := HO.out
  refine wp_region_held_drew (S := (fun W' : World => Cells W' (blk b off 0 [.int .u8 x0, .int .u8 x1]))) (by kernel_rfl) (HTW.out.keep hB0.drew) (fun hHeld => ?_)
  refine wpAnyH_take (i := 0) (oi := _) (v := ?_) (by rw [List.getElem?_toArray]; rfl) (by kernel_rfl) (by kernel_rfl) (by kernel_rfl) (by exact fun _ _ _ h => h) (Or.inl ⟨by rfl, ?_⟩) (by assumption) ?_
  rotate_left
  · intro w hSw
    try simp only [Cells, blk, List.cons_append, List.nil_append, and_true, Nat.reduceAdd, Nat.add_zero, Nat.zero_add] at hSw
    go_simp
    try with_reducible rfl
  simp only [Act.put, List.setIfInBounds_toArray, List.set_cons_zero, List.set_cons_succ]
  refine wpAnyH_take (i := 1) (oi := _) (v := ?_) (by rw [List.getElem?_toArray]; rfl) (by kernel_rfl) (by kernel_rfl) (by kernel_rfl) (by exact fun _ _ _ h => h) (Or.inl ⟨by rfl, ?_⟩) (by assumption) ?_
  rotate_left
  · intro w hSw
    try simp only [Cells, blk, List.cons_append, List.nil_append, and_true, Nat.reduceAdd, Nat.add_zero, Nat.zero_add] at hSw
    go_simp
    try with_reducible rfl
  simp only [Act.put, List.setIfInBounds_toArray, List.set_cons_zero, List.set_cons_succ]
  refine wpAnyH_take (i := 2) (oi := _) (v := ?_) (by rw [List.getElem?_toArray]; rfl) (by kernel_rfl) (by kernel_rfl) (by kernel_rfl) (by exact fun _ _ _ h => h) (Or.inl ⟨by rfl, ?_⟩) (by assumption) ?_
  rotate_left
  · intro w hSw
    try simp only [Cells, blk, List.cons_append, List.nil_append, and_true, Nat.reduceAdd, Nat.add_zero, Nat.zero_add] at hSw
    go_simp
    try with_reducible rfl
  simp only [Act.put, List.setIfInBounds_toArray, List.set_cons_zero, List.set_cons_succ]
  refine wpAnyH_take (i := 3) (oi := _) (v := ?_) (by rw [List.getElem?_toArray]; rfl) (by kernel_rfl) (by kernel_rfl) (by kernel_rfl) (by exact fun _ _ _ h => h) (Or.inl ⟨by rfl, ?_⟩) (by assumption) ?_
  rotate_left
  · intro w hSw
    try simp only [Cells, blk, List.cons_append, List.nil_append, and_true, Nat.reduceAdd, Nat.add_zero, Nat.zero_add] at hSw
    go_simp
    try with_reducible rfl
  simp only [Act.put, List.setIfInBounds_toArray, List.set_cons_zero, List.set_cons_succ]
  refine wpAnyH_take (i := 4) (oi := _) (v := ?_) (by rw [List.getElem?_toArray]; rfl) (by kernel_rfl) (by kernel_rfl) (by kernel_rfl) (by exact fun _ _ _ h => h) (Or.inl ⟨by rfl, ?_⟩) (by assumption) ?_
  rotate_left
  · intro w hSw
    try simp only [Cells, blk, List.cons_append, List.nil_append, and_true, Nat.reduceAdd, Nat.add_zero, Nat.zero_add] at hSw
    go_simp
    try with_reducible rfl
  simp only [Act.put, List.setIfInBounds_toArray, List.set_cons_zero, List.set_cons_succ]
  refine wpAnyH_take (i := 5) (oi := _) (v := ?_) (by rw [List.getElem?_toArray]; rfl) (by kernel_rfl) (by kernel_rfl) (by kernel_rfl) (by exact fun _ _ _ h => h) (Or.inl ⟨by rfl, ?_⟩) (by assumption) ?_
  rotate_left
  · intro w hSw
    try simp only [Cells, blk, List.cons_append, List.nil_append, and_true, Nat.reduceAdd, Nat.add_zero, Nat.zero_add] at hSw
    go_simp
    try with_reducible rfl
  simp only [Act.put, List.setIfInBounds_toArray, List.set_cons_zero, List.set_cons_succ]
  refine wpAnyH_take (i := 6) (oi := _) (v := ?_) (by rw [List.getElem?_toArray]; rfl) (by kernel_rfl) (by kernel_rfl) (by kernel_rfl) (by exact fun _ _ _ h => h) (Or.inl ⟨by rfl, ?_⟩) (by assumption) ?_
  rotate_left
  · intro w hSw
    try simp only [Cells, blk, List.cons_append, List.nil_append, and_true, Nat.reduceAdd, Nat.add_zero, Nat.zero_add] at hSw
    go_simp
    try with_reducible rfl
  simp only [Act.put, List.setIfInBounds_toArray, List.set_cons_zero, List.set_cons_succ]
  refine wpAnyH_take (i := 7) (oi := _) (v := ?_) (by rw [List.getElem?_toArray]; rfl) (by kernel_rfl) (by kernel_rfl) (by kernel_rfl) (by exact fun _ _ _ h => h) (Or.inl ⟨by rfl, ?_⟩) (by assumption) ?_
  rotate_left
  · intro w hSw
    try simp only [Cells, blk, List.cons_append, List.nil_append, and_true, Nat.reduceAdd, Nat.add_zero, Nat.zero_add] at hSw
    go_simp
    try with_reducible rfl
  simp only [Act.put, List.setIfInBounds_toArray, List.set_cons_zero, List.set_cons_succ]
  refine wpAnyH_take (i := 8) (oi := _) (v := ?_) (by rw [List.getElem?_toArray]; rfl) (by kernel_rfl) (by kernel_rfl) (by kernel_rfl) (by exact fun _ _ _ h => h) (Or.inl ⟨by rfl, ?_⟩) (by assumption) ?_
  rotate_left
  · intro w hSw
    try simp only [Cells, blk, List.cons_append, List.nil_append, and_true, Nat.reduceAdd, Nat.add_zero, Nat.zero_add] at hSw
    go_simp
    try with_reducible rfl
  simp only [Act.put, List.setIfInBounds_toArray, List.set_cons_zero, List.set_cons_succ]
  refine wpAnyH_take (i := 9) (oi := _) (v := ?_) (by rw [List.getElem?_toArray]; rfl) (by kernel_rfl) (by kernel_rfl) (by kernel_rfl) (by exact fun _ _ _ h => h) (Or.inl ⟨by rfl, ?_⟩) (by assumption) ?_
  rotate_left
  · intro w hSw
    try simp only [Cells, blk, List.cons_append, List.nil_append, and_true, Nat.reduceAdd, Nat.add_zero, Nat.zero_add] at hSw
    go_simp
    try with_reducible rfl
  simp only [Act.put, List.setIfInBounds_toArray, List.set_cons_zero, List.set_cons_succ]
  refine wpAnyH_ready (rs := [10]) (by kernel_rfl) (by simp) (AllReadyH.cons (o := _) (by rw [List.getElem?_toArray]; rfl) (fun K hK => ?_) AllReadyH.nil)
  go_simp
  go_at_call 46
  refine (HSH.out _).mono ?_
  rintro e w2 ⟨rfl, hB2⟩
  have hBX : Below X.heap.size X w2 := ((Below.refl _ X).drew).trans hB2
  have T2 := TB.keep hBX
  have b2 := bR.below hBX
  have hB3 := hB0.trans (hBX.mono hB0.size)
  have hOpen := T2
  simp only [Cells, blk, List.cons_append, List.nil_append, and_true, Nat.reduceAdd, Nat.add_zero, Nat.zero_add] at hOpen
  obtain ⟨c0, c1, c2, c3⟩ := hOpen
  have f0 := b2.frozen 0
  have f1 := b2.frozen 1
  have B2 := Lib.hid b2
  have HT2 := Lib.hid T2
  clear hB2 hBX b2 TB bR hB0
  clear hHeld
  refine hK.out _ _ (HTW.out.keep hB3) (fun hHeld => ?_)
  clear hK K
  try simp only [Act.put, List.setIfInBounds_toArray, List.set_cons_zero, List.set_cons_succ]
  refine wpAnyH_ready (rs := [11]) (by kernel_rfl) (by simp) (AllReadyH.cons (o := _) (by rw [List.getElem?_toArray]; rfl) (fun K hK => ?_) AllReadyH.nil)
  go_simp
  generalize hX3 : World.setCell _ _ _ = X3
  have b3 : Blk X3 w.heap.size 29 [.int .u64 M, .int .u64 L] := by
    rw [← hX3]
    exact (B2.out.setAt (j := 0) (.int .u64 M)).setAt (j := 1) (.int .u64 L)
  have hB4 : Below w.heap.size w X3 := by
    rw [← hX3]
    exact (hB3.setCell (p := ⟨w.heap.size, 0, none⟩) (by simp) _).setCell (p := ⟨w.heap.size, 1, none⟩) (by simp) _
  have B3 := Lib.hid b3
  clear hX3 b3 c0 c1 c2 c3 f0 f1 ho
  clear hHeld
  refine hK.out _ _ (HTW.out.keep hB4) (fun hHeld => ?_)
  clear hK K
  try simp only [Act.put, List.setIfInBounds_toArray, List.set_cons_zero, List.set_cons_succ]
  refine wpAnyH_take (i := 12) (oi := _) (v := ?_) (by rw [List.getElem?_toArray]; rfl) (by kernel_rfl) (by kernel_rfl) (by kernel_rfl) (by exact fun _ _ _ h => h) (Or.inl ⟨by rfl, ?_⟩) (by assumption) ?_
  rotate_left
  · intro w hSw
    try simp only [Cells, blk, List.cons_append, List.nil_append, and_true, Nat.reduceAdd, Nat.add_zero, Nat.zero_add] at hSw
    go_simp
    try with_reducible rfl
  simp only [Act.put, List.setIfInBounds_toArray, List.set_cons_zero, List.set_cons_succ]
  refine wpAnyH_done (by kernel_rfl) ?_ _
  go_wp2
  obtain ⟨r0, r1, _⟩ := B3.out.cells
  simp only [Nat.zero_add, Nat.add_zero] at r0 r1
  refine bodyPost_ret (v := .tuple #[.agg #[.int .u64 M, .int .u64 L], .int .i64 0]) (by simp [results, Try.results93, go_sem, r0, r1]) rfl ?_
  exact ⟨rfl, hB4⟩
end Go.Proofs.Ytldcihjddebciaa
