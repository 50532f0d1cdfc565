/- cache: attributes that are read; the parts of a declaration, by the database's reference. -/
import Derived.Test.YteblimdbkiiaaaaTrC
namespace Go.Proofs.Yteblimdbkiiaaaa
open Go.RowKit

/-- an attribute that is read -/
def AtAt (w : World) (b off k : Nat) (a : At) : Prop := ∃ (ra : Option Addr) (rc : Nat), w.cell? ⟨b, off + k * 5, none⟩ = some (.int .u16 a.ha) ∧ w.cell? ⟨b, off + k * 5 + 1, none⟩ = some (.int .u64 a.hi) ∧ w.cell? ⟨b, off + k * 5 + 2, none⟩ = some (.int .u64 a.lo) ∧
  w.cell? ⟨b, off + k * 5 + 3, none⟩ = some (.int .i64 a.pe) ∧ w.cell? ⟨b, off + k * 5 + 4, none⟩ = some (.slice ra a.bs.length rc) ∧ a.bs.length ≤ rc ∧ BytesAt w (.slice ra a.bs.length rc) a.bs
theorem AtAt.below {w w' : World} {b off k : Nat} {t : At} (h : AtAt w b off k t) (hb : Below w.heap.size w w') : AtAt w' b off k t := by
  obtain ⟨a, c, h0, h1, h2, h3, h4, h5, h6⟩ := h
  exact ⟨a, c, kc h0 hb, kc h1 hb, kc h2 hb, kc h3 hb, kc h4 hb, h5, h6.below hb⟩
/-- a database that is read -/
def Dbs (w : World) (v : Value) (db : List At) : Prop := db.length ≤ maxLen ∧ ∃ (ao : Option Addr) (cap : Nat), v = .slice ao db.length cap ∧
  (0 < db.length → ∃ b off, ao = some ⟨b, off, none⟩ ∧ b < w.heap.size ∧ ∀ k (h : k < db.length), AtAt w b off k db[k])
theorem Dbs.below {w w' : World} {v : Value} {db : List At} (h : Dbs w v db) (hb : Below w.heap.size w w') : Dbs w' v db := by
  obtain ⟨h1, ao, cap, rfl, h2⟩ := h
  refine ⟨h1, ao, cap, rfl, fun h0 => ?_⟩
  obtain ⟨b, off, rfl, hlt, hc⟩ := h2 h0
  exact ⟨b, off, rfl, Nat.lt_of_lt_of_le hlt hb.size, fun k hk => (hc k hk).below hb⟩
theorem atI_get {db : List At} {k : Nat} (h : k < db.length) : db[k] = atI db k := by
  unfold atI
  rw [List.getD_eq_getElem?_getD, List.getElem?_eq_getElem h]
  rfl
theorem Dbs.at {w : World} {a : Option Addr} {n c : Nat} {db : List At} (h : Dbs w (.slice a n c) db) (hn : db.length = n) (h0 : 0 < n) : ∃ b off, a = some ⟨b, off, none⟩ ∧ b < w.heap.size ∧ ∀ k, k < n → AtAt w b off k (atI db k) := by
  obtain ⟨_, ao, cap, e, hx⟩ := h
  rw [hn] at e
  cases e
  obtain ⟨b, off, rfl, hb, hc⟩ := hx (by omega)
  refine ⟨b, off, rfl, hb, fun k hk => ?_⟩
  have := hc k (by omega)
  rw [atI_get] at this
  exact this
theorem bcells_len (bs : List Nat) : (bcells bs).length = bs.length := by simp [bcells]
theorem addr_off (b o k : Nat) : ((⟨b, o, none⟩ : Addr).add k) = ⟨b, o + k, none⟩ := by unfold Addr.add; split <;> simp_all
/-- what 's[k:]' hands back -/
theorem bytes_from (w : World) (a : Option Addr) (n c k : Nat) (bs : List Nat) (h : BytesAt w (.slice a n c) bs) (hn : bs.length = n) (hc : n ≤ c) (hk : k ≤ n) :
    ∃ a' c', BytesAt w (.slice a' (n - k) c') (bs.drop k) ∧ n - k ≤ c' ∧ ∀ W, (Instr.slice 56 (.slice a n c) (some (.int .i64 k)) none none).run Try.prog W = .ok (.slice a' (n - k) c') W := by
  obtain ⟨⟨h1, h2, h3, ao, cap, e, hnil, hcell⟩, hr, hlt⟩ := h
  rw [hn] at h1 h2 hnil hcell e hr
  cases e
  have hl : (bs.drop k).length = n - k := by simp [hn]
  have hbc : bcells (bs.drop k) = (bcells bs).drop k := by simp [bcells, List.map_drop]
  refine ⟨if c = k then a else a.map (·.add k), c - k, ⟨⟨by rw [hl]; omega, by rw [hl, bcells_len, hl]; omega, bcells_one _, _, _, by rw [hl], ?_, ?_⟩, by rw [hl]; omega, fun x hx => hlt x (List.mem_of_mem_drop hx)⟩, by omega, fun W => ?_⟩
  · intro e
    have ha : a = none := by
      by_cases hck : c = k
      · rw [if_pos hck] at e; exact e
      · rw [if_neg hck] at e; simpa using e
    obtain ⟨h01, h02⟩ := hnil ha
    rw [hl]
    omega
  · intro h0
    rw [hl] at h0
    obtain ⟨b, off, rfl, hb, hcs⟩ := hcell (by omega)
    rw [if_neg (by omega)]
    refine ⟨b, off + k, by simp [addr_off], hb, fun j u hj => ?_⟩
    rw [hbc, List.getElem?_drop] at hj
    rw [Nat.add_assoc]
    exact hcs (k + j) u hj
  · have hu : Try.prog.underlying 56 = some (.slice (Try.prog.elem 56)) := by kernel_rfl
    rw [run_slice_l (ht := hu) (kl := .i64) (l := (k : Int)) (h0 := by omega) (h1 := by omega)]
    have hs : (sizeOf (Try.prog.elem 56)).run Try.prog W = .ok 1 W := by kernel_rfl
    rw [hs]
    simp [Result.andThen, sliced]
theorem alloc_named {W X : World} {o : Obj} (h : W.alloc o = X) : X.heap[W.heap.size]? = some o ∧ Below W.heap.size W X ∧ X.heap.size = W.heap.size + 1 := by
  subst h
  exact ⟨heap_alloc_new W o, (Below.refl _ _).alloc (Nat.le_refl _) _, by simp⟩
theorem Cells.setCell {W : World} {p : Addr} (u : Value) : ∀ {l : List (Nat × Nat × Value)}, Cells W l → (∀ x ∈ l, x.1 ≠ p.block) → Cells (W.setCell p u) l
  | [], _, _ => trivial
  | (b, o, v) :: l, h, hne => ⟨(World.cell?_of_block (a := ⟨b, o, none⟩) (heap_setCell_other W p b u (fun e => hne (b, o, v) (by simp) e))).trans h.1, Cells.setCell u h.2 (fun x hx => hne x (by simp [hx]))⟩
theorem set2 {W X : World} {i : Nat} {t : TypeId} {x0 x1 y0 y1 : Value} (h : Blk W i t [x0, x1]) (hX : (W.setCell ⟨i, 0, none⟩ y0).setCell ⟨i, 1, none⟩ y1 = X) : Blk X i t [y0, y1] := by
  subst hX
  exact (h.setAt (j := 0) y0).setAt (j := 1) y1
set_option linter.unusedSimpArgs false in
set_option linter.unusedVariables false in
set_option maxRecDepth 100000 in
set_option maxHeartbeats 4000000 in
theorem charParts_any (a : Option Addr) (n c : Nat) (bs : List Nat) (w : World) (h : BytesAt w (.slice a n c) bs) (hn : bs.length = n) (hc : n ≤ c) (hm : n ≤ 1099511627776) :
    Calls Try.prog 52 #[.slice a n c] w fun e w' => e = .returned (.tuple #[.int .i64 (chP bs).1, .int .u16 (chP bs).2.1, .agg #[.int .u64 (chP bs).2.2.1, .int .u64 (chP bs).2.2.2.1], .bool (chP bs).2.2.2.2]) ∧ Below w.heap.size w w' := by
  have hz := fun W => run_build0 W
  have hB0 := (Below.refl w.heap.size w).alloc (Nat.le_refl _) (.cells #[.int .u64 0, .int .u64 0] 34)
  have HN := Lib.hid hn
  unfold chP
  rw [hn]
  by_cases h3 : n < 3
  · rw [if_pos h3]
    have g3 : decide (n < 3) = true := by simpa using h3
    have g3' : decide ((n : Int) < 3) = true := by simp; omega
    clear h hn
    go_enter Try.func52, Try.ntmps52
    go_wp2
    have b3 := ((Blk.new w 34 [.int .u64 0, .int .u64 0]).setAt (j := 0) (.int .u64 0)).setAt (j := 1) (.int .u64 0)
    obtain ⟨x0, x1, _⟩ := b3.cells
    simp only [Nat.zero_add, Nat.add_zero, List.set_cons_zero, List.set_cons_succ] at x0 x1
    refine bodyPost_ret (v := .tuple #[.int .i64 0, .int .u16 0, .agg #[.int .u64 0, .int .u64 0], .bool false]) (by simp [results, Try.results52, go_sem] <;> rfl) rfl ?_
    exact ⟨rfl, hB0⟩
  rw [if_neg h3]
  have g3 : decide (n < 3) = false := by simpa using h3
  have g3' : decide ((n : Int) < 3) = false := by simp; omega
  obtain ⟨a6, c6, hby6, hc6, hrun6⟩ := bytes_from w a n c 3 bs h hn hc (by omega)
  simp only [show ((3 : Nat) : Int) = 3 by rfl] at hrun6
  have hln : (bs.drop 3).length = n - 3 := by rw [List.length_drop, hn]
  obtain ⟨m, hmn⟩ : ∃ m, n - 3 = m := ⟨_, rfl⟩
  rw [hmn] at hby6 hc6 hrun6 hln
  have hde := rdecode_any (.slice a6 m c6) (bs.drop 3) _ (hby6.below hB0) (by rw [hln]; omega)
  obtain ⟨d1, hd1⟩ : ∃ x, (decR (bs.drop 3)).1 = x := ⟨_, rfl⟩
  obtain ⟨d2, hd2⟩ : ∃ x, (decR (bs.drop 3)).2.1 = x := ⟨_, rfl⟩
  obtain ⟨d3, hd3⟩ : ∃ x, (decR (bs.drop 3)).2.2 = x := ⟨_, rfl⟩
  obtain ⟨q, hq⟩ : ∃ q, (d3 == 0) = q := ⟨_, rfl⟩
  rw [hd1, hd2, hd3] at hde ⊢
  rw [hq]
  obtain ⟨x0, hx0⟩ : ∃ x, bs.getD 0 0 = x := ⟨_, rfl⟩
  have hx0' : bs[0]'(by omega) = x0 := by rw [← hx0, List.getD_eq_getElem?_getD, List.getElem?_eq_getElem (by omega)]; rfl
  have hx1 : x0 < 256 := by rw [← hx0']; exact h.2.2 _ (List.getElem_mem _)
  have hnm := fun W (hW : Below w.heap.size w W) => num_any (.slice a n c) bs 1 2 W (h.below hW) (by omega) (by omega) (by omega)
  obtain ⟨V, hV⟩ : ∃ V, vnum ((bs.drop 1).take 2) = V := ⟨_, rfl⟩
  have hVb : V < 65536 := by
    have := vnum_lt ((bs.drop 1).take 2) (fun x hx => h.2.2 x (List.mem_of_mem_drop (List.mem_of_mem_take hx)))
    rw [hV, List.length_take, List.length_drop] at this
    rw [show min 2 (bs.length - 1) = 2 by omega] at this
    simpa using this
  rw [hV] at hnm ⊢
  rw [hx0]
  simp only [show ((1 : Nat) : Int) = 1 by rfl, show ((2 : Nat) : Int) = 2 by rfl] at hnm
  have w1 : IntKind.u16.wrap (V : Int) = (V : Int) := IntWalk.u16_in _ (by omega)
  have w2 : IntKind.i64.wrap (x0 : Int) = (x0 : Int) := IntWalk.i64_in _ (by omega)
  have hcell : ∃ b off, a = some ⟨b, off, none⟩ ∧ w.cell? ⟨b, off, none⟩ = some (.int .u8 (x0 : Nat)) := by
    obtain ⟨⟨_, _, _, ao, cap, e, _, hcl⟩, _, _⟩ := h
    cases e
    obtain ⟨b, off, rfl, hb, hcs⟩ := hcl (by omega)
    exact ⟨b, off, rfl, by have := hcs 0 (.int .u8 (x0 : Nat)) (by simp [bcells, List.getElem?_eq_getElem (show 0 < bs.length by omega), hx0']); simpa using this⟩
  obtain ⟨b, off, rfl, hcl⟩ := hcell
  have HDE := Lib.hid hde
  have HNM := Lib.hid hnm
  have HCL := Lib.hid hcl
  have hi0 : (0 : Int) < (n : Int) := by omega
  have hn0 : 0 < n := by omega
  have hc3 : (3 : Int) ≤ (n : Int) := by omega
  have hmb : m ≤ 1099511627776 := by omega
  clear hde hnm hd1 hd2 hd3 hx0 hx0' hV h hn hby6 hln hmn hcl hc6
  go_enter Try.func52, Try.ntmps52
  go_wp2_with fail
  refine HDE.out.mono ?_
  rintro e w4 ⟨rfl, hB4⟩
  have hB4' := hB0.trans (hB4.mono hB0.size)
  have b4 := (Blk.new w 34 [.int .u64 0, .int .u64 0]).below hB4
  have HB4 := Lib.hid hB4'
  have HK4 := Lib.hid b4
  have hlt4 : w.heap.size < w4.heap.size := b4.lt
  clear hB4 hB4' b4 HDE
  go_upto_region 4 with fail
  generalize hX : World.alloc w4 _ = X
  obtain ⟨h6, hB6, h6z⟩ := alloc_named hX
  have b6 : Blk X w4.heap.size 34 [.int .u64 d1, .int .u64 d2] := h6
  have b4 := HK4.out.below hB6
  have hBX := HB4.out.trans (hB6.mono HB4.out.size)
  have c0 := kc HCL.out hBX
  have T : Cells X ([(b, off, .int .u8 (x0 : Nat))] ++ blk w4.heap.size 0 0 [.int .u64 d1, .int .u64 d2]) := ⟨c0, b6.cells⟩
  have hbw : b < w.heap.size := World.block_lt_of_cell? w _ HCL.out
  have HT := Lib.hid T
  have HK := Lib.hid b4
  obtain ⟨m0, m1, _⟩ := b4.cells
  simp only [Nat.zero_add, Nat.add_zero] at m0 m1
  have z0 := b4.frozen 0
  have z1 := b4.frozen 1
  have HBX := Lib.hid hBX
  clear hX h6 hB6 h6z b6 b4 hBX c0 HK4 HB4 HCL
  refine wp_region_held_drew (S := (fun W' : World => Cells W' ([(b, off, .int .u8 (x0 : Nat))] ++ blk w4.heap.size 0 0 [.int .u64 d1, .int .u64 d2]))) (by kernel_rfl) (T.drew) (fun hHeld => ?_)
  refine wpAnyH_take (i := 0) (oi := _) (v := ?_) (by rw [List.getElem?_toArray]; rfl) (by kernel_rfl) (by kernel_rfl) (by kernel_rfl) (by exact fun _ _ _ h => h) (Or.inl ⟨by rfl, ?_⟩) (by assumption) ?_
  rotate_left
  · intro w hSw
    try simp only [Cells, blk, List.cons_append, List.nil_append, and_true, Nat.reduceAdd, Nat.add_zero, Nat.zero_add] at hSw
    go_simp
    try with_reducible rfl
  simp only [Act.put, List.setIfInBounds_toArray, List.set_cons_zero, List.set_cons_succ]
  refine wpAnyH_take (i := 1) (oi := _) (v := ?_) (by rw [List.getElem?_toArray]; rfl) (by kernel_rfl) (by kernel_rfl) (by kernel_rfl) (by exact fun _ _ _ h => h) (Or.inl ⟨by rfl, ?_⟩) (by assumption) ?_
  rotate_left
  · intro w hSw
    try simp only [Cells, blk, List.cons_append, List.nil_append, and_true, Nat.reduceAdd, Nat.add_zero, Nat.zero_add] at hSw
    go_simp
    try with_reducible rfl
  simp only [Act.put, List.setIfInBounds_toArray, List.set_cons_zero, List.set_cons_succ]
  refine wpAnyH_take (i := 2) (oi := _) (v := ?_) (by rw [List.getElem?_toArray]; rfl) (by kernel_rfl) (by kernel_rfl) (by kernel_rfl) (by exact fun _ _ _ h => h) (Or.inl ⟨by rfl, ?_⟩) (by assumption) ?_
  rotate_left
  · intro w hSw
    try simp only [Cells, blk, List.cons_append, List.nil_append, and_true, Nat.reduceAdd, Nat.add_zero, Nat.zero_add] at hSw
    go_simp
    try with_reducible rfl
  simp only [Act.put, List.setIfInBounds_toArray, List.set_cons_zero, List.set_cons_succ]
  refine wpAnyH_take (i := 3) (oi := _) (v := ?_) (by rw [List.getElem?_toArray]; rfl) (by kernel_rfl) (by kernel_rfl) (by kernel_rfl) (by exact fun _ _ _ h => h) (Or.inl ⟨by rfl, ?_⟩) (by assumption) ?_
  rotate_left
  · intro w hSw
    try simp only [Cells, blk, List.cons_append, List.nil_append, and_true, Nat.reduceAdd, Nat.add_zero, Nat.zero_add] at hSw
    go_simp
    try with_reducible rfl
  simp only [Act.put, List.setIfInBounds_toArray, List.set_cons_zero, List.set_cons_succ]
  refine wpAnyH_take (i := 4) (oi := _) (v := ?_) (by rw [List.getElem?_toArray]; rfl) (by kernel_rfl) (by kernel_rfl) (by kernel_rfl) (by exact fun _ _ _ h => h) (Or.inl ⟨by rfl, ?_⟩) (by assumption) ?_
  rotate_left
  · intro w hSw
    try simp only [Cells, blk, List.cons_append, List.nil_append, and_true, Nat.reduceAdd, Nat.add_zero, Nat.zero_add] at hSw
    go_simp
    try with_reducible rfl
  simp only [Act.put, List.setIfInBounds_toArray, List.set_cons_zero, List.set_cons_succ]
  refine wpAnyH_take (i := 7) (oi := _) (v := ?_) (by rw [List.getElem?_toArray]; rfl) (by kernel_rfl) (by kernel_rfl) (by kernel_rfl) (by exact fun _ _ _ h => h) (Or.inl ⟨by rfl, ?_⟩) (by assumption) ?_
  rotate_left
  · intro w hSw
    try simp only [Cells, blk, List.cons_append, List.nil_append, and_true, Nat.reduceAdd, Nat.add_zero, Nat.zero_add] at hSw
    go_simp
    try with_reducible rfl
  simp only [Act.put, List.setIfInBounds_toArray, List.set_cons_zero, List.set_cons_succ]
  refine wpAnyH_take (i := 8) (oi := _) (v := ?_) (by rw [List.getElem?_toArray]; rfl) (by kernel_rfl) (by kernel_rfl) (by kernel_rfl) (by exact fun _ _ _ h => h) (Or.inl ⟨by rfl, ?_⟩) (by assumption) ?_
  rotate_left
  · intro w hSw
    try simp only [Cells, blk, List.cons_append, List.nil_append, and_true, Nat.reduceAdd, Nat.add_zero, Nat.zero_add] at hSw
    go_simp
    try with_reducible rfl
  simp only [Act.put, List.setIfInBounds_toArray, List.set_cons_zero, List.set_cons_succ]
  refine wpAnyH_take (i := 9) (oi := _) (v := ?_) (by rw [List.getElem?_toArray]; rfl) (by kernel_rfl) (by kernel_rfl) (by kernel_rfl) (by exact fun _ _ _ h => h) (Or.inl ⟨by rfl, ?_⟩) (by assumption) ?_
  rotate_left
  · intro w hSw
    try simp only [Cells, blk, List.cons_append, List.nil_append, and_true, Nat.reduceAdd, Nat.add_zero, Nat.zero_add] at hSw
    go_simp
    try with_reducible rfl
  simp only [Act.put, List.setIfInBounds_toArray, List.set_cons_zero, List.set_cons_succ]
  refine wpAnyH_ready (rs := [5]) (by kernel_rfl) (by simp) (AllReadyH.cons (o := _) (by rw [List.getElem?_toArray]; rfl) (fun K hK => ?_) AllReadyH.nil)
  go_simp
  go_at_call 61
  refine (HNM.out _ HBX.out.drew).mono ?_
  rintro e w5 ⟨rfl, rfl⟩
  clear hHeld
  refine hK.out _ _ (T.drew) (fun hHeld => ?_)
  clear hK K
  try simp only [Act.put, List.setIfInBounds_toArray, List.set_cons_zero, List.set_cons_succ]
  refine wpAnyH_take (i := 6) (oi := _) (v := ?_) (by rw [List.getElem?_toArray]; rfl) (by kernel_rfl) (by kernel_rfl) (by kernel_rfl) (by exact fun _ _ _ h => h) (Or.inl ⟨by rfl, ?_⟩) (by assumption) ?_
  rotate_left
  · intro w hSw
    try simp only [Cells, blk, List.cons_append, List.nil_append, and_true, Nat.reduceAdd, Nat.add_zero, Nat.zero_add] at hSw
    go_simp
    try with_reducible rfl
  simp only [Act.put, List.setIfInBounds_toArray, List.set_cons_zero, List.set_cons_succ]
  refine wpAnyH_take (i := 10) (oi := _) (v := ?_) (by rw [List.getElem?_toArray]; rfl) (by kernel_rfl) (by kernel_rfl) (by kernel_rfl) (by exact fun _ _ _ h => h) (Or.inl ⟨by rfl, ?_⟩) (by assumption) ?_
  rotate_left
  · intro w hSw
    try simp only [Cells, blk, List.cons_append, List.nil_append, and_true, Nat.reduceAdd, Nat.add_zero, Nat.zero_add] at hSw
    go_simp
    try with_reducible rfl
  simp only [Act.put, List.setIfInBounds_toArray, List.set_cons_zero, List.set_cons_succ]
  refine wpAnyH_take (i := 11) (oi := _) (v := ?_) (by rw [List.getElem?_toArray]; rfl) (by kernel_rfl) (by kernel_rfl) (by kernel_rfl) (by exact fun _ _ _ h => h) (Or.inl ⟨by rfl, ?_⟩) (by assumption) ?_
  rotate_left
  · intro w hSw
    try simp only [Cells, blk, List.cons_append, List.nil_append, and_true, Nat.reduceAdd, Nat.add_zero, Nat.zero_add] at hSw
    go_simp
    try with_reducible rfl
  simp only [Act.put, List.setIfInBounds_toArray, List.set_cons_zero, List.set_cons_succ]
  refine wpAnyH_ready (rs := [12]) (by kernel_rfl) (by simp) (AllReadyH.cons (o := _) (by rw [List.getElem?_toArray]; rfl) (fun K hK => ?_) AllReadyH.nil)
  go_simp
  generalize hY : World.setCell _ _ _ = Y
  have bY := set2 HK.out hY
  have hBY : Below w.heap.size w Y := by
    rw [← hY]
    exact (HBX.out.setCell (p := ⟨w.heap.size, 0, none⟩) (by simp) _).setCell (p := ⟨w.heap.size, 1, none⟩) (by simp) _
  have TY : Cells Y ([(b, off, .int .u8 (x0 : Nat))] ++ blk w4.heap.size 0 0 [.int .u64 d1, .int .u64 d2]) := by
    rw [← hY]
    exact (T.setCell _ (fun x hx => by simp [blk] at hx; rcases hx with rfl | rfl | rfl <;> (simp; omega))).setCell _ (fun x hx => by simp [blk] at hx; rcases hx with rfl | rfl | rfl <;> (simp; omega))
  clear hHeld
  refine hK.out _ _ (TY.drew) (fun hHeld => ?_)
  clear hK K
  try simp only [Act.put, List.setIfInBounds_toArray, List.set_cons_zero, List.set_cons_succ]
  refine wpAnyH_take (i := 13) (oi := _) (v := ?_) (by rw [List.getElem?_toArray]; rfl) (by kernel_rfl) (by kernel_rfl) (by kernel_rfl) (by exact fun _ _ _ h => h) (Or.inl ⟨by rfl, ?_⟩) (by assumption) ?_
  rotate_left
  · intro w hSw
    try simp only [Cells, blk, List.cons_append, List.nil_append, and_true, Nat.reduceAdd, Nat.add_zero, Nat.zero_add] at hSw
    go_simp
    try with_reducible rfl
  simp only [Act.put, List.setIfInBounds_toArray, List.set_cons_zero, List.set_cons_succ]
  refine wpAnyH_done (by kernel_rfl) ?_ _
  have HBY := Lib.hid hBY.drew
  obtain ⟨x0', x1', _⟩ := bY.cells
  simp only [Nat.zero_add, Nat.add_zero] at x0' x1'
  clear T hY TY bY hBY HT HNM hHeld m0 m1 z0 z1
  go_wp2
  refine bodyPost_ret (v := .tuple #[.int .i64 x0, .int .u16 V, .agg #[.int .u64 d1, .int .u64 d2], .bool q]) (by simp [results, Try.results52, go_sem, x0', x1']) rfl ?_
  exact ⟨rfl, HBY.out⟩
end Go.Proofs.Yteblimdbkiiaaaa
