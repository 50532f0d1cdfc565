/- attpdu: the reference: Encode. -/
import Derived.Test.YthnffdlnhfhabaaAtXa
import Derived.Test.YthnffdlnhfhabaaAtM
namespace Go.Proofs.Ythnffdlnhfhabaa
open Go.RowKit

set_option linter.unusedSimpArgs false in
set_option linter.unusedVariables false in
set_option maxRecDepth 100000 in
set_option maxHeartbeats 4000000 in
theorem rshort42_any (hi lo : Nat) (hh : hi < 18446744073709551616) (hl : lo < 18446744073709551616) (w : World) :
    Calls Try.prog 35 #[.agg #[.int .u64 hi, .int .u64 lo]] w fun e w' => e = .returned (.bool (isShort hi lo)) ∧ Below w.heap.size w w' := by
  have T := cells_new w [.int .u64 hi, .int .u64 lo] 25
  have hB := (Below.refl w.heap.size w).alloc (Nat.le_refl _) (.cells #[.int .u64 hi, .int .u64 lo] 25)
  have hnum := fun W => rnumber_any hi lo hh hl W
  obtain ⟨bb, hbb⟩ : ∃ b, isShort hi lo = b := ⟨_, rfl⟩
  rw [hbb] at hnum ⊢
  have HNUM := Lib.hid hnum
  clear hnum hbb hh hl
  go_enter Try.func35, Try.ntmps35
  go_upto_region 1 with fail
  generalize World.alloc _ _ = V at T hB ⊢
  have hOpen := T
  simp only [Cells, blk, List.cons_append, List.nil_append, and_true, Nat.reduceAdd, Nat.add_zero, Nat.zero_add] at hOpen
  obtain ⟨x0, x1⟩ := hOpen
  clear T
  go_wp2_with fail
  refine (HNUM.out _).mono ?_
  rintro e w1 ⟨rfl, hB1⟩
  have hB2 := hB.trans (hB1.mono hB.size)
  clear hB1
  go_wp2
  go_ret
  exact ⟨rfl, hB2⟩
set_option linter.unusedSimpArgs false in
set_option linter.unusedVariables false in
set_option maxRecDepth 100000 in
set_option maxHeartbeats 4000000 in
theorem renc_I (ki : Int) (hk : fldC ki = some [73]) (ak : Int) (ha la hi lo : Nat) (of mt co : Int) (cm : Bool) (a1 : Option Addr) (b off : Nat) (n c m d : Nat) (bs : List Nat) (its : List It) (w : World) (hits : Items w (.slice (some ⟨b, off, none⟩) m d) m its) (hm : m ≤ 1000) (hm0 : 0 < m) (hbn : ∀ t ∈ its, t.n ≤ 1000000)
    (hck : ∀ W, Below w.heap.size w W → Calls Try.prog 13 #[.agg #[.int .i64 ki, .int .i64 ak, .int .u16 ha, .int .u16 la, .int .u64 hi, .int .u64 lo, .int .i64 of, .int .i64 mt, .int .i64 co, .bool cm, .slice a1 n c, .slice (some ⟨b, off, none⟩) m d]] W fun e w' => e = .returned (.int .i64 0) ∧ Below W.heap.size W w') :
    Calls Try.prog 15 #[.agg #[.int .i64 ki, .int .i64 ak, .int .u16 ha, .int .u16 la, .int .u64 hi, .int .u64 lo, .int .i64 of, .int .i64 mt, .int .i64 co, .bool cm, .slice a1 n c, .slice (some ⟨b, off, none⟩) m d]] w fun e w' => ∃ v, e = .returned (.tuple #[v, .int .i64 0]) ∧ BytesAt w' v (encP ki ak ha la hi lo of mt co cm bs its) ∧ Below w.heap.size w w' := by
  obtain ⟨i0, hii, hz0, hz1, hz2⟩ := info_parts Try.info_u8
  have hf : ∀ W, Calls Try.prog 28 #[.int .i64 ki] W (fun e w' => e = .returned (.agg #[.bool true, .bool false, .bool false, .bool false, .bool false, .bool false, .bool false, .bool false, .bool false, .bool false, .bool true]) ∧ Below W.heap.size W w') := fun W => by
    have h := rfields_any ki W
    rw [hk] at h
    exact h
  obtain ⟨K, hKK⟩ := fldC_nat ki hk
  have hb0 : IntKind.u8.wrap ki = ((byt K 0 : Nat) : Int) := by rw [hKK]; exact byt0 K
  have hkt : ki.toNat = K := by rw [hKK]; rfl
  obtain ⟨hlen, hsr, hok⟩ := hits
  obtain ⟨_, _, _, ao, cap, e0, _, hcell⟩ := hsr
  cases e0
  obtain ⟨_, _, eb, hb, hc⟩ := hcell hm0
  cases eb
  have hcells : ∀ j (h : j < its.length), Cells w (blk b (off + j * 5) 0 (itc its[j])) := fun j h => by
    have hh := fun i (hi5 : i < 5) => itc_get its j i h hi5
    refine ⟨?_, ?_, ?_, ?_, ?_, trivial⟩
    all_goals
      rw [Nat.add_assoc]
      refine hc _ _ ?_
      rw [hh _ (by decide)]
      rfl
  have h0l : 0 < its.length := by omega
  obtain ⟨t0, ht0⟩ : ∃ t, its[0] = t := ⟨_, rfl⟩
  have c0 := hcells 0 h0l
  have ok0 := hok _ (List.getElem_mem h0l)
  have hn0 := hbn _ (List.getElem_mem h0l)
  rw [ht0] at c0 ok0 hn0
  have hel : elB ki its = byt (elN ki t0) 0 :: itsTo ki its m := by
    unfold elB itsTo
    cases its with
    | nil => simp at h0l
    | cons x l =>
      have hx : x = t0 := by simpa using ht0
      rw [hx, List.take_of_length_le (by simp only [List.length_cons] at hlen ⊢; omega)]
  have htot := itsTo_len ki its 1000018 (fun t ht => ⟨(hok t ht).2.2.2.2.1, by have := hbn t ht; omega⟩)
  have hitl : ∀ j, ∀ x ∈ itsTo ki its j, x < 256 := by
    intro j x hx
    unfold itsTo at hx
    obtain ⟨t, ht, hx⟩ := List.mem_flatMap.1 hx
    exact itB_lt ki t (hok t (List.mem_of_mem_take ht)).2.2.2.2.2.2.2 x hx
  have hres : encP ki ak ha la hi lo of mt co cm bs its = [byt K 0] ++ [byt (elN ki t0) 0] ++ itsTo ki its m := by
    unfold encP
    rw [hk, hkt]
    have e : flB ki ak ha la hi lo of mt co cm bs its ((some [73]).getD []) = elB ki its := by simp [flB, ix, leF, fiB, List.idxOf_cons]
    rw [e, hel]
    simp
  have hI0 := fun W (hW : Below w.heap.size w W) => ritem_any ki t0 W (ok0.below hW) hn0
  have hl0 := itB_len ki t0 ok0.2.2.2.2.1
  have hIK := fun W (hW : Below w.heap.size w W) j (hj : j < its.length) => ritem_any ki its[j] W ((hok _ (List.getElem_mem hj)).below hW) (hbn _ (List.getElem_mem hj))
  have hlk := fun j (hj : j < its.length) => itB_len ki its[j] (hok _ (List.getElem_mem hj)).2.2.2.2.1
  have hsb := fun j (hj : j < its.length) => Nat.le_trans (sizeI_hi ki its[j].hi its[j].lo its[j].n) (show its[j].n + 18 ≤ 1000018 by have := hbn _ (List.getElem_mem hj); omega)
  obtain ⟨xa, xl, xh, xo, aa, an, ac, abs⟩ := t0
  simp only [itc, Nat.zero_mul, Nat.add_zero] at c0 hI0 hl0 hn0
  obtain ⟨_, _, hxh, hxo, _, _⟩ := ok0
  have hsh := fun W => rshort42_any xh xo hxh hxo W
  have hszb := sizeI_hi ki xh xo an
  have hN0 : elN ki ⟨xa, xl, xh, xo, aa, an, ac, abs⟩ = if ki = 5 then (if isShort xh xo = true then 1 else 2) else sizeI ki xh xo an := by
    unfold elN
    simp only
    by_cases h5 : ki = 5
    · rw [if_pos h5, if_pos h5]
      have : sizeI ki xh xo an = 2 + (encB xh xo).length := by unfold sizeI; rw [if_pos h5]
      rw [this, encB_len]
      cases isShort xh xo <;> rfl
    · rw [if_neg h5, if_neg h5]
  obtain ⟨N0, hN0'⟩ : ∃ N, elN ki ⟨xa, xl, xh, xo, aa, an, ac, abs⟩ = N := ⟨_, rfl⟩
  rw [hN0'] at hres hN0
  obtain ⟨R, hR⟩ : ∃ R, encP ki ak ha la hi lo of mt co cm bs its = R := ⟨_, rfl⟩
  rw [hR] at hres ⊢
  obtain ⟨L, hL⟩ : ∃ L, sizeI ki xh xo an = L := ⟨_, rfl⟩
  simp only [hL] at hl0 hszb hN0
  obtain ⟨qs, hqs⟩ : ∃ q, isShort xh xo = q := ⟨_, rfl⟩
  rw [hqs] at hN0 hsh
  have hB := (Below.refl w.heap.size w).alloc (Nat.le_refl _) (.cells #[.int .i64 ki, .int .i64 ak, .int .u16 ha, .int .u16 la, .int .u64 hi, .int .u64 lo, .int .i64 of, .int .i64 mt, .int .i64 co, .bool cm, .slice a1 n c, .slice (some ⟨b, off, none⟩) m d] 29)
  have bP := Blk.new w 29 [.int .i64 ki, .int .i64 ak, .int .u16 ha, .int .u16 la, .int .u64 hi, .int .u64 lo, .int .i64 of, .int .i64 mt, .int .i64 co, .bool cm, .slice a1 n c, .slice (some ⟨b, off, none⟩) m d]
  have HSH := Lib.hid hsh
  have HI0 := Lib.hid hI0
  have HL0 := Lib.hid hl0
  have HIK := Lib.hid hIK
  have HLK := Lib.hid hlk
  have HSB := Lib.hid hsb
  have HLEN := Lib.hid hlen
  have HCE := Lib.hid hcells
  have HTOT := Lib.hid htot
  have HITL := Lib.hid hitl
  have HRES := Lib.hid hres
  have HN0 := Lib.hid hN0
  have HF := Lib.hid hf
  have HCK := Lib.hid hck
  have HC0 := Lib.hid c0
  have tm0 : ((m : Int) == 0) = false := by simp; omega
  clear hsh hI0 hl0 hIK hlk hsb hlen hcells htot hitl hres hN0 hN0' hf hck hc hcell hok hbn h0l ht0 hel hR hL hqs hKK hkt hxh hxo hn0 c0 hk
  go_enter Try.func15, Try.ntmps15
  go_upto_region 1 with fail
  generalize World.alloc _ _ = V at bP hB ⊢
  have HBP := Lib.hid bP
  have HB := Lib.hid hB
  have TP := bP.cells
  have hOpen := TP
  simp only [Cells, blk, List.cons_append, List.nil_append, and_true, Nat.reduceAdd, Nat.add_zero, Nat.zero_add] at hOpen
  obtain ⟨y0, y1, y2, y3, y4, y5, y6, y7, y8, y9, yA, yB⟩ := hOpen
  clear TP bP hB
  go_wp2_with fail
  refine (HCK.out _ HB.out).mono ?_
  rintro e w1 ⟨rfl, hB1⟩
  have HBP1 := Lib.hid (HBP.out.below hB1)
  have HB1 := Lib.hid (HB.out.trans (hB1.mono HB.out.size))
  have TP := HBP1.out.cells
  clear y0 y1 y2 y3 y4 y5 y6 y7 y8 y9 yA yB hB1 HB HBP HCK
  have hOpen := TP
  simp only [Cells, blk, List.cons_append, List.nil_append, and_true, Nat.reduceAdd, Nat.add_zero, Nat.zero_add] at hOpen
  obtain ⟨y0, y1, y2, y3, y4, y5, y6, y7, y8, y9, yA, yB⟩ := hOpen
  clear TP
  go_wp2_with fail
  refine (HF.out _).mono ?_
  rintro e w2 ⟨rfl, hB2⟩
  have bP := (HBP1.out.below hB2).alloc (.cells #[.bool true, .bool false, .bool false, .bool false, .bool false, .bool false, .bool false, .bool false, .bool false, .bool false, .bool true] 58)
  have bU := Blk.new w2 58 [.bool true, .bool false, .bool false, .bool false, .bool false, .bool false, .bool false, .bool false, .bool false, .bool false, .bool true]
  have hB2' := HB1.out.trans (hB2.mono HB1.out.size)
  have hB3 := hB2'.alloc hB2'.size (.cells #[.bool true, .bool false, .bool false, .bool false, .bool false, .bool false, .bool false, .bool false, .bool false, .bool false, .bool true] 58)
  clear y0 y1 y2 y3 y4 y5 y6 y7 y8 y9 yA yB hB2 hB2' HB1 HBP1 HF
  go_upto_region 5 with fail
  generalize World.alloc _ _ = Y at bP bU hB3 ⊢
  have TP := bP.cells
  have hOpen := TP
  simp only [Cells, blk, List.cons_append, List.nil_append, and_true, Nat.reduceAdd, Nat.add_zero, Nat.zero_add] at hOpen
  obtain ⟨y0, y1, y2, y3, y4, y5, y6, y7, y8, y9, yA, yB⟩ := hOpen
  have hlit := own_lit Y [.int .u8 (byt K 0 : Nat)] 1 5 rfl (by decide)
  have bP0 := bP.alloc (.cells #[.int .u8 (byt K 0 : Nat)] 5)
  have bU0 := bU.alloc (.cells #[.int .u8 (byt K 0 : Nat)] 5)
  have hB4 := hB3.alloc hB3.size (.cells #[.int .u8 (byt K 0 : Nat)] 5)
  have hYs := hB3.size
  clear TP bP bU hB3
  go_upto_region 6 with fail
  clear y0 y1 y2 y3 y4 y5 y6 y7 y8 y9 yA yB
  generalize World.alloc _ _ = W0 at hlit bP0 bU0 hB4 ⊢
  obtain ⟨v0, hv0⟩ : ∃ v : Value, v = .slice (some ⟨Y.heap.size, 0, none⟩) 1 1 := ⟨_, rfl⟩
  rw [← hv0] at hlit ⊢
  clear hv0
  have HO0 := Lib.hid (show OwnB w W0 v0 [byt K 0] from ⟨own_base hlit hYs, hB4⟩)
  have HBP0 := Lib.hid bP0
  have HBU0 := Lib.hid bU0
  have hBz := hB4
  have HCZ := Lib.hid (bP0.cells.app (HC0.out.keep hB4))
  clear hlit bP0 hB4 hYs
  have TZ := HCZ.out
  have TU := bU0.cells
  have hOpen := TZ
  simp only [Cells, blk, List.cons_append, List.nil_append, and_true, Nat.reduceAdd, Nat.add_zero, Nat.zero_add] at hOpen
  obtain ⟨y0, y1, y2, y3, y4, y5, y6, y7, y8, y9, yA, yB, z0, z1, z2, z3, z4⟩ := hOpen
  have hOpen := TU
  simp only [Cells, blk, List.cons_append, List.nil_append, and_true, Nat.reduceAdd, Nat.add_zero, Nat.zero_add] at hOpen
  obtain ⟨u0, u1, u2, u3, u4, u5, u6, u7, u8, u9, uA⟩ := hOpen
  clear TZ TU bU0
  go_upto_region 7 with fail
  refine wp_region_held_drew (S := (fun W' : World => Cells W' (blk w.heap.size 0 0 [.int .i64 ki, .int .i64 ak, .int .u16 ha, .int .u16 la, .int .u64 hi, .int .u64 lo, .int .i64 of, .int .i64 mt, .int .i64 co, .bool cm, .slice a1 n c, .slice (some ⟨b, off, none⟩) m d] ++ blk b off 0 [.int .u16 xa, .int .u16 xl, .int .u64 xh, .int .u64 xo, .slice aa an ac]))) (by kernel_rfl) (HCZ.out.drew) (fun hHeld => ?_)
  refine wpAnyH_take (i := 0) (oi := _) (v := ?_) (by rw [List.getElem?_toArray]; rfl) (by kernel_rfl) (by kernel_rfl) (by kernel_rfl) (by exact fun _ _ _ h => h) (Or.inl ⟨by rfl, ?_⟩) (by assumption) ?_
  rotate_left
  · intro w hSw
    try simp only [Cells, blk, List.cons_append, List.nil_append, and_true, Nat.reduceAdd, Nat.add_zero, Nat.zero_add] at hSw
    go_simp
    try with_reducible rfl
  simp only [Act.put, List.setIfInBounds_toArray, List.set_cons_zero, List.set_cons_succ]
  refine wpAnyH_take (i := 1) (oi := _) (v := ?_) (by rw [List.getElem?_toArray]; rfl) (by kernel_rfl) (by kernel_rfl) (by kernel_rfl) (by exact fun _ _ _ h => h) (Or.inl ⟨by rfl, ?_⟩) (by assumption) ?_
  rotate_left
  · intro w hSw
    try simp only [Cells, blk, List.cons_append, List.nil_append, and_true, Nat.reduceAdd, Nat.add_zero, Nat.zero_add] at hSw
    go_simp
    try with_reducible rfl
  simp only [Act.put, List.setIfInBounds_toArray, List.set_cons_zero, List.set_cons_succ]
  refine wpAnyH_take (i := 2) (oi := _) (v := ?_) (by rw [List.getElem?_toArray]; rfl) (by kernel_rfl) (by kernel_rfl) (by kernel_rfl) (by exact fun _ _ _ h => h) (Or.inl ⟨by rfl, ?_⟩) (by assumption) ?_
  rotate_left
  · intro w hSw
    try simp only [Cells, blk, List.cons_append, List.nil_append, and_true, Nat.reduceAdd, Nat.add_zero, Nat.zero_add] at hSw
    go_simp
    try with_reducible rfl
  simp only [Act.put, List.setIfInBounds_toArray, List.set_cons_zero, List.set_cons_succ]
  refine wpAnyH_take (i := 3) (oi := _) (v := ?_) (by rw [List.getElem?_toArray]; rfl) (by kernel_rfl) (by kernel_rfl) (by kernel_rfl) (by exact fun _ _ _ h => h) (Or.inl ⟨by rfl, ?_⟩) (by assumption) ?_
  rotate_left
  · intro w hSw
    try simp only [Cells, blk, List.cons_append, List.nil_append, and_true, Nat.reduceAdd, Nat.add_zero, Nat.zero_add] at hSw
    go_simp
    try with_reducible rfl
  simp only [Act.put, List.setIfInBounds_toArray, List.set_cons_zero, List.set_cons_succ]
  refine wpAnyH_take (i := 4) (oi := _) (v := ?_) (by rw [List.getElem?_toArray]; rfl) (by kernel_rfl) (by kernel_rfl) (by kernel_rfl) (by exact fun _ _ _ h => h) (Or.inl ⟨by rfl, ?_⟩) (by assumption) ?_
  rotate_left
  · intro w hSw
    try simp only [Cells, blk, List.cons_append, List.nil_append, and_true, Nat.reduceAdd, Nat.add_zero, Nat.zero_add] at hSw
    go_simp
    try with_reducible rfl
  simp only [Act.put, List.setIfInBounds_toArray, List.set_cons_zero, List.set_cons_succ]
  refine wpAnyH_take (i := 5) (oi := _) (v := ?_) (by rw [List.getElem?_toArray]; rfl) (by kernel_rfl) (by kernel_rfl) (by kernel_rfl) (by exact fun _ _ _ h => h) (Or.inl ⟨by rfl, ?_⟩) (by assumption) ?_
  rotate_left
  · intro w hSw
    try simp only [Cells, blk, List.cons_append, List.nil_append, and_true, Nat.reduceAdd, Nat.add_zero, Nat.zero_add] at hSw
    go_simp
    try with_reducible rfl
  simp only [Act.put, List.setIfInBounds_toArray, List.set_cons_zero, List.set_cons_succ]
  refine wpAnyH_ready (rs := [6]) (by kernel_rfl) (by simp) (AllReadyH.cons (o := _) (by rw [List.getElem?_toArray]; rfl) (fun K hK => ?_) AllReadyH.nil)
  go_simp
  refine (HI0.out _ (hBz.drew)).mono ?_
  rintro e w4 ⟨v4, rfl, hv4, hBb⟩
  obtain ⟨⟨_, _, _, ao1, cap1, rfl, _, _⟩, _⟩ := hv4
  rw [HL0.out]
  have HCZ4 := Lib.hid (HCZ.out.drew.keep hBb)
  have HO4 := Lib.hid ((HO0.out.below ((Below.refl _ _).drew)).below hBb)
  have HBP4 := Lib.hid (HBP0.out.drew.below hBb)
  clear hBb y0 y1 y2 y3 y4 y5 y6 y7 y8 y9 yA yB u0 u1 u2 u3 u4 u5 u6 u7 u8 u9 uA z0 z1 z2 z3 z4 HO0 HBP0 HBU0
  clear hHeld
  refine hK.out _ _ (HCZ4.out) (fun hHeld => ?_)
  clear hK K
  try simp only [Act.put, List.setIfInBounds_toArray, List.set_cons_zero, List.set_cons_succ]
  refine wpAnyH_take (i := 7) (oi := _) (v := ?_) (by rw [List.getElem?_toArray]; rfl) (by kernel_rfl) (by kernel_rfl) (by kernel_rfl) (by exact fun _ _ _ h => h) (Or.inl ⟨by rfl, ?_⟩) (by assumption) ?_
  rotate_left
  · intro w hSw
    try simp only [Cells, blk, List.cons_append, List.nil_append, and_true, Nat.reduceAdd, Nat.add_zero, Nat.zero_add] at hSw
    go_simp
    try with_reducible rfl
  simp only [Act.put, List.setIfInBounds_toArray, List.set_cons_zero, List.set_cons_succ]
  refine wpAnyH_take (i := 8) (oi := _) (v := ?_) (by rw [List.getElem?_toArray]; rfl) (by kernel_rfl) (by kernel_rfl) (by kernel_rfl) (by exact fun _ _ _ h => h) (Or.inl ⟨by rfl, ?_⟩) (by assumption) ?_
  rotate_left
  · intro w hSw
    try simp only [Cells, blk, List.cons_append, List.nil_append, and_true, Nat.reduceAdd, Nat.add_zero, Nat.zero_add] at hSw
    go_simp
    try with_reducible rfl
  simp only [Act.put, List.setIfInBounds_toArray, List.set_cons_zero, List.set_cons_succ]
  refine wpAnyH_done (by kernel_rfl) ?_ _
  clear hHeld
  by_cases h5 : ki = 5
  · have t5 : (ki == 5) = true := by simpa using h5
    have hNN : N0 = if qs = true then 1 else 2 := by rw [HN0.out, if_pos h5]
    have HNN := Lib.hid hNN
    clear hNN h5
    have TZ := HCZ4.out
    have hOpen := TZ
    simp only [Cells, blk, List.cons_append, List.nil_append, and_true, Nat.reduceAdd, Nat.add_zero, Nat.zero_add] at hOpen
    obtain ⟨y0, y1, y2, y3, y4, y5, y6, y7, y8, y9, yA, yB, z0, z1, z2, z3, z4⟩ := hOpen
    clear TZ
    go_wp2_with fail
    refine (HSH.out _).mono ?_
    rintro e w5 ⟨rfl, hB5⟩
    have HO5 := Lib.hid (HO4.out.below hB5)
    have HBP5 := Lib.hid (HBP4.out.below hB5)
    clear hB5 y0 y1 y2 y3 y4 y5 y6 y7 y8 y9 yA yB z0 z1 z2 z3 z4
    have TZ := HBP5.out.cells
    have hOpen := TZ
    simp only [Cells, blk, List.cons_append, List.nil_append, and_true, Nat.reduceAdd, Nat.add_zero, Nat.zero_add] at hOpen
    obtain ⟨y0, y1, y2, y3, y4, y5, y6, y7, y8, y9, yA, yB⟩ := hOpen
    clear TZ
    cases qs
    · have e0 : N0 = 2 := HNN.out
      subst e0
      have e1 : IntKind.u8.wrap 2 = ((byt 2 0 : Nat) : Int) := rfl
      have hO := HO5.out
      have hown : w5.ownsRow w.heap.size 5 1 v0 1 _ := hO.1
      have hBs := hO.2.size
      clear hO
      go_wp2_with (at_builtin; refine wpList_append_own _ rfl _ _ 26 rfl w.heap.size 5 i0 (.int .u8 0) 1 1 Try.underlying26 hii hz0 hz1 hz2 rfl (by decide) _ _ _ rfl (hown.alloc _) ⟨w5.heap.size, 0, none⟩ 1 1 [.int .u8 (byt 2 0 : Nat)] rfl rfl (cell_one_new _ _ _) (by simp [Value.oneCell']) (by unfold maxLen; omega) (by omega) (by simp; omega) ?_)
      intro v6 W6 hown' hg _
      have hal := (Below.refl w5.heap.size w5).alloc (Nat.le_refl _) (.cells #[.int .u8 (byt 2 0 : Nat)] 5)
      have hBP6 := (HBP5.out.below hal).kept hg ((HBP5.out.below hal).not_row (by decide) (hown.alloc _))
      have hO6 : OwnB w W6 v6 (_ ++ [byt 2 0]) := (HO5.out.below hal).app hg (own_len' hown') rfl rfl rfl
      have HO6 := Lib.hid hO6
      have HBP6 := Lib.hid hBP6
      clear hown hown' hg hBP6 hO6 hBs hal y0 y1 y2 y3 y4 y5 y6 y7 y8 y9 yA yB
      go_wp2
      go_loopw [6, 8] (fun vo i wr => ∃ (k : Nat) (v : Value), i = .int .i64 k ∧ v = vo ∧ k ≤ m ∧ OwnB w wr v ([byt K 0] ++ [byt 2 0] ++ itsTo ki its k) ∧ Blk wr w.heap.size 29 [.int .i64 ki, .int .i64 ak, .int .u16 ha, .int .u16 la, .int .u64 hi, .int .u64 lo, .int .i64 of, .int .i64 mt, .int .i64 co, .bool cm, .slice a1 n c, .slice (some ⟨b, off, none⟩) m d]) (fun _ i _ => m - (intOf i).toNat)
      case atStart => exact ⟨0, _, by simp, rfl, Nat.zero_le _, by simpa [itsTo] using HO6.out, HBP6.out⟩
      case round =>
        obtain ⟨k, vo, rfl, rfl, hk, hO, hbP⟩ := hrel
        have w1' : IntKind.i64.wrap ((k : Int) + 1) = (k : Int) + 1 := IntWalk.i64_in _ (by omega)
        by_cases hlt : k < m
        · have g1 : decide (k < m) = true := by simpa using hlt
          have hkl : k < its.length := by rw [HLEN.out]; exact hlt
          have cW := HCE.out k hkl
          have hsucc := itsTo_succ ki its k hkl
          have hitm := fun W (hW : Below w.heap.size w W) => HIK.out W hW k hkl
          have hil := HLK.out k hkl
          have hib := HSB.out k hkl
          have htk := HTOT.out k
          have hkm : k * 1000018 ≤ 1000 * 1000018 := Nat.mul_le_mul_right _ (by omega)
          obtain ⟨t, ht⟩ : ∃ t, its[k] = t := ⟨_, rfl⟩
          rw [ht] at cW hsucc hitm hil hib
          obtain ⟨za, zl, zh, zo, zz, zn, zc, zbs⟩ := t
          simp only [itc] at cW hitm hil hib
          have cK := cW.keep hO.2
          have HCW := Lib.hid cW
          clear cW
          obtain ⟨S, hS⟩ : ∃ S, sizeI ki zh zo zn = S := ⟨_, rfl⟩
          have hS2 := sizeI_lo ki zh zo zn
          rw [hS] at hil hib hS2
          obtain ⟨XB, hXB⟩ : ∃ X, itB ki ⟨za, zl, zh, zo, zz, zn, zc, zbs⟩ = X := ⟨_, rfl⟩
          simp only [hXB] at hsucc hitm hil
          obtain ⟨cur, hcur⟩ : ∃ X, [byt K 0] ++ [byt 2 0] ++ itsTo ki its k = X := ⟨_, rfl⟩
          have hnext : [byt K 0] ++ [byt 2 0] ++ itsTo ki its (k + 1) = cur ++ XB := by rw [hsucc, ← hcur]; simp
          obtain ⟨N, hN⟩ : ∃ N, cur.length = N := ⟨_, rfl⟩
          have hNb : N ≤ 1000200000 := by rw [← hN, ← hcur]; simp; omega
          rw [hcur] at hO
          have hbw := hO.2.size
          have hown : wr.ownsRow w.heap.size 5 1 vo N (bcells cur) := own_len hO.1 hN
          have HOWN := Lib.hid hown
          have HITM := Lib.hid hitm
          have HIL := Lib.hid hil
          have HNEXT := Lib.hid hnext
          have HN := Lib.hid hN
          have HO := Lib.hid hO
          have HBPr := Lib.hid hbP
          have TZ := hbP.cells.app cK
          clear hsucc hitm hil ht hS hXB hcur hnext hN hO hbP hown htk hkm hkl cK
          have HTZ := Lib.hid TZ
          have hOpen := TZ
          simp only [Cells, blk, List.cons_append, List.nil_append, and_true, Nat.reduceAdd, Nat.add_zero, Nat.zero_add] at hOpen
          obtain ⟨y0, y1, y2, y3, y4, y5, y6, y7, y8, y9, yA, yB, z0, z1, z2, z3, z4⟩ := hOpen
          clear TZ
          go_upto_region 16 with fail
          refine wp_region_held_drew (S := (fun W' : World => Below w.heap.size w W' ∧ wr.heap.size ≤ W'.heap.size ∧ Cells W' (blk w.heap.size 0 0 [.int .i64 ki, .int .i64 ak, .int .u16 ha, .int .u16 la, .int .u64 hi, .int .u64 lo, .int .i64 of, .int .i64 mt, .int .i64 co, .bool cm, .slice a1 n c, .slice (some ⟨b, off, none⟩) m d] ++ blk b (off + k * 5) 0 [.int .u16 za, .int .u16 zl, .int .u64 zh, .int .u64 zo, .slice zz zn zc]))) (by kernel_rfl) (⟨HO.out.2.drew, Nat.le_refl _, HTZ.out.drew⟩) (fun hHeld => ?_)
          refine wpAnyH_take (i := 0) (oi := _) (v := ?_) (by rw [List.getElem?_toArray]; rfl) (by kernel_rfl) (by kernel_rfl) (by kernel_rfl) (by exact fun _ _ _ h => h) (Or.inl ⟨by rfl, ?_⟩) (by assumption) ?_
          rotate_left
          · intro w hSw
            try simp only [Cells, blk, List.cons_append, List.nil_append, and_true, Nat.reduceAdd, Nat.add_zero, Nat.zero_add] at hSw
            go_simp
            try with_reducible rfl
          simp only [Act.put, List.setIfInBounds_toArray, List.set_cons_zero, List.set_cons_succ]
          refine wpAnyH_take (i := 1) (oi := _) (v := ?_) (by rw [List.getElem?_toArray]; rfl) (by kernel_rfl) (by kernel_rfl) (by kernel_rfl) (by exact fun _ _ _ h => h) (Or.inl ⟨by rfl, ?_⟩) (by assumption) ?_
          rotate_left
          · intro w hSw
            try simp only [Cells, blk, List.cons_append, List.nil_append, and_true, Nat.reduceAdd, Nat.add_zero, Nat.zero_add] at hSw
            go_simp
            try with_reducible rfl
          simp only [Act.put, List.setIfInBounds_toArray, List.set_cons_zero, List.set_cons_succ]
          refine wpAnyH_take (i := 2) (oi := _) (v := ?_) (by rw [List.getElem?_toArray]; rfl) (by kernel_rfl) (by kernel_rfl) (by kernel_rfl) (by exact fun _ _ _ h => h) (Or.inl ⟨by rfl, ?_⟩) (by assumption) ?_
          rotate_left
          · intro w hSw
            try simp only [Cells, blk, List.cons_append, List.nil_append, and_true, Nat.reduceAdd, Nat.add_zero, Nat.zero_add] at hSw
            go_simp
            try with_reducible rfl
          simp only [Act.put, List.setIfInBounds_toArray, List.set_cons_zero, List.set_cons_succ]
          refine wpAnyH_take (i := 3) (oi := _) (v := ?_) (by rw [List.getElem?_toArray]; rfl) (by kernel_rfl) (by kernel_rfl) (by kernel_rfl) (by exact fun _ _ _ h => h) (Or.inl ⟨by rfl, ?_⟩) (by assumption) ?_
          rotate_left
          · intro w hSw
            try simp only [Cells, blk, List.cons_append, List.nil_append, and_true, Nat.reduceAdd, Nat.add_zero, Nat.zero_add] at hSw
            go_simp
            try with_reducible rfl
          simp only [Act.put, List.setIfInBounds_toArray, List.set_cons_zero, List.set_cons_succ]
          refine wpAnyH_take (i := 4) (oi := _) (v := ?_) (by rw [List.getElem?_toArray]; rfl) (by kernel_rfl) (by kernel_rfl) (by kernel_rfl) (by exact fun _ _ _ h => h) (Or.inl ⟨by rfl, ?_⟩) (by assumption) ?_
          rotate_left
          · intro w hSw
            try simp only [Cells, blk, List.cons_append, List.nil_append, and_true, Nat.reduceAdd, Nat.add_zero, Nat.zero_add] at hSw
            go_simp
            try with_reducible rfl
          simp only [Act.put, List.setIfInBounds_toArray, List.set_cons_zero, List.set_cons_succ]
          refine wpAnyH_take (i := 5) (oi := _) (v := ?_) (by rw [List.getElem?_toArray]; rfl) (by kernel_rfl) (by kernel_rfl) (by kernel_rfl) (by exact fun _ _ _ h => h) (Or.inl ⟨by rfl, ?_⟩) (by assumption) ?_
          rotate_left
          · intro w hSw
            try simp only [Cells, blk, List.cons_append, List.nil_append, and_true, Nat.reduceAdd, Nat.add_zero, Nat.zero_add] at hSw
            go_simp
            try with_reducible rfl
          simp only [Act.put, List.setIfInBounds_toArray, List.set_cons_zero, List.set_cons_succ]
          refine wpAnyH_take (i := 6) (oi := _) (v := ?_) (by rw [List.getElem?_toArray]; rfl) (by kernel_rfl) (by kernel_rfl) (by kernel_rfl) (by exact fun _ _ _ h => h) (Or.inl ⟨by rfl, ?_⟩) (by assumption) ?_
          rotate_left
          · intro w hSw
            try simp only [Cells, blk, List.cons_append, List.nil_append, and_true, Nat.reduceAdd, Nat.add_zero, Nat.zero_add] at hSw
            go_simp
            try with_reducible rfl
          simp only [Act.put, List.setIfInBounds_toArray, List.set_cons_zero, List.set_cons_succ]
          refine wpAnyH_take (i := 7) (oi := _) (v := ?_) (by rw [List.getElem?_toArray]; rfl) (by kernel_rfl) (by kernel_rfl) (by kernel_rfl) (by exact fun _ _ _ h => h) (Or.inl ⟨by rfl, ?_⟩) (by assumption) ?_
          rotate_left
          · intro w hSw
            try simp only [Cells, blk, List.cons_append, List.nil_append, and_true, Nat.reduceAdd, Nat.add_zero, Nat.zero_add] at hSw
            go_simp
            try with_reducible rfl
          simp only [Act.put, List.setIfInBounds_toArray, List.set_cons_zero, List.set_cons_succ]
          refine wpAnyH_ready (rs := [8]) (by kernel_rfl) (by simp) (AllReadyH.cons (o := _) (by rw [List.getElem?_toArray]; rfl) (fun K hK => ?_) AllReadyH.nil)
          go_simp
          refine (HITM.out _ HO.out.2.drew).mono ?_
          rintro e wb ⟨vb, rfl, hvb, hBb⟩
          have hob := (HO.out.below ((Below.refl _ _).drew)).below hBb
          have hownb : wb.ownsRow w.heap.size 5 1 vo N (bcells cur) := own_len hob.1 HN.out
          have hbPb := HBPr.out.drew.below hBb
          obtain ⟨⟨_, _, _, aob, capb, rfl, _, hcv⟩, _, _⟩ := hvb
          obtain ⟨b2, off2, rfl, hb2, hcv⟩ := hcv (by rw [HIL.out]; omega)
          rw [HIL.out]
          refine hK.out _ _ (⟨hob.2, Nat.le_trans (show wr.heap.size ≤ wr.drew.heap.size from Nat.le_refl _) hBb.size, HTZ.out.drew.keep hBb⟩) (fun hHeld2 => ?_)
          replace hHeld := hHeld2
          clear hK K hHeld2
          try simp only [Act.put, List.setIfInBounds_toArray, List.set_cons_zero, List.set_cons_succ]
          refine wpAnyH_ready (rs := [9]) (by kernel_rfl) (by simp) (AllReadyH.cons (o := _) (by rw [List.getElem?_toArray]; rfl) (fun K hK => ?_) AllReadyH.nil)
          refine step_append_at (by rfl) _ _ 26 (by rfl) w.heap.size 5 i0 _ 1 1 Try.underlying26 hii hz0 hz1 hz2 rfl (by decide) vo N (bcells cur) (by rfl) hownb ⟨b2, off2, none⟩ S capb (bcells XB) (by rfl) (by rw [bcells_len, HIL.out]; omega) (fun j u hj => by rw [addr_off]; exact hcv j u hj) (bcells_one _) (by unfold maxLen; omega) (by omega) hob.2.size ?_
          intro v' w6 hown6 hg _
          have ho6 := hob.app hg (own_len' hown6) rfl HN.out HIL.out
          have hbP6 := hbPb.kept hg (hbPb.not_row (by decide) hownb)
          refine hK.out _ _ (⟨ho6.2, Nat.le_trans (Nat.le_trans (show wr.heap.size ≤ wr.drew.heap.size from Nat.le_refl _) hBb.size) hg.size, hbP6.cells.app (HCW.out.keep ho6.2)⟩) (fun hHeld2 => ?_)
          replace hHeld := hHeld2
          clear hK K hHeld2
          try simp only [Act.put, List.setIfInBounds_toArray, List.set_cons_zero, List.set_cons_succ]
          refine wpAnyH_take (i := 10) (oi := _) (v := ?_) (by rw [List.getElem?_toArray]; rfl) (by kernel_rfl) (by kernel_rfl) (by kernel_rfl) (by exact fun _ _ _ h => h) (Or.inl ⟨by rfl, ?_⟩) (by assumption) ?_
          rotate_left
          · intro w hSw
            try simp only [Cells, blk, List.cons_append, List.nil_append, and_true, Nat.reduceAdd, Nat.add_zero, Nat.zero_add] at hSw
            go_simp
            try with_reducible rfl
          simp only [Act.put, List.setIfInBounds_toArray, List.set_cons_zero, List.set_cons_succ]
          refine wpAnyH_done (by kernel_rfl) ?_ _
          rw [← HNEXT.out] at ho6
          have HREL := Lib.hid (And.intro ho6 hbP6)
          clear ho6 hbP6 hownb hbPb hob hg hown6 hHeld hBb
          go_wp2
          refine ⟨⟨k + 1, _, by simp, rfl, hlt, HREL.out.1, HREL.out.2⟩, ?_⟩
          simp [intOf]
          omega
        · have g1 : decide (k < m) = false := by simpa using hlt
          obtain rfl : m = k := by omega
          have htk := HTOT.out m
          have hkm : m * 1000018 ≤ 1000 * 1000018 := Nat.mul_le_mul_right _ hm
          have hby := hO.bytes (by
            intro x hx
            simp only [List.mem_append, List.mem_singleton] at hx
            rcases hx with (rfl | rfl) | h
            · exact byt_lt _ _
            · exact byt_lt _ _
            · exact HITL.out _ x h) (by simp; omega)
          rw [← HRES.out] at hby
          have HFIN := Lib.hid (And.intro hby hO.2)
          have TZ := hbP.cells
          have hOpen := TZ
          simp only [Cells, blk, List.cons_append, List.nil_append, and_true, Nat.reduceAdd, Nat.add_zero, Nat.zero_add] at hOpen
          obtain ⟨y0, y1, y2, y3, y4, y5, y6, y7, y8, y9, yA, yB⟩ := hOpen
          clear TZ hby hO hbP htk hkm
          go_wp2
          go_ret2
          exact ⟨_, rfl, HFIN.out.1, HFIN.out.2⟩
    · have e0 : N0 = 1 := HNN.out
      subst e0
      have e1 : IntKind.u8.wrap 1 = ((byt 1 0 : Nat) : Int) := rfl
      have hO := HO5.out
      have hown : w5.ownsRow w.heap.size 5 1 v0 1 _ := hO.1
      have hBs := hO.2.size
      clear hO
      go_wp2_with (at_builtin; refine wpList_append_own _ rfl _ _ 26 rfl w.heap.size 5 i0 (.int .u8 0) 1 1 Try.underlying26 hii hz0 hz1 hz2 rfl (by decide) _ _ _ rfl (hown.alloc _) ⟨w5.heap.size, 0, none⟩ 1 1 [.int .u8 (byt 1 0 : Nat)] rfl rfl (cell_one_new _ _ _) (by simp [Value.oneCell']) (by unfold maxLen; omega) (by omega) (by simp; omega) ?_)
      intro v6 W6 hown' hg _
      have hal := (Below.refl w5.heap.size w5).alloc (Nat.le_refl _) (.cells #[.int .u8 (byt 1 0 : Nat)] 5)
      have hBP6 := (HBP5.out.below hal).kept hg ((HBP5.out.below hal).not_row (by decide) (hown.alloc _))
      have hO6 : OwnB w W6 v6 (_ ++ [byt 1 0]) := (HO5.out.below hal).app hg (own_len' hown') rfl rfl rfl
      have HO6 := Lib.hid hO6
      have HBP6 := Lib.hid hBP6
      clear hown hown' hg hBP6 hO6 hBs hal y0 y1 y2 y3 y4 y5 y6 y7 y8 y9 yA yB
      go_wp2
      go_loopw [6, 8] (fun vo i wr => ∃ (k : Nat) (v : Value), i = .int .i64 k ∧ v = vo ∧ k ≤ m ∧ OwnB w wr v ([byt K 0] ++ [byt 1 0] ++ itsTo ki its k) ∧ Blk wr w.heap.size 29 [.int .i64 ki, .int .i64 ak, .int .u16 ha, .int .u16 la, .int .u64 hi, .int .u64 lo, .int .i64 of, .int .i64 mt, .int .i64 co, .bool cm, .slice a1 n c, .slice (some ⟨b, off, none⟩) m d]) (fun _ i _ => m - (intOf i).toNat)
      case atStart => exact ⟨0, _, by simp, rfl, Nat.zero_le _, by simpa [itsTo] using HO6.out, HBP6.out⟩
      case round =>
        obtain ⟨k, vo, rfl, rfl, hk, hO, hbP⟩ := hrel
        have w1' : IntKind.i64.wrap ((k : Int) + 1) = (k : Int) + 1 := IntWalk.i64_in _ (by omega)
        by_cases hlt : k < m
        · have g1 : decide (k < m) = true := by simpa using hlt
          have hkl : k < its.length := by rw [HLEN.out]; exact hlt
          have cW := HCE.out k hkl
          have hsucc := itsTo_succ ki its k hkl
          have hitm := fun W (hW : Below w.heap.size w W) => HIK.out W hW k hkl
          have hil := HLK.out k hkl
          have hib := HSB.out k hkl
          have htk := HTOT.out k
          have hkm : k * 1000018 ≤ 1000 * 1000018 := Nat.mul_le_mul_right _ (by omega)
          obtain ⟨t, ht⟩ : ∃ t, its[k] = t := ⟨_, rfl⟩
          rw [ht] at cW hsucc hitm hil hib
          obtain ⟨za, zl, zh, zo, zz, zn, zc, zbs⟩ := t
          simp only [itc] at cW hitm hil hib
          have cK := cW.keep hO.2
          have HCW := Lib.hid cW
          clear cW
          obtain ⟨S, hS⟩ : ∃ S, sizeI ki zh zo zn = S := ⟨_, rfl⟩
          have hS2 := sizeI_lo ki zh zo zn
          rw [hS] at hil hib hS2
          obtain ⟨XB, hXB⟩ : ∃ X, itB ki ⟨za, zl, zh, zo, zz, zn, zc, zbs⟩ = X := ⟨_, rfl⟩
          simp only [hXB] at hsucc hitm hil
          obtain ⟨cur, hcur⟩ : ∃ X, [byt K 0] ++ [byt 1 0] ++ itsTo ki its k = X := ⟨_, rfl⟩
          have hnext : [byt K 0] ++ [byt 1 0] ++ itsTo ki its (k + 1) = cur ++ XB := by rw [hsucc, ← hcur]; simp
          obtain ⟨N, hN⟩ : ∃ N, cur.length = N := ⟨_, rfl⟩
          have hNb : N ≤ 1000200000 := by rw [← hN, ← hcur]; simp; omega
          rw [hcur] at hO
          have hbw := hO.2.size
          have hown : wr.ownsRow w.heap.size 5 1 vo N (bcells cur) := own_len hO.1 hN
          have HOWN := Lib.hid hown
          have HITM := Lib.hid hitm
          have HIL := Lib.hid hil
          have HNEXT := Lib.hid hnext
          have HN := Lib.hid hN
          have HO := Lib.hid hO
          have HBPr := Lib.hid hbP
          have TZ := hbP.cells.app cK
          clear hsucc hitm hil ht hS hXB hcur hnext hN hO hbP hown htk hkm hkl cK
          have HTZ := Lib.hid TZ
          have hOpen := TZ
          simp only [Cells, blk, List.cons_append, List.nil_append, and_true, Nat.reduceAdd, Nat.add_zero, Nat.zero_add] at hOpen
          obtain ⟨y0, y1, y2, y3, y4, y5, y6, y7, y8, y9, yA, yB, z0, z1, z2, z3, z4⟩ := hOpen
          clear TZ
          go_upto_region 16 with fail
          refine wp_region_held_drew (S := (fun W' : World => Below w.heap.size w W' ∧ wr.heap.size ≤ W'.heap.size ∧ Cells W' (blk w.heap.size 0 0 [.int .i64 ki, .int .i64 ak, .int .u16 ha, .int .u16 la, .int .u64 hi, .int .u64 lo, .int .i64 of, .int .i64 mt, .int .i64 co, .bool cm, .slice a1 n c, .slice (some ⟨b, off, none⟩) m d] ++ blk b (off + k * 5) 0 [.int .u16 za, .int .u16 zl, .int .u64 zh, .int .u64 zo, .slice zz zn zc]))) (by kernel_rfl) (⟨HO.out.2.drew, Nat.le_refl _, HTZ.out.drew⟩) (fun hHeld => ?_)
          refine wpAnyH_take (i := 0) (oi := _) (v := ?_) (by rw [List.getElem?_toArray]; rfl) (by kernel_rfl) (by kernel_rfl) (by kernel_rfl) (by exact fun _ _ _ h => h) (Or.inl ⟨by rfl, ?_⟩) (by assumption) ?_
          rotate_left
          · intro w hSw
            try simp only [Cells, blk, List.cons_append, List.nil_append, and_true, Nat.reduceAdd, Nat.add_zero, Nat.zero_add] at hSw
            go_simp
            try with_reducible rfl
          simp only [Act.put, List.setIfInBounds_toArray, List.set_cons_zero, List.set_cons_succ]
          refine wpAnyH_take (i := 1) (oi := _) (v := ?_) (by rw [List.getElem?_toArray]; rfl) (by kernel_rfl) (by kernel_rfl) (by kernel_rfl) (by exact fun _ _ _ h => h) (Or.inl ⟨by rfl, ?_⟩) (by assumption) ?_
          rotate_left
          · intro w hSw
            try simp only [Cells, blk, List.cons_append, List.nil_append, and_true, Nat.reduceAdd, Nat.add_zero, Nat.zero_add] at hSw
            go_simp
            try with_reducible rfl
          simp only [Act.put, List.setIfInBounds_toArray, List.set_cons_zero, List.set_cons_succ]
          refine wpAnyH_take (i := 2) (oi := _) (v := ?_) (by rw [List.getElem?_toArray]; rfl) (by kernel_rfl) (by kernel_rfl) (by kernel_rfl) (by exact fun _ _ _ h => h) (Or.inl ⟨by rfl, ?_⟩) (by assumption) ?_
          rotate_left
          · intro w hSw
            try simp only [Cells, blk, List.cons_append, List.nil_append, and_true, Nat.reduceAdd, Nat.add_zero, Nat.zero_add] at hSw
            go_simp
            try with_reducible rfl
          simp only [Act.put, List.setIfInBounds_toArray, List.set_cons_zero, List.set_cons_succ]
          refine wpAnyH_take (i := 3) (oi := _) (v := ?_) (by rw [List.getElem?_toArray]; rfl) (by kernel_rfl) (by kernel_rfl) (by kernel_rfl) (by exact fun _ _ _ h => h) (Or.inl ⟨by rfl, ?_⟩) (by assumption) ?_
          rotate_left
          · intro w hSw
            try simp only [Cells, blk, List.cons_append, List.nil_append, and_true, Nat.reduceAdd, Nat.add_zero, Nat.zero_add] at hSw
            go_simp
            try with_reducible rfl
          simp only [Act.put, List.setIfInBounds_toArray, List.set_cons_zero, List.set_cons_succ]
          refine wpAnyH_take (i := 4) (oi := _) (v := ?_) (by rw [List.getElem?_toArray]; rfl) (by kernel_rfl) (by kernel_rfl) (by kernel_rfl) (by exact fun _ _ _ h => h) (Or.inl ⟨by rfl, ?_⟩) (by assumption) ?_
          rotate_left
          · intro w hSw
            try simp only [Cells, blk, List.cons_append, List.nil_append, and_true, Nat.reduceAdd, Nat.add_zero, Nat.zero_add] at hSw
            go_simp
            try with_reducible rfl
          simp only [Act.put, List.setIfInBounds_toArray, List.set_cons_zero, List.set_cons_succ]
          refine wpAnyH_take (i := 5) (oi := _) (v := ?_) (by rw [List.getElem?_toArray]; rfl) (by kernel_rfl) (by kernel_rfl) (by kernel_rfl) (by exact fun _ _ _ h => h) (Or.inl ⟨by rfl, ?_⟩) (by assumption) ?_
          rotate_left
          · intro w hSw
            try simp only [Cells, blk, List.cons_append, List.nil_append, and_true, Nat.reduceAdd, Nat.add_zero, Nat.zero_add] at hSw
            go_simp
            try with_reducible rfl
          simp only [Act.put, List.setIfInBounds_toArray, List.set_cons_zero, List.set_cons_succ]
          refine wpAnyH_take (i := 6) (oi := _) (v := ?_) (by rw [List.getElem?_toArray]; rfl) (by kernel_rfl) (by kernel_rfl) (by kernel_rfl) (by exact fun _ _ _ h => h) (Or.inl ⟨by rfl, ?_⟩) (by assumption) ?_
          rotate_left
          · intro w hSw
            try simp only [Cells, blk, List.cons_append, List.nil_append, and_true, Nat.reduceAdd, Nat.add_zero, Nat.zero_add] at hSw
            go_simp
            try with_reducible rfl
          simp only [Act.put, List.setIfInBounds_toArray, List.set_cons_zero, List.set_cons_succ]
          refine wpAnyH_take (i := 7) (oi := _) (v := ?_) (by rw [List.getElem?_toArray]; rfl) (by kernel_rfl) (by kernel_rfl) (by kernel_rfl) (by exact fun _ _ _ h => h) (Or.inl ⟨by rfl, ?_⟩) (by assumption) ?_
          rotate_left
          · intro w hSw
            try simp only [Cells, blk, List.cons_append, List.nil_append, and_true, Nat.reduceAdd, Nat.add_zero, Nat.zero_add] at hSw
            go_simp
            try with_reducible rfl
          simp only [Act.put, List.setIfInBounds_toArray, List.set_cons_zero, List.set_cons_succ]
          refine wpAnyH_ready (rs := [8]) (by kernel_rfl) (by simp) (AllReadyH.cons (o := _) (by rw [List.getElem?_toArray]; rfl) (fun K hK => ?_) AllReadyH.nil)
          go_simp
          refine (HITM.out _ HO.out.2.drew).mono ?_
          rintro e wb ⟨vb, rfl, hvb, hBb⟩
          have hob := (HO.out.below ((Below.refl _ _).drew)).below hBb
          have hownb : wb.ownsRow w.heap.size 5 1 vo N (bcells cur) := own_len hob.1 HN.out
          have hbPb := HBPr.out.drew.below hBb
          obtain ⟨⟨_, _, _, aob, capb, rfl, _, hcv⟩, _, _⟩ := hvb
          obtain ⟨b2, off2, rfl, hb2, hcv⟩ := hcv (by rw [HIL.out]; omega)
          rw [HIL.out]
          refine hK.out _ _ (⟨hob.2, Nat.le_trans (show wr.heap.size ≤ wr.drew.heap.size from Nat.le_refl _) hBb.size, HTZ.out.drew.keep hBb⟩) (fun hHeld2 => ?_)
          replace hHeld := hHeld2
          clear hK K hHeld2
          try simp only [Act.put, List.setIfInBounds_toArray, List.set_cons_zero, List.set_cons_succ]
          refine wpAnyH_ready (rs := [9]) (by kernel_rfl) (by simp) (AllReadyH.cons (o := _) (by rw [List.getElem?_toArray]; rfl) (fun K hK => ?_) AllReadyH.nil)
          refine step_append_at (by rfl) _ _ 26 (by rfl) w.heap.size 5 i0 _ 1 1 Try.underlying26 hii hz0 hz1 hz2 rfl (by decide) vo N (bcells cur) (by rfl) hownb ⟨b2, off2, none⟩ S capb (bcells XB) (by rfl) (by rw [bcells_len, HIL.out]; omega) (fun j u hj => by rw [addr_off]; exact hcv j u hj) (bcells_one _) (by unfold maxLen; omega) (by omega) hob.2.size ?_
          intro v' w6 hown6 hg _
          have ho6 := hob.app hg (own_len' hown6) rfl HN.out HIL.out
          have hbP6 := hbPb.kept hg (hbPb.not_row (by decide) hownb)
          refine hK.out _ _ (⟨ho6.2, Nat.le_trans (Nat.le_trans (show wr.heap.size ≤ wr.drew.heap.size from Nat.le_refl _) hBb.size) hg.size, hbP6.cells.app (HCW.out.keep ho6.2)⟩) (fun hHeld2 => ?_)
          replace hHeld := hHeld2
          clear hK K hHeld2
          try simp only [Act.put, List.setIfInBounds_toArray, List.set_cons_zero, List.set_cons_succ]
          refine wpAnyH_take (i := 10) (oi := _) (v := ?_) (by rw [List.getElem?_toArray]; rfl) (by kernel_rfl) (by kernel_rfl) (by kernel_rfl) (by exact fun _ _ _ h => h) (Or.inl ⟨by rfl, ?_⟩) (by assumption) ?_
          rotate_left
          · intro w hSw
            try simp only [Cells, blk, List.cons_append, List.nil_append, and_true, Nat.reduceAdd, Nat.add_zero, Nat.zero_add] at hSw
            go_simp
            try with_reducible rfl
          simp only [Act.put, List.setIfInBounds_toArray, List.set_cons_zero, List.set_cons_succ]
          refine wpAnyH_done (by kernel_rfl) ?_ _
          rw [← HNEXT.out] at ho6
          have HREL := Lib.hid (And.intro ho6 hbP6)
          clear ho6 hbP6 hownb hbPb hob hg hown6 hHeld hBb
          go_wp2
          refine ⟨⟨k + 1, _, by simp, rfl, hlt, HREL.out.1, HREL.out.2⟩, ?_⟩
          simp [intOf]
          omega
        · have g1 : decide (k < m) = false := by simpa using hlt
          obtain rfl : m = k := by omega
          have htk := HTOT.out m
          have hkm : m * 1000018 ≤ 1000 * 1000018 := Nat.mul_le_mul_right _ hm
          have hby := hO.bytes (by
            intro x hx
            simp only [List.mem_append, List.mem_singleton] at hx
            rcases hx with (rfl | rfl) | h
            · exact byt_lt _ _
            · exact byt_lt _ _
            · exact HITL.out _ x h) (by simp; omega)
          rw [← HRES.out] at hby
          have HFIN := Lib.hid (And.intro hby hO.2)
          have TZ := hbP.cells
          have hOpen := TZ
          simp only [Cells, blk, List.cons_append, List.nil_append, and_true, Nat.reduceAdd, Nat.add_zero, Nat.zero_add] at hOpen
          obtain ⟨y0, y1, y2, y3, y4, y5, y6, y7, y8, y9, yA, yB⟩ := hOpen
          clear TZ hby hO hbP htk hkm
          go_wp2
          go_ret2
          exact ⟨_, rfl, HFIN.out.1, HFIN.out.2⟩
  · have t5 : (ki == 5) = false := by simpa using h5
    have hNN : N0 = L := by rw [HN0.out, if_neg h5]
    subst hNN
    have e1 : IntKind.u8.wrap (N0 : Int) = ((byt N0 0 : Nat) : Int) := byt0 N0
    clear h5
    have TZ := HCZ4.out
    have hOpen := TZ
    simp only [Cells, blk, List.cons_append, List.nil_append, and_true, Nat.reduceAdd, Nat.add_zero, Nat.zero_add] at hOpen
    obtain ⟨y0, y1, y2, y3, y4, y5, y6, y7, y8, y9, yA, yB, z0, z1, z2, z3, z4⟩ := hOpen
    clear TZ
    have hO := HO4.out
    have hown : w4.ownsRow w.heap.size 5 1 v0 1 _ := hO.1
    have hBs := hO.2.size
    clear hO
    go_wp2_with (at_builtin; refine wpList_append_own _ rfl _ _ 26 rfl w.heap.size 5 i0 (.int .u8 0) 1 1 Try.underlying26 hii hz0 hz1 hz2 rfl (by decide) _ _ _ rfl (hown.alloc _) ⟨w4.heap.size, 0, none⟩ 1 1 [.int .u8 (byt N0 0 : Nat)] rfl rfl (cell_one_new _ _ _) (by simp [Value.oneCell']) (by unfold maxLen; omega) (by omega) (by simp; omega) ?_)
    intro v6 W6 hown' hg _
    have hal := (Below.refl w4.heap.size w4).alloc (Nat.le_refl _) (.cells #[.int .u8 (byt N0 0 : Nat)] 5)
    have hBP6 := (HBP4.out.below hal).kept hg ((HBP4.out.below hal).not_row (by decide) (hown.alloc _))
    have hO6 : OwnB w W6 v6 (_ ++ [byt N0 0]) := (HO4.out.below hal).app hg (own_len' hown') rfl rfl rfl
    have HO6 := Lib.hid hO6
    have HBP6 := Lib.hid hBP6
    clear hown hown' hg hBP6 hO6 hBs hal y0 y1 y2 y3 y4 y5 y6 y7 y8 y9 yA yB z0 z1 z2 z3 z4
    go_wp2
    go_loopw [6, 8] (fun vo i wr => ∃ (k : Nat) (v : Value), i = .int .i64 k ∧ v = vo ∧ k ≤ m ∧ OwnB w wr v ([byt K 0] ++ [byt N0 0] ++ itsTo ki its k) ∧ Blk wr w.heap.size 29 [.int .i64 ki, .int .i64 ak, .int .u16 ha, .int .u16 la, .int .u64 hi, .int .u64 lo, .int .i64 of, .int .i64 mt, .int .i64 co, .bool cm, .slice a1 n c, .slice (some ⟨b, off, none⟩) m d]) (fun _ i _ => m - (intOf i).toNat)
    case atStart => exact ⟨0, _, by simp, rfl, Nat.zero_le _, by simpa [itsTo] using HO6.out, HBP6.out⟩
    case round =>
      obtain ⟨k, vo, rfl, rfl, hk, hO, hbP⟩ := hrel
      have w1' : IntKind.i64.wrap ((k : Int) + 1) = (k : Int) + 1 := IntWalk.i64_in _ (by omega)
      by_cases hlt : k < m
      · have g1 : decide (k < m) = true := by simpa using hlt
        have hkl : k < its.length := by rw [HLEN.out]; exact hlt
        have cW := HCE.out k hkl
        have hsucc := itsTo_succ ki its k hkl
        have hitm := fun W (hW : Below w.heap.size w W) => HIK.out W hW k hkl
        have hil := HLK.out k hkl
        have hib := HSB.out k hkl
        have htk := HTOT.out k
        have hkm : k * 1000018 ≤ 1000 * 1000018 := Nat.mul_le_mul_right _ (by omega)
        obtain ⟨t, ht⟩ : ∃ t, its[k] = t := ⟨_, rfl⟩
        rw [ht] at cW hsucc hitm hil hib
        obtain ⟨za, zl, zh, zo, zz, zn, zc, zbs⟩ := t
        simp only [itc] at cW hitm hil hib
        have cK := cW.keep hO.2
        have HCW := Lib.hid cW
        clear cW
        obtain ⟨S, hS⟩ : ∃ S, sizeI ki zh zo zn = S := ⟨_, rfl⟩
        have hS2 := sizeI_lo ki zh zo zn
        rw [hS] at hil hib hS2
        obtain ⟨XB, hXB⟩ : ∃ X, itB ki ⟨za, zl, zh, zo, zz, zn, zc, zbs⟩ = X := ⟨_, rfl⟩
        simp only [hXB] at hsucc hitm hil
        obtain ⟨cur, hcur⟩ : ∃ X, [byt K 0] ++ [byt N0 0] ++ itsTo ki its k = X := ⟨_, rfl⟩
        have hnext : [byt K 0] ++ [byt N0 0] ++ itsTo ki its (k + 1) = cur ++ XB := by rw [hsucc, ← hcur]; simp
        obtain ⟨N, hN⟩ : ∃ N, cur.length = N := ⟨_, rfl⟩
        have hNb : N ≤ 1000200000 := by rw [← hN, ← hcur]; simp; omega
        rw [hcur] at hO
        have hbw := hO.2.size
        have hown : wr.ownsRow w.heap.size 5 1 vo N (bcells cur) := own_len hO.1 hN
        have HOWN := Lib.hid hown
        have HITM := Lib.hid hitm
        have HIL := Lib.hid hil
        have HNEXT := Lib.hid hnext
        have HN := Lib.hid hN
        have HO := Lib.hid hO
        have HBPr := Lib.hid hbP
        have TZ := hbP.cells.app cK
        clear hsucc hitm hil ht hS hXB hcur hnext hN hO hbP hown htk hkm hkl cK
        have HTZ := Lib.hid TZ
        have hOpen := TZ
        simp only [Cells, blk, List.cons_append, List.nil_append, and_true, Nat.reduceAdd, Nat.add_zero, Nat.zero_add] at hOpen
        obtain ⟨y0, y1, y2, y3, y4, y5, y6, y7, y8, y9, yA, yB, z0, z1, z2, z3, z4⟩ := hOpen
        clear TZ
        go_upto_region 16 with fail
        refine wp_region_held_drew (S := (fun W' : World => Below w.heap.size w W' ∧ wr.heap.size ≤ W'.heap.size ∧ Cells W' (blk w.heap.size 0 0 [.int .i64 ki, .int .i64 ak, .int .u16 ha, .int .u16 la, .int .u64 hi, .int .u64 lo, .int .i64 of, .int .i64 mt, .int .i64 co, .bool cm, .slice a1 n c, .slice (some ⟨b, off, none⟩) m d] ++ blk b (off + k * 5) 0 [.int .u16 za, .int .u16 zl, .int .u64 zh, .int .u64 zo, .slice zz zn zc]))) (by kernel_rfl) (⟨HO.out.2.drew, Nat.le_refl _, HTZ.out.drew⟩) (fun hHeld => ?_)
        refine wpAnyH_take (i := 0) (oi := _) (v := ?_) (by rw [List.getElem?_toArray]; rfl) (by kernel_rfl) (by kernel_rfl) (by kernel_rfl) (by exact fun _ _ _ h => h) (Or.inl ⟨by rfl, ?_⟩) (by assumption) ?_
        rotate_left
        · intro w hSw
          try simp only [Cells, blk, List.cons_append, List.nil_append, and_true, Nat.reduceAdd, Nat.add_zero, Nat.zero_add] at hSw
          go_simp
          try with_reducible rfl
        simp only [Act.put, List.setIfInBounds_toArray, List.set_cons_zero, List.set_cons_succ]
        refine wpAnyH_take (i := 1) (oi := _) (v := ?_) (by rw [List.getElem?_toArray]; rfl) (by kernel_rfl) (by kernel_rfl) (by kernel_rfl) (by exact fun _ _ _ h => h) (Or.inl ⟨by rfl, ?_⟩) (by assumption) ?_
        rotate_left
        · intro w hSw
          try simp only [Cells, blk, List.cons_append, List.nil_append, and_true, Nat.reduceAdd, Nat.add_zero, Nat.zero_add] at hSw
          go_simp
          try with_reducible rfl
        simp only [Act.put, List.setIfInBounds_toArray, List.set_cons_zero, List.set_cons_succ]
        refine wpAnyH_take (i := 2) (oi := _) (v := ?_) (by rw [List.getElem?_toArray]; rfl) (by kernel_rfl) (by kernel_rfl) (by kernel_rfl) (by exact fun _ _ _ h => h) (Or.inl ⟨by rfl, ?_⟩) (by assumption) ?_
        rotate_left
        · intro w hSw
          try simp only [Cells, blk, List.cons_append, List.nil_append, and_true, Nat.reduceAdd, Nat.add_zero, Nat.zero_add] at hSw
          go_simp
          try with_reducible rfl
        simp only [Act.put, List.setIfInBounds_toArray, List.set_cons_zero, List.set_cons_succ]
        refine wpAnyH_take (i := 3) (oi := _) (v := ?_) (by rw [List.getElem?_toArray]; rfl) (by kernel_rfl) (by kernel_rfl) (by kernel_rfl) (by exact fun _ _ _ h => h) (Or.inl ⟨by rfl, ?_⟩) (by assumption) ?_
        rotate_left
        · intro w hSw
          try simp only [Cells, blk, List.cons_append, List.nil_append, and_true, Nat.reduceAdd, Nat.add_zero, Nat.zero_add] at hSw
          go_simp
          try with_reducible rfl
        simp only [Act.put, List.setIfInBounds_toArray, List.set_cons_zero, List.set_cons_succ]
        refine wpAnyH_take (i := 4) (oi := _) (v := ?_) (by rw [List.getElem?_toArray]; rfl) (by kernel_rfl) (by kernel_rfl) (by kernel_rfl) (by exact fun _ _ _ h => h) (Or.inl ⟨by rfl, ?_⟩) (by assumption) ?_
        rotate_left
        · intro w hSw
          try simp only [Cells, blk, List.cons_append, List.nil_append, and_true, Nat.reduceAdd, Nat.add_zero, Nat.zero_add] at hSw
          go_simp
          try with_reducible rfl
        simp only [Act.put, List.setIfInBounds_toArray, List.set_cons_zero, List.set_cons_succ]
        refine wpAnyH_take (i := 5) (oi := _) (v := ?_) (by rw [List.getElem?_toArray]; rfl) (by kernel_rfl) (by kernel_rfl) (by kernel_rfl) (by exact fun _ _ _ h => h) (Or.inl ⟨by rfl, ?_⟩) (by assumption) ?_
        rotate_left
        · intro w hSw
          try simp only [Cells, blk, List.cons_append, List.nil_append, and_true, Nat.reduceAdd, Nat.add_zero, Nat.zero_add] at hSw
          go_simp
          try with_reducible rfl
        simp only [Act.put, List.setIfInBounds_toArray, List.set_cons_zero, List.set_cons_succ]
        refine wpAnyH_take (i := 6) (oi := _) (v := ?_) (by rw [List.getElem?_toArray]; rfl) (by kernel_rfl) (by kernel_rfl) (by kernel_rfl) (by exact fun _ _ _ h => h) (Or.inl ⟨by rfl, ?_⟩) (by assumption) ?_
        rotate_left
        · intro w hSw
          try simp only [Cells, blk, List.cons_append, List.nil_append, and_true, Nat.reduceAdd, Nat.add_zero, Nat.zero_add] at hSw
          go_simp
          try with_reducible rfl
        simp only [Act.put, List.setIfInBounds_toArray, List.set_cons_zero, List.set_cons_succ]
        refine wpAnyH_take (i := 7) (oi := _) (v := ?_) (by rw [List.getElem?_toArray]; rfl) (by kernel_rfl) (by kernel_rfl) (by kernel_rfl) (by exact fun _ _ _ h => h) (Or.inl ⟨by rfl, ?_⟩) (by assumption) ?_
        rotate_left
        · intro w hSw
          try simp only [Cells, blk, List.cons_append, List.nil_append, and_true, Nat.reduceAdd, Nat.add_zero, Nat.zero_add] at hSw
          go_simp
          try with_reducible rfl
        simp only [Act.put, List.setIfInBounds_toArray, List.set_cons_zero, List.set_cons_succ]
        refine wpAnyH_ready (rs := [8]) (by kernel_rfl) (by simp) (AllReadyH.cons (o := _) (by rw [List.getElem?_toArray]; rfl) (fun K hK => ?_) AllReadyH.nil)
        go_simp
        refine (HITM.out _ HO.out.2.drew).mono ?_
        rintro e wb ⟨vb, rfl, hvb, hBb⟩
        have hob := (HO.out.below ((Below.refl _ _).drew)).below hBb
        have hownb : wb.ownsRow w.heap.size 5 1 vo N (bcells cur) := own_len hob.1 HN.out
        have hbPb := HBPr.out.drew.below hBb
        obtain ⟨⟨_, _, _, aob, capb, rfl, _, hcv⟩, _, _⟩ := hvb
        obtain ⟨b2, off2, rfl, hb2, hcv⟩ := hcv (by rw [HIL.out]; omega)
        rw [HIL.out]
        refine hK.out _ _ (⟨hob.2, Nat.le_trans (show wr.heap.size ≤ wr.drew.heap.size from Nat.le_refl _) hBb.size, HTZ.out.drew.keep hBb⟩) (fun hHeld2 => ?_)
        replace hHeld := hHeld2
        clear hK K hHeld2
        try simp only [Act.put, List.setIfInBounds_toArray, List.set_cons_zero, List.set_cons_succ]
        refine wpAnyH_ready (rs := [9]) (by kernel_rfl) (by simp) (AllReadyH.cons (o := _) (by rw [List.getElem?_toArray]; rfl) (fun K hK => ?_) AllReadyH.nil)
        refine step_append_at (by rfl) _ _ 26 (by rfl) w.heap.size 5 i0 _ 1 1 Try.underlying26 hii hz0 hz1 hz2 rfl (by decide) vo N (bcells cur) (by rfl) hownb ⟨b2, off2, none⟩ S capb (bcells XB) (by rfl) (by rw [bcells_len, HIL.out]; omega) (fun j u hj => by rw [addr_off]; exact hcv j u hj) (bcells_one _) (by unfold maxLen; omega) (by omega) hob.2.size ?_
        intro v' w6 hown6 hg _
        have ho6 := hob.app hg (own_len' hown6) rfl HN.out HIL.out
        have hbP6 := hbPb.kept hg (hbPb.not_row (by decide) hownb)
        refine hK.out _ _ (⟨ho6.2, Nat.le_trans (Nat.le_trans (show wr.heap.size ≤ wr.drew.heap.size from Nat.le_refl _) hBb.size) hg.size, hbP6.cells.app (HCW.out.keep ho6.2)⟩) (fun hHeld2 => ?_)
        replace hHeld := hHeld2
        clear hK K hHeld2
        try simp only [Act.put, List.setIfInBounds_toArray, List.set_cons_zero, List.set_cons_succ]
        refine wpAnyH_take (i := 10) (oi := _) (v := ?_) (by rw [List.getElem?_toArray]; rfl) (by kernel_rfl) (by kernel_rfl) (by kernel_rfl) (by exact fun _ _ _ h => h) (Or.inl ⟨by rfl, ?_⟩) (by assumption) ?_
        rotate_left
        · intro w hSw
          try simp only [Cells, blk, List.cons_append, List.nil_append, and_true, Nat.reduceAdd, Nat.add_zero, Nat.zero_add] at hSw
          go_simp
          try with_reducible rfl
        simp only [Act.put, List.setIfInBounds_toArray, List.set_cons_zero, List.set_cons_succ]
        refine wpAnyH_done (by kernel_rfl) ?_ _
        rw [← HNEXT.out] at ho6
        have HREL := Lib.hid (And.intro ho6 hbP6)
        clear ho6 hbP6 hownb hbPb hob hg hown6 hHeld hBb
        go_wp2
        refine ⟨⟨k + 1, _, by simp, rfl, hlt, HREL.out.1, HREL.out.2⟩, ?_⟩
        simp [intOf]
        omega
      · have g1 : decide (k < m) = false := by simpa using hlt
        obtain rfl : m = k := by omega
        have htk := HTOT.out m
        have hkm : m * 1000018 ≤ 1000 * 1000018 := Nat.mul_le_mul_right _ hm
        have hby := hO.bytes (by
          intro x hx
          simp only [List.mem_append, List.mem_singleton] at hx
          rcases hx with (rfl | rfl) | h
          · exact byt_lt _ _
          · exact byt_lt _ _
          · exact HITL.out _ x h) (by simp; omega)
        rw [← HRES.out] at hby
        have HFIN := Lib.hid (And.intro hby hO.2)
        have TZ := hbP.cells
        have hOpen := TZ
        simp only [Cells, blk, List.cons_append, List.nil_append, and_true, Nat.reduceAdd, Nat.add_zero, Nat.zero_add] at hOpen
        obtain ⟨y0, y1, y2, y3, y4, y5, y6, y7, y8, y9, yA, yB⟩ := hOpen
        clear TZ hby hO hbP htk hkm
        go_wp2
        go_ret2
        exact ⟨_, rfl, HFIN.out.1, HFIN.out.2⟩
end Go.Proofs.Ythnffdlnhfhabaa
