/- attpdu: the bytes of a list. -/
import Derived.Test.YthnffdlnhfhabaaAtI
namespace Go.Proofs.Ythnffdlnhfhabaa
open Go.RowKit

theorem Blk.not_row {W : World} {B : Nat} {t e : TypeId} {cs : List Value} (h : Blk W B t cs) (hte : t ≠ e) {base size k : Nat} {v : Value} {xs : List Value} (hr : W.ownsRow base e size v k xs) : some B ≠ v.ownBlock := by
  rcases hr.2 with ⟨rfl, _⟩ | ⟨g, cap, cur, rfl, _, hgb, _⟩
  · simp [Value.ownBlock]
  · intro e'
    obtain rfl : B = g := by simpa [Value.ownBlock] using e'
    have := (show W.heap[B]? = _ from h).symm.trans hgb
    simp at this
    exact hte this.2
/-- a row that a literal lays -/
theorem own_lit (w : World) (xs : List Value) (n : Nat) (e : TypeId) (hn : xs.length = n) (hm : n ≤ 1000) : (w.alloc (.cells xs.toArray e)).ownsRow w.heap.size e 1 (.slice (some ⟨w.heap.size, 0, none⟩) n n) n xs :=
  ⟨by omega, .inr ⟨w.heap.size, n, xs.toArray, rfl, Nat.le_refl _, heap_alloc_new w _, Nat.le_refl _, by unfold maxLen; omega, by simp [hn], by simp [← hn]⟩⟩
/-- the number that begins a list -/
def elN (k : Int) (t : It) : Nat := if k = 5 then (if 4 < sizeI k t.hi t.lo t.n then 2 else 1) else sizeI k t.hi t.lo t.n
def elB (k : Int) (its : List It) : List Nat := match its with
  | [] => []
  | t :: _ => byt (elN k t) 0 :: its.flatMap (itB k)
def itsTo (k : Int) (its : List It) (j : Nat) : List Nat := (its.take j).flatMap (itB k)
theorem itsTo_succ (k : Int) (its : List It) (j : Nat) (h : j < its.length) : itsTo k its (j + 1) = itsTo k its j ++ itB k its[j] := by
  unfold itsTo
  rw [List.take_succ_eq_append_getElem h, List.flatMap_append]
  simp
theorem sizeI_hi (k : Int) (hi lo n : Nat) : sizeI k hi lo n ≤ n + 18 := by
  have := encB_16 hi lo
  unfold sizeI
  split
  · omega
  · split <;> omega
theorem itsTo_len (k : Int) (its : List It) (B : Nat) (h : ∀ t ∈ its, t.bs.length = t.n ∧ t.n + 18 ≤ B) : ∀ j, (itsTo k its j).length ≤ j * B
  | 0 => by simp [itsTo]
  | j+1 => by
    have ih := itsTo_len k its B h j
    have e : (j + 1) * B = j * B + B := Nat.succ_mul j B
    by_cases hj : j < its.length
    · obtain ⟨h1, h2⟩ := h _ (List.getElem_mem hj)
      rw [itsTo_succ k its j hj, List.length_append, itB_len k _ h1]
      have := sizeI_hi k its[j].hi its[j].lo its[j].n
      omega
    · have e2 : itsTo k its (j + 1) = itsTo k its j := by
        unfold itsTo
        rw [List.take_of_length_le (by omega), List.take_of_length_le (by omega)]
      rw [e2]
      omega
set_option linter.unusedSimpArgs false in
set_option linter.unusedVariables false in
set_option maxRecDepth 100000 in
set_option maxHeartbeats 4000000 in
theorem elements_any (ki ak : Int) (ha la hi lo : Nat) (of mt co : Int) (cm : Bool) (a1 a2 : Option Addr) (n c m d : Nat) (its : List It) (w : World) (hits : Items w (.slice a2 m d) m its) (hm : m ≤ 1000) (hm0 : 0 < m) (hbn : ∀ t ∈ its, t.n ≤ 1000000) :
    Calls Try.prog 33 #[.agg #[.int .i64 ki, .int .i64 ak, .int .u16 ha, .int .u16 la, .int .u64 hi, .int .u64 lo, .int .i64 of, .int .i64 mt, .int .i64 co, .bool cm, .slice a1 n c, .slice a2 m d]] w fun e w' => ∃ v, e = .returned v ∧ BytesAt w' v (elB ki its) ∧ (elB ki its).length ≤ 1000100000 ∧ Below w.heap.size w w' := by
  obtain ⟨i0, hii, hz0, hz1, hz2⟩ := info_parts Try.info_u8
  have hB : Below w.heap.size w (w.alloc (.cells #[.int .i64 ki, .int .i64 ak, .int .u16 ha, .int .u16 la, .int .u64 hi, .int .u64 lo, .int .i64 of, .int .i64 mt, .int .i64 co, .bool cm, .slice a1 n c, .slice a2 m d] 29)) := (Below.refl _ _).alloc (Nat.le_refl _) _
  have T0 := cells_new w [.int .i64 ki, .int .i64 ak, .int .u16 ha, .int .u16 la, .int .u64 hi, .int .u64 lo, .int .i64 of, .int .i64 mt, .int .i64 co, .bool cm, .slice a1 n c, .slice a2 m d] 29
  have bP0 := Blk.new w 29 [.int .i64 ki, .int .i64 ak, .int .u16 ha, .int .u16 la, .int .u64 hi, .int .u64 lo, .int .i64 of, .int .i64 mt, .int .i64 co, .bool cm, .slice a1 n c, .slice a2 m d]
  obtain ⟨hlen, hsr, hok⟩ := hits
  obtain ⟨_, _, _, ao, cap, e0, _, hcell⟩ := hsr
  cases e0
  obtain ⟨b, off, rfl, hb, hc⟩ := hcell hm0
  have hcells : ∀ j (h : j < its.length), Cells w (blk b (off + j * 5) 0 (itc its[j])) := fun j h => by
    have hh := fun i (hi5 : i < 5) => itc_get its j i h hi5
    refine ⟨?_, ?_, ?_, ?_, ?_, trivial⟩
    all_goals
      rw [Nat.add_assoc]
      refine hc _ _ ?_
      rw [hh _ (by decide)]
      rfl
  have h0l : 0 < its.length := by omega
  obtain ⟨t0, ht0⟩ : ∃ t, its[0] = t := ⟨_, rfl⟩
  have c0 := hcells 0 h0l
  have ok0 := hok _ (List.getElem_mem h0l)
  have hn0 := hbn _ (List.getElem_mem h0l)
  rw [ht0] at c0 ok0 hn0
  have hel : elB ki its = byt (elN ki t0) 0 :: itsTo ki its m := by
    unfold elB itsTo
    cases its with
    | nil => simp at h0l
    | cons x l =>
      have hx : x = t0 := by simpa using ht0
      rw [hx, List.take_of_length_le (by simp only [List.length_cons] at hlen ⊢; omega)]
  have htot := itsTo_len ki its 1000018 (fun t ht => ⟨(hok t ht).2.2.2.2.1, by have := hbn t ht; omega⟩)
  have hlt : ∀ x ∈ elB ki its, x < 256 := by
    rw [hel]
    intro x hx
    rcases List.mem_cons.1 hx with rfl | hx
    · exact byt_lt _ _
    · unfold itsTo at hx
      obtain ⟨t, ht, hx⟩ := List.mem_flatMap.1 hx
      exact itB_lt ki t (hok t (List.mem_of_mem_take ht)).2.2.2.2.2.2.2 x hx
  obtain ⟨xa, xl, xh, xo, aa, an, ac, abs⟩ := t0
  simp only [itc] at c0 ok0 hn0
  obtain ⟨_, _, hxh, hxo, _, _⟩ := ok0
  have hsz := fun W => size_any ki xa xl xh xo aa an ac hxh hxo (by omega) W
  have hszb := sizeI_hi ki xh xo an
  unfold elN at hel
  simp only at hel
  obtain ⟨L, hL⟩ : ∃ L, sizeI ki xh xo an = L := ⟨_, rfl⟩
  simp only [hL] at hsz hszb hel
  obtain ⟨N0, hN0⟩ : ∃ N, (if ki = 5 then (if 4 < L then 2 else 1) else L) = N := ⟨_, rfl⟩
  rw [hN0] at hel
  obtain ⟨EB, hEB⟩ : ∃ E, elB ki its = E := ⟨_, rfl⟩
  rw [hEB] at hel hlt ⊢
  have hEl : EB.length ≤ 1000100000 := by
    rw [hel, List.length_cons]
    have := htot m
    have : m * 1000018 ≤ 1000 * 1000018 := Nat.mul_le_mul_right _ hm
    omega
  have HSZ := Lib.hid hsz
  have HLEN := Lib.hid hlen
  have HOK := Lib.hid hok
  have HBN := Lib.hid hbn
  have HCE := Lib.hid hcells
  have HEL := Lib.hid hel
  have HTOT := Lib.hid htot
  have HLT := Lib.hid hlt
  have HEB := Lib.hid hEl
  have HN0 := Lib.hid hN0
  have hbw : b < w.heap.size := hb
  clear hlen hok hc hbn hcells h0l hxh hxo hsz hL hn0 hcell hb hel htot hlt hEB hEl hN0 ht0
  go_enter Try.func33, Try.ntmps33
  go_upto_region 1 with fail
  generalize hV : World.alloc _ _ = V at T0 hB bP0 ⊢
  have hVs : w.heap.size < V.heap.size := by rw [← hV]; simp
  clear hV
  have TV := T0.app (c0.keep hB)
  have HT0 := Lib.hid T0
  have HB := Lib.hid hB
  clear T0 c0 hB
  refine wp_region_held_drew (S := (fun W' : World => Cells W' (blk w.heap.size 0 0 [.int .i64 ki, .int .i64 ak, .int .u16 ha, .int .u16 la, .int .u64 hi, .int .u64 lo, .int .i64 of, .int .i64 mt, .int .i64 co, .bool cm, .slice a1 n c, .slice (some ⟨b, off, none⟩) m d] ++ blk b (off + 0 * 5) 0 [.int .u16 xa, .int .u16 xl, .int .u64 xh, .int .u64 xo, .slice aa an ac]))) (by kernel_rfl) (TV.drew) (fun hHeld => ?_)
  refine wpAnyH_take (i := 0) (oi := _) (v := ?_) (by rw [List.getElem?_toArray]; rfl) (by kernel_rfl) (by kernel_rfl) (by kernel_rfl) (by exact fun _ _ _ h => h) (Or.inl ⟨by rfl, ?_⟩) (by assumption) ?_
  rotate_left
  · intro w hSw
    try simp only [Cells, blk, List.cons_append, List.nil_append, and_true, Nat.reduceAdd, Nat.add_zero, Nat.zero_add] at hSw
    go_simp
    try with_reducible rfl
  simp only [Act.put, List.setIfInBounds_toArray, List.set_cons_zero, List.set_cons_succ]
  refine wpAnyH_take (i := 1) (oi := _) (v := ?_) (by rw [List.getElem?_toArray]; rfl) (by kernel_rfl) (by kernel_rfl) (by kernel_rfl) (by exact fun _ _ _ h => h) (Or.inl ⟨by rfl, ?_⟩) (by assumption) ?_
  rotate_left
  · intro w hSw
    try simp only [Cells, blk, List.cons_append, List.nil_append, and_true, Nat.reduceAdd, Nat.add_zero, Nat.zero_add] at hSw
    go_simp
    try with_reducible rfl
  simp only [Act.put, List.setIfInBounds_toArray, List.set_cons_zero, List.set_cons_succ]
  refine wpAnyH_take (i := 2) (oi := _) (v := ?_) (by rw [List.getElem?_toArray]; rfl) (by kernel_rfl) (by kernel_rfl) (by kernel_rfl) (by exact fun _ _ _ h => h) (Or.inl ⟨by rfl, ?_⟩) (by assumption) ?_
  rotate_left
  · intro w hSw
    try simp only [Cells, blk, List.cons_append, List.nil_append, and_true, Nat.reduceAdd, Nat.add_zero, Nat.zero_add] at hSw
    go_simp
    try with_reducible rfl
  simp only [Act.put, List.setIfInBounds_toArray, List.set_cons_zero, List.set_cons_succ]
  refine wpAnyH_take (i := 3) (oi := _) (v := ?_) (by rw [List.getElem?_toArray]; rfl) (by kernel_rfl) (by kernel_rfl) (by kernel_rfl) (by exact fun _ _ _ h => h) (Or.inl ⟨by rfl, ?_⟩) (by assumption) ?_
  rotate_left
  · intro w hSw
    try simp only [Cells, blk, List.cons_append, List.nil_append, and_true, Nat.reduceAdd, Nat.add_zero, Nat.zero_add] at hSw
    go_simp
    try with_reducible rfl
  simp only [Act.put, List.setIfInBounds_toArray, List.set_cons_zero, List.set_cons_succ]
  refine wpAnyH_take (i := 4) (oi := _) (v := ?_) (by rw [List.getElem?_toArray]; rfl) (by kernel_rfl) (by kernel_rfl) (by kernel_rfl) (by exact fun _ _ _ h => h) (Or.inl ⟨by rfl, ?_⟩) (by assumption) ?_
  rotate_left
  · intro w hSw
    try simp only [Cells, blk, List.cons_append, List.nil_append, and_true, Nat.reduceAdd, Nat.add_zero, Nat.zero_add] at hSw
    go_simp
    try with_reducible rfl
  simp only [Act.put, List.setIfInBounds_toArray, List.set_cons_zero, List.set_cons_succ]
  refine wpAnyH_take (i := 5) (oi := _) (v := ?_) (by rw [List.getElem?_toArray]; rfl) (by kernel_rfl) (by kernel_rfl) (by kernel_rfl) (by exact fun _ _ _ h => h) (Or.inl ⟨by rfl, ?_⟩) (by assumption) ?_
  rotate_left
  · intro w hSw
    try simp only [Cells, blk, List.cons_append, List.nil_append, and_true, Nat.reduceAdd, Nat.add_zero, Nat.zero_add] at hSw
    go_simp
    try with_reducible rfl
  simp only [Act.put, List.setIfInBounds_toArray, List.set_cons_zero, List.set_cons_succ]
  refine wpAnyH_ready (rs := [6]) (by kernel_rfl) (by simp) (AllReadyH.cons (o := _) (by rw [List.getElem?_toArray]; rfl) (fun K hK => ?_) AllReadyH.nil)
  go_simp
  go_at_call 55
  refine (HSZ.out _).mono ?_
  rintro e w2 ⟨rfl, hB2⟩
  have TW := Cells.keep (W := V.drew) TV.drew hB2
  have hb2 : Below V.heap.size V w2 := (Below.refl V.heap.size V).drew.trans hB2
  clear hHeld
  refine hK.out _ _ (TW) (fun hHeld => ?_)
  clear hK K
  try simp only [Act.put, List.setIfInBounds_toArray, List.set_cons_zero, List.set_cons_succ]
  refine wpAnyH_take (i := 7) (oi := _) (v := ?_) (by rw [List.getElem?_toArray]; rfl) (by kernel_rfl) (by kernel_rfl) (by kernel_rfl) (by exact fun _ _ _ h => h) (Or.inl ⟨by rfl, ?_⟩) (by assumption) ?_
  rotate_left
  · intro w hSw
    try simp only [Cells, blk, List.cons_append, List.nil_append, and_true, Nat.reduceAdd, Nat.add_zero, Nat.zero_add] at hSw
    go_simp
    try with_reducible rfl
  simp only [Act.put, List.setIfInBounds_toArray, List.set_cons_zero, List.set_cons_succ]
  refine wpAnyH_done (by kernel_rfl) ?_ _
  have hBW := HB.out.trans (hb2.mono HB.out.size)
  have T12 := HT0.out.keep hb2
  have HBP := Lib.hid (bP0.below hb2)
  have HBW := Lib.hid hBW
  have HT12 := Lib.hid T12
  have hws : w.heap.size < w2.heap.size := Nat.lt_of_lt_of_le hVs hb2.size
  clear TW TV hHeld hB2 hb2 HT0 HB bP0
  have TO := HT12.out
  have hOpen := TO
  simp only [Cells, blk, List.cons_append, List.nil_append, and_true, Nat.reduceAdd, Nat.add_zero, Nat.zero_add] at hOpen
  obtain ⟨y0, y1, y2, y3, y4, y5, y6, y7, y8, y9, yA, yB⟩ := hOpen
  clear TO
  have hbit := fun W => bit_any (decide (4 < L)) W
  go_upto_if 16 with fail
  go_cut [3] (fun x wx => x = .int .i64 (N0 : Nat) ∧ wx = w2)
  case first =>
    by_cases h5 : ki = 5
    · have t1 : (ki == 5) = true := by simpa using h5
      have hN : N0 = if 4 < L then 2 else 1 := by rw [← HN0.out, if_pos h5]
      clear h5
      by_cases h4 : 4 < L
      · have t2 : decide (4 < L) = true := by simpa using h4
        have t2' : decide ((4 : Int) < (L : Int)) = true := by simp; omega
        rw [if_pos h4] at hN
        subst hN
        rw [t2] at hbit
        simp only [show bitI true = 1 from rfl, show bitI false = 0 from rfl] at hbit
        clear h4
        go_wp2_with (go_at_call 56; refine (hbit _).mono ?_; rintro e w' ⟨rfl, rfl⟩)
        go_meet
        case rel => exact ⟨by simp, rfl⟩
      · have t2 : decide (4 < L) = false := by simpa using h4
        have t2' : decide ((4 : Int) < (L : Int)) = false := by simp; omega
        rw [if_neg h4] at hN
        subst hN
        rw [t2] at hbit
        simp only [show bitI true = 1 from rfl, show bitI false = 0 from rfl] at hbit
        clear h4
        go_wp2_with (go_at_call 56; refine (hbit _).mono ?_; rintro e w' ⟨rfl, rfl⟩)
        go_meet
        case rel => exact ⟨by simp, rfl⟩
    · have t1 : (ki == 5) = false := by simpa using h5
      have hN : N0 = L := by rw [← HN0.out, if_neg h5]
      subst hN
      clear h5
      go_wp2
      go_meet
      case rel => exact ⟨rfl, rfl⟩
  case rest =>
  obtain ⟨rfl, rfl⟩ := hcut
  rename World => V2
  have eb := byt0 N0
  have ho := own_lit V2 [.int .u8 (byt N0 0 : Nat)] 1 5 rfl (by decide)
  have hB2 := HBW.out.alloc HBW.out.size (.cells #[.int .u8 (byt N0 0 : Nat)] 5)
  have T2 := HT12.out.keep ((Below.refl V2.heap.size V2).alloc (Nat.le_refl _) (.cells #[.int .u8 (byt N0 0 : Nat)] 5))
  have HO := Lib.hid (own_base ho (Nat.le_of_lt hws))
  have HB2 := Lib.hid hB2
  have HT2 := Lib.hid T2
  have HBP2 := Lib.hid (HBP.out.below ((Below.refl V2.heap.size V2).alloc (Nat.le_refl _) (.cells #[.int .u8 (byt N0 0 : Nat)] 5)))
  clear hB2 T2 ho hbit
  go_upto_region 5 with fail
  generalize hX : World.alloc _ _ = X at HO HB2 HT2 HBP2 ⊢
  have hXs : w.heap.size < X.heap.size := by rw [← hX]; simp; omega
  clear hX eb y0 y1 y2 y3 y4 y5 y6 y7 y8 y9 yA yB
  have TO := HT2.out
  have hOpen := TO
  simp only [Cells, blk, List.cons_append, List.nil_append, and_true, Nat.reduceAdd, Nat.add_zero, Nat.zero_add] at hOpen
  obtain ⟨y0, y1, y2, y3, y4, y5, y6, y7, y8, y9, yA, yB⟩ := hOpen
  clear TO
  go_wp2
  clear y0 y1 y2 y3 y4 y5 y6 y7 y8 y9 yA yB
  have hd0 : itsTo ki its 0 = [] := rfl
  go_loopw [4, 6, 27] (fun v _ i wr => ∃ k : Nat, i = .int .i64 k ∧ k ≤ m ∧ wr.ownsRow w.heap.size 5 1 v (byt N0 0 :: itsTo ki its k).length (bcells (byt N0 0 :: itsTo ki its k)) ∧ Blk wr w.heap.size 29 [.int .i64 ki, .int .i64 ak, .int .u16 ha, .int .u16 la, .int .u64 hi, .int .u64 lo, .int .i64 of, .int .i64 mt, .int .i64 co, .bool cm, .slice a1 n c, .slice (some ⟨b, off, none⟩) m d] ∧ Below w.heap.size w wr) (fun _ _ i _ => m - (intOf i).toNat)
  case atStart => exact ⟨0, by simp, Nat.zero_le _, HO.out, HBP2.out, HB2.out⟩
  case round =>
    obtain ⟨k, rfl, hk, hown, hbP, hBr⟩ := hrel
    have w1 : IntKind.i64.wrap ((k : Int) + 1) = (k : Int) + 1 := IntWalk.i64_in _ (by omega)
    by_cases hlt : k < m
    · have g1 : decide (k < m) = true := by simpa using hlt
      have hkl : k < its.length := by rw [HLEN.out]; exact hlt
      have cK := (HCE.out k hkl).keep hBr
      have okK := (HOK.out _ (List.getElem_mem hkl)).below hBr
      have hnK := HBN.out _ (List.getElem_mem hkl)
      have hst := itsTo_succ ki its k hkl
      have hlt1 := HTOT.out k
      obtain ⟨t, ht⟩ : ∃ t, its[k] = t := ⟨_, rfl⟩
      rw [ht] at cK okK hnK hst
      have hnew : Below wr.heap.size wr (wr.alloc (.cells (itc t).toArray 46)) := (Below.refl _ _).alloc (Nat.le_refl _) _
      have hel := element_any ki t _ (okK.below hnew) hnK
      have hil := itB_len ki t okK.2.2.2.2.1
      have hih := sizeI_hi ki t.hi t.lo t.n
      obtain ⟨J, hJ⟩ : ∃ J, byt N0 0 :: itsTo ki its k = J := ⟨_, rfl⟩
      have hJl : J.length ≤ 1 + k * 1000018 := by rw [← hJ, List.length_cons]; omega
      have hkm : k * 1000018 ≤ 1000 * 1000018 := Nat.mul_le_mul_right _ (by omega)
      obtain ⟨M, hM⟩ : ∃ M, J.length = M := ⟨_, rfl⟩
      rw [hJ, hM] at hown
      rw [hM] at hJl
      obtain ⟨E, hE⟩ : ∃ E, itB ki t = E := ⟨_, rfl⟩
      rw [hE] at hst hel hil
      obtain ⟨EL, hEL⟩ : ∃ L, E.length = L := ⟨_, rfl⟩
      rw [hEL] at hil
      have hELb : EL ≤ 1000018 := by omega
      have hMb : M ≤ 1000018001 := by omega
      obtain ⟨xa, xl, xh, xo, aa, an, ac, abs⟩ := t
      simp only [itc] at cK hnew hel
      have hcP := hbP.cells
      have hwr := hbP.lt
      have HOWN := Lib.hid (fun w' hb => own_below (w' := w') (hown.alloc (.cells #[.int .u16 xa, .int .u16 xl, .int .u64 xh, .int .u64 xo, .slice aa an ac] 46)) hb)
      have HBPn := Lib.hid (hbP.below hnew)
      have HBrn := Lib.hid (hBr.alloc hBr.size (.cells #[.int .u16 xa, .int .u16 xl, .int .u64 xh, .int .u64 xo, .slice aa an ac] 46))
      have HNEXT : Hid (byt N0 0 :: itsTo ki its (k + 1) = J ++ E) := Lib.hid (by rw [hst, ← hJ]; rfl)
      have HEL := Lib.hid hEL
      have HMl := Lib.hid hM
      have HELM := Lib.hid hel
      have TK := cK.app hcP
      clear hst hJ hM hE hEL hel hnew okK hkl ht hown hbP hBr cK hcP hil hih hlt1 hJl hkm
      have hOpen := TK
      simp only [Cells, blk, List.cons_append, List.nil_append, and_true, Nat.reduceAdd, Nat.add_zero, Nat.zero_add] at hOpen
      obtain ⟨x0, x1, x2, x3, x4, y0, y1, y2, y3, y4, y5, y6, y7, y8, y9, yA, yB⟩ := hOpen
      clear TK
      go_wp2_with fail
      refine HELM.out.mono ?_
      rintro e w3 ⟨v3, rfl, hv3, hB3⟩
      have hs3 : SR w3 v3 EL 1 (bcells E) := by have := hv3.1; rw [HEL.out] at this; exact this
      have ho3 := HOWN.out _ hB3
      have hB3' := HBrn.out.trans (hB3.mono HBrn.out.size)
      have hbP3 := HBPn.out.below hB3
      clear x0 x1 x2 x3 x4 y0 y1 y2 y3 y4 y5 y6 y7 y8 y9 yA yB hB3 hv3
      go_wp2_with (at_builtin; refine wpList_append_all rfl _ _ 26 rfl w.heap.size 5 i0 (.int .u8 0) 1 1 Try.underlying26 hii hz0 hz1 hz2 rfl (by decide) _ M _ rfl ho3 _ EL (bcells E) rfl hs3 (by unfold maxLen; omega) (by omega) hB3'.size ?_)
      intro v' w4 hown' hgrow _
      have hB4 : Below w.heap.size w w4 := hB3'.grown hgrow hB3'.size (fun j hj => (ho3.lt j hj).1)
      have hbP4 := hbP3.kept hgrow (hbP3.not_row (by decide) ho3)
      have HR : Hid (w4.ownsRow w.heap.size 5 1 v' (byt N0 0 :: itsTo ki its (k + 1)).length (bcells (byt N0 0 :: itsTo ki its (k + 1)))) := Lib.hid (by
        rw [HNEXT.out, List.length_append, HMl.out, HEL.out]
        simpa [bcells] using hown')
      clear hown' hgrow ho3 hs3 hbP3 hB3'
      go_wp2
      refine ⟨⟨k + 1, by simp, hlt, HR.out, hbP4, hB4⟩, ?_⟩
      simp [intOf]
      omega
    · have g1 : decide (k < m) = false := by simpa using hlt
      obtain rfl : m = k := by omega
      have h := hown
      rw [← HEL.out] at h
      have hby := bytesAt_of_own h rfl HLT.out (by have := HEB.out; omega)
      clear h hown
      go_wp2
      go_ret
      exact ⟨_, rfl, hby, HEB.out, hBr⟩
end Go.Proofs.Ythnffdlnhfhabaa
