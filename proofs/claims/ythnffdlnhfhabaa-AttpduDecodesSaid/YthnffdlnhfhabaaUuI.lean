/- uuid: Encode. -/
import Derived.Test.YthnffdlnhfhabaaUuD
import Derived.Test.YthnffdlnhfhabaaUuG
namespace Go.Proofs.Ythnffdlnhfhabaa
open Go.RowKit

theorem step_append_at {P : Program} {w : World} {ops : Array Oper} {o : Oper} {a : Act} {K : Act → World → Prop} {Q : Exit → Act → World → Prop} {E : Prop} (hgd : o.guard = none) (s x : Operand) (t : TypeId)
    (ho : o.op = .call { callee := .builtin .append, args := #[s, x], argTypes := #[t, t] })
    (base : Nat) (e : TypeId) (i : TypeInfo) (z : Value) (size bytes : Nat) (ht : P.underlying t = some (.slice e)) (hi : P.info? e = some i) (hz : i.zero = some z)
    (hsize : i.size = size) (hby : i.bytes = bytes) (hzs : z.cells.size = size) (hsz : 0 < size)
    (v : Value) (n : Nat) (xs : List Value) (hs : a.eval s = v) (hown : w.ownsRow base e size v n xs)
    (ad : Addr) (m c : Nat) (news : List Value) (hx : a.eval x = .slice (some ad) m c) (hl : news.length = m * size) (hnews : ∀ j u, news[j]? = some u → w.cell? (ad.add j) = some u) (h1 : ∀ u ∈ news, u.oneCell' = true)
    (h63 : n + m ≤ maxLen) (hbytes : (n + m) * bytes ≤ 140737488355328) (hbase : base ≤ w.heap.size)
    (h : ∀ v' w', w'.ownsRow base e size v' (n + m) (xs ++ news) → w.grownBy w' v.ownBlock → (v' = .slice none 0 0 → v = .slice none 0 0) → K (a.put o.dst v') w') :
    if Region.wanted o (yielded ops a.tmps) = true then Oper.wp P o a w K Q else E := by
  have hw : Region.wanted o (yielded ops a.tmps) = true := by simp [Region.wanted, hgd]
  rw [if_pos hw]
  obtain ⟨v', w', hr, h2, h3, h4, _⟩ := run_append_own_at (P := P) w base t o.type e i z size bytes ht hi hz hsize hby hzs hsz v n xs hown ad m c news hl hnews h1 h63 hbytes hbase
  unfold Oper.wp execOp
  simp only [ho, resolve, invoke, builtin, Sem.run_bind, Sem.run_pure, Result.andThen_ok, List.map_toArray, List.map_cons, List.map_nil, hs, hx, hr]
  exact h v' w' h2 h3 (fun e => (h4.1 e).1)
theorem own_news {w : World} {base e n cap : Nat} {g : Nat} {xs : List Value} (h : w.ownsRow base e 1 (.slice (some ⟨g, 0, none⟩) n cap) n xs) (o : Nat) : ∀ j u, (xs.drop o)[j]? = some u → w.cell? ((⟨g, o, none⟩ : Addr).add j) = some u := by
  intro j u hj
  have ha : (⟨g, o, none⟩ : Addr).add j = ⟨g, o + j, none⟩ := by unfold Addr.add; split <;> simp_all
  rw [List.getElem?_drop] at hj
  have hl := (List.getElem?_eq_some_iff.1 hj).1
  rw [h.1] at hl
  rw [ha, h.cellAt (o + j) (by omega), hj]

theorem putB_b16 (hi lo : Nat) : putB lo 8 ++ putB hi 8 = b16 hi lo := rfl
/-- the bytes of a UUID -/
def encB (hi lo : Nat) : List Nat := if isShort hi lo then putB (numV hi) 2 else b16 hi lo
theorem encB_lt (hi lo : Nat) : ∀ x ∈ encB hi lo, x < 256 := by
  unfold encB
  split
  · exact putB_lt _ _
  · intro x hx
    rw [← putB_b16] at hx
    rcases List.mem_append.1 hx with h | h
    · exact putB_lt _ _ x h
    · exact putB_lt _ _ x h
theorem encB_len (hi lo : Nat) : (encB hi lo).length = if isShort hi lo then 2 else 16 := by
  unfold encB
  split
  · exact putB_len _ _
  · rw [← putB_b16, List.length_append, putB_len, putB_len]
theorem bytesAt_of_own {w : World} {base n : Nat} {v : Value} {bs : List Nat} (h : w.ownsRow base 5 1 v n (bcells bs)) (hl : bs.length = n) (hb : ∀ x ∈ bs, x < 256) (hm : n ≤ 1099511627776) : BytesAt w v bs := by
  subst hl
  exact ⟨SR.of_own h (bcells_one bs) (by unfold maxLen; omega), by unfold reachBytes; omega, hb⟩
theorem bytesAt_of_blk {w : World} {B n cap : Nat} {t : TypeId} {bs : List Nat} (h : Blk w B t (bcells bs)) (hl : bs.length = n) (hb : ∀ x ∈ bs, x < 256) (hm : n ≤ 1099511627776) : BytesAt w (.slice (some ⟨B, 0, none⟩) n cap) bs := by
  subst hl
  refine ⟨⟨by unfold maxLen; omega, by simp [bcells], bcells_one bs, some ⟨B, 0, none⟩, cap, rfl, fun h => (by cases h), fun _ => ⟨B, 0, rfl, h.lt, fun j u hj => ?_⟩⟩, by unfold reachBytes; omega, hb⟩
  rw [Nat.zero_add]
  exact h.cell hj
set_option linter.unusedSimpArgs false in
set_option linter.unusedVariables false in
set_option maxRecDepth 100000 in
set_option maxHeartbeats 2000000 in
theorem encode_any (hi lo : Nat) (hh : hi < 18446744073709551616) (hl : lo < 18446744073709551616) (w : World) :
    Calls Try.prog 32 #[.agg #[.int .u64 hi, .int .u64 lo]] w fun e w' => ∃ v, e = .returned v ∧ BytesAt w' v (encB hi lo) ∧ Below w.heap.size w w' := by
  have T := cells_new w [.int .u64 hi, .int .u64 lo] 25
  have hB := (Below.refl w.heap.size w).alloc (Nat.le_refl _) (.cells #[.int .u64 hi, .int .u64 lo] 25)
  have hnum := fun W => number_any hi lo hh hl W
  obtain ⟨b, hb⟩ : ∃ b, isShort hi lo = b := ⟨_, rfl⟩
  have hn : numI hi lo = if b then (numV hi : Int) else 0 := by unfold numI; rw [hb]
  rw [hn, hb] at hnum
  have henc : encB hi lo = if b then putB (numV hi) 2 else b16 hi lo := by unfold encB; rw [hb]
  have HENC := Lib.hid henc
  have HNUM := Lib.hid hnum
  have HT := Lib.hid T
  have hnv : numV hi < 65536 := Nat.mod_lt _ (by decide)
  obtain ⟨N, hN⟩ : ∃ N, numV hi = N := ⟨_, rfl⟩
  rw [hN] at HENC HNUM hnv
  have LT := encB_lt hi lo
  have HLT := Lib.hid LT
  clear hnum hb hn henc T LT hh hl hN
  cases b
  · simp only [Bool.false_eq_true, if_false] at HENC HNUM
    go_enter Try.func32, Try.ntmps32
    go_wp2_with fail
    go_at_call 52
    refine (HNUM.out _).mono ?_
    rintro e w1 ⟨rfl, hB1⟩
    have T1 := HT.out.keep hB1
    have hBw1 := hB.trans (hB1.mono hB.size)
    clear hB1 hB
    have hOpen := T1
    simp only [Cells, blk, List.cons_append, List.nil_append, and_true, Nat.reduceAdd, Nat.add_zero, Nat.zero_add] at hOpen
    obtain ⟨m0, m1⟩ := hOpen
    go_wp2_with fail
    go_at_call 53
    refine (bytes_any hi lo _).mono ?_
    rintro e w2 ⟨rfl, hB2⟩
    have hBw2 := hBw1.trans (hB2.mono hBw1.size)
    have bA := Blk.new w2 78 [.int .u8 (byt lo 0 : Nat), .int .u8 (byt lo 1 : Nat), .int .u8 (byt lo 2 : Nat), .int .u8 (byt lo 3 : Nat), .int .u8 (byt lo 4 : Nat), .int .u8 (byt lo 5 : Nat), .int .u8 (byt lo 6 : Nat), .int .u8 (byt lo 7 : Nat), .int .u8 (byt hi 0 : Nat), .int .u8 (byt hi 1 : Nat), .int .u8 (byt hi 2 : Nat), .int .u8 (byt hi 3 : Nat), .int .u8 (byt hi 4 : Nat), .int .u8 (byt hi 5 : Nat), .int .u8 (byt hi 6 : Nat), .int .u8 (byt hi 7 : Nat)]
    have hB3 := hBw2.alloc hBw2.size (.cells #[.int .u8 (byt lo 0 : Nat), .int .u8 (byt lo 1 : Nat), .int .u8 (byt lo 2 : Nat), .int .u8 (byt lo 3 : Nat), .int .u8 (byt lo 4 : Nat), .int .u8 (byt lo 5 : Nat), .int .u8 (byt lo 6 : Nat), .int .u8 (byt lo 7 : Nat), .int .u8 (byt hi 0 : Nat), .int .u8 (byt hi 1 : Nat), .int .u8 (byt hi 2 : Nat), .int .u8 (byt hi 3 : Nat), .int .u8 (byt hi 4 : Nat), .int .u8 (byt hi 5 : Nat), .int .u8 (byt hi 6 : Nat), .int .u8 (byt hi 7 : Nat)] 78)
    clear hB2 hBw1 hBw2 T1 m0 m1
    go_upto_region 5 with fail
    generalize hX : w2.alloc (.cells _ 78) = X at bA hB3 ⊢
    clear hX
    have hby : BytesAt X (.slice (some ⟨w2.heap.size, 0, none⟩) 16 16) (b16 hi lo) := bytesAt_of_blk (bs := b16 hi lo) bA (by simp [b16]) (by have := HLT.out; rwa [HENC.out] at this) (by omega)
    have hal := (Below.refl X.heap.size X).alloc (Nat.le_refl _) (.cells #[.slice (some ⟨w2.heap.size, 0, none⟩) 16 16] 26)
    have bP := Blk.new X 26 [.slice (some ⟨w2.heap.size, 0, none⟩) 16 16]
    have hjoin := join_any (.slice (some ⟨X.heap.size, 0, none⟩) 1 1) [(.slice (some ⟨w2.heap.size, 0, none⟩) 16 16, b16 hi lo)] _ ⟨by unfold maxLen; simp, by simp, by simp [Value.oneCell'], some ⟨X.heap.size, 0, none⟩, 1, rfl, fun h => (by cases h), fun _ => ⟨X.heap.size, 0, rfl, bP.lt, fun j u hj => by rw [Nat.zero_add]; exact bP.cell hj⟩⟩ (by simp; exact hby.below hal) (by simp [b16]) (by simp)
    have HJ := Lib.hid hjoin
    have hB4 := hB3.trans (hal.mono hB3.size)
    clear hjoin hby hal bP bA hB3
    go_wp2_with fail
    go_at_call 54
    refine HJ.out.mono ?_
    rintro e w5 ⟨v5, rfl, hown, hB5⟩
    have hby : BytesAt w5 v5 (encB hi lo) := by
      rw [HENC.out]
      simp only [List.flatMap_cons, List.flatMap_nil, List.append_nil] at hown
      exact bytesAt_of_own hown rfl (by have := HLT.out; rwa [HENC.out] at this) (by simp [b16])
    have HBY := Lib.hid hby
    have hB6 := hB4.trans (hB5.mono hB4.size)
    clear hown hB5 hB4 hby HJ
    go_wp2
    go_ret
    exact ⟨_, rfl, HBY.out, hB6⟩
  · simp only [if_true] at HENC HNUM
    have e1 : IntKind.u8.wrap (N : Int) = ((byt N 0 : Nat) : Int) := by
      have := byt_wrap N 0
      simpa using this
    have e2 : IntKind.u8.wrap ((N : Int) / 256) = ((byt N 1 : Nat) : Int) := by
      have := byt_wrap N 1
      simpa using this
    have n1 : (N : Int) < 65536 := by omega
    go_enter Try.func32, Try.ntmps32
    go_wp2_with fail
    go_at_call 52
    refine (HNUM.out _).mono ?_
    rintro e w1 ⟨rfl, hB1⟩
    have hBw1 := hB.trans (hB1.mono hB.size)
    clear hB1 hB
    go_wp2
    go_ret
    refine ⟨_, rfl, ?_, hBw1.alloc hBw1.size _⟩
    have bA := Blk.new w1 5 [.int .u8 (byt N 0 : Nat), .int .u8 (byt N 1 : Nat)]
    refine bytesAt_of_blk (t := 5) (bs := encB hi lo) ?_ (by rw [HENC.out]; simp [putB]) HLT.out (by omega)
    rw [HENC.out]
    exact bA
set_option linter.unusedSimpArgs false in
set_option linter.unusedVariables false in
set_option maxRecDepth 100000 in
set_option maxHeartbeats 2000000 in
theorem rencode_any (hi lo : Nat) (hh : hi < 18446744073709551616) (hl : lo < 18446744073709551616) (w : World) :
    Calls Try.prog 37 #[.agg #[.int .u64 hi, .int .u64 lo]] w fun e w' => ∃ v, e = .returned v ∧ BytesAt w' v (encB hi lo) ∧ Below w.heap.size w w' := by
  obtain ⟨i0, hi0, hz0, hz1, hz2⟩ := info_parts Try.info_u8
  have T := cells_new w [.int .u64 hi, .int .u64 lo] 25
  have hB := (Below.refl w.heap.size w).alloc (Nat.le_refl _) (.cells #[.int .u64 hi, .int .u64 lo] 25)
  have hnum := fun W => rnumber_any hi lo hh hl W
  obtain ⟨b, hb⟩ : ∃ b, isShort hi lo = b := ⟨_, rfl⟩
  have hn : numI hi lo = if b then (numV hi : Int) else 0 := by unfold numI; rw [hb]
  rw [hn, hb] at hnum
  have henc : encB hi lo = if b then putB (numV hi) 2 else b16 hi lo := by unfold encB; rw [hb]
  have HENC := Lib.hid henc
  have HNUM := Lib.hid hnum
  have HT := Lib.hid T
  have hnv : numV hi < 65536 := Nat.mod_lt _ (by decide)
  obtain ⟨N, hN⟩ : ∃ N, numV hi = N := ⟨_, rfl⟩
  rw [hN] at HENC HNUM hnv
  have LT := encB_lt hi lo
  have HLT := Lib.hid LT
  have hP1 := fun W => put_any lo 8 hl (by omega) W
  have hP2 := fun W => put_any hi 8 hh (by omega) W
  have HP1 := Lib.hid hP1
  have HP2 := Lib.hid hP2
  clear hnum hb hn henc T LT hh hl hN hP1 hP2
  cases b
  · simp only [Bool.false_eq_true, if_false] at HENC HNUM
    go_enter Try.func37, Try.ntmps37
    go_wp2_with fail
    go_at_call 58
    refine (HNUM.out _).mono ?_
    rintro e w1 ⟨rfl, hB1⟩
    have T1 := HT.out.keep hB1
    have hBw1 := hB.trans (hB1.mono hB.size)
    clear hB1 hB
    go_upto_region 4 with fail
    refine wp_region_held_drew (S := (fun W' : World => Below w1.heap.size w1 W' ∧ w1.heap.size ≤ W'.heap.size ∧ Cells W' (blk w.heap.size 0 0 [.int .u64 hi, .int .u64 lo]))) (by kernel_rfl) (⟨(Below.refl _ _).drew, Nat.le_refl _, T1.drew⟩) (fun hHeld => ?_)
    generalize World.drew _ = wd at hHeld ⊢
    have hz := hHeld.2.1
    refine wpAnyH_take (i := 0) (oi := _) (v := ?_) (by rw [List.getElem?_toArray]; rfl) (by kernel_rfl) (by kernel_rfl) (by kernel_rfl) (by exact fun _ _ _ h => h) (Or.inl ⟨by rfl, ?_⟩) (by assumption) ?_
    rotate_left
    · intro w hSw
      try simp only [Cells, blk, List.cons_append, List.nil_append, and_true, Nat.reduceAdd, Nat.add_zero, Nat.zero_add] at hSw
      go_simp
      try with_reducible rfl
    simp only [Act.put, List.setIfInBounds_toArray, List.set_cons_zero, List.set_cons_succ]
    refine wpAnyH_take (i := 1) (oi := _) (v := ?_) (by rw [List.getElem?_toArray]; rfl) (by kernel_rfl) (by kernel_rfl) (by kernel_rfl) (by exact fun _ _ _ h => h) (Or.inl ⟨by rfl, ?_⟩) (by assumption) ?_
    rotate_left
    · intro w hSw
      try simp only [Cells, blk, List.cons_append, List.nil_append, and_true, Nat.reduceAdd, Nat.add_zero, Nat.zero_add] at hSw
      go_simp
      try with_reducible rfl
    simp only [Act.put, List.setIfInBounds_toArray, List.set_cons_zero, List.set_cons_succ]
    refine wpAnyH_take (i := 3) (oi := _) (v := ?_) (by rw [List.getElem?_toArray]; rfl) (by kernel_rfl) (by kernel_rfl) (by kernel_rfl) (by exact fun _ _ _ h => h) (Or.inl ⟨by rfl, ?_⟩) (by assumption) ?_
    rotate_left
    · intro w hSw
      try simp only [Cells, blk, List.cons_append, List.nil_append, and_true, Nat.reduceAdd, Nat.add_zero, Nat.zero_add] at hSw
      go_simp
      try with_reducible rfl
    simp only [Act.put, List.setIfInBounds_toArray, List.set_cons_zero, List.set_cons_succ]
    refine wpAnyH_take (i := 4) (oi := _) (v := ?_) (by rw [List.getElem?_toArray]; rfl) (by kernel_rfl) (by kernel_rfl) (by kernel_rfl) (by exact fun _ _ _ h => h) (Or.inl ⟨by rfl, ?_⟩) (by assumption) ?_
    rotate_left
    · intro w hSw
      try simp only [Cells, blk, List.cons_append, List.nil_append, and_true, Nat.reduceAdd, Nat.add_zero, Nat.zero_add] at hSw
      go_simp
      try with_reducible rfl
    simp only [Act.put, List.setIfInBounds_toArray, List.set_cons_zero, List.set_cons_succ]
    refine wpAnyH_ready (rs := [2]) (by kernel_rfl) (by simp) (AllReadyH.cons (o := _) (by rw [List.getElem?_toArray]; rfl) (fun K hK => ?_) AllReadyH.nil)
    go_simp
    go_at_call 36
    refine (HP1.out _).mono ?_
    rintro e wb ⟨va, rfl, hoa, hBb⟩
    have hoa := own_base hoa hHeld.2.1
    try replace hob := own_below hob hBb
    refine hK.out _ _ (⟨hHeld.1.trans (hBb.mono hHeld.2.1), Nat.le_trans hHeld.2.1 hBb.size, hHeld.2.2.keep hBb⟩) (fun hHeld2 => ?_)
    replace hHeld := hHeld2
    clear hK K hHeld2
    try simp only [Act.put, List.setIfInBounds_toArray, List.set_cons_zero, List.set_cons_succ]
    refine wpAnyH_ready (rs := [5]) (by kernel_rfl) (by simp) (AllReadyH.cons (o := _) (by rw [List.getElem?_toArray]; rfl) (fun K hK => ?_) AllReadyH.nil)
    go_simp
    go_at_call 36
    refine (HP2.out _).mono ?_
    rintro e wb ⟨vb, rfl, hob, hBb⟩
    have hob := own_base hob hHeld.2.1
    obtain ⟨gb, cb, rfl⟩ := ownsRow_succ (k := 7) hob
    try replace hoa := own_below hoa hBb
    refine hK.out _ _ (⟨hHeld.1.trans (hBb.mono hHeld.2.1), Nat.le_trans hHeld.2.1 hBb.size, hHeld.2.2.keep hBb⟩) (fun hHeld2 => ?_)
    replace hHeld := hHeld2
    clear hK K hHeld2
    try simp only [Act.put, List.setIfInBounds_toArray, List.set_cons_zero, List.set_cons_succ]
    refine wpAnyH_ready (rs := [6]) (by kernel_rfl) (by simp) (AllReadyH.cons (o := _) (by rw [List.getElem?_toArray]; rfl) (fun K hK => ?_) AllReadyH.nil)
    refine step_append_at (by rfl) _ _ 26 (by rfl) w1.heap.size 5 i0 _ 1 1 Try.underlying26 hi0 hz0 hz1 hz2 rfl (by decide) va 8 (bcells (putB lo 8)) (by rfl) hoa ⟨gb, 0, none⟩ 8 cb (bcells (putB hi 8)) (by rfl) (by simp [bcells, putB]) (own_news hob 0) (bcells_one _) (by decide) (by decide) hHeld.2.1 ?_
    intro v' w6 hown hg _
    have hB6 : Below w1.heap.size w1 w6 := hHeld.1.grown hg hHeld.2.1 (fun q hq => (hoa.lt q hq).1)
    have hown6 := hown
    refine hK.out _ _ (⟨hB6, Nat.le_trans hHeld.2.1 hg.size, T1.keep hB6⟩) (fun hHeld2 => ?_)
    replace hHeld := hHeld2
    clear hK K hHeld2
    try simp only [Act.put, List.setIfInBounds_toArray, List.set_cons_zero, List.set_cons_succ]
    refine wpAnyH_take (i := 7) (oi := _) (v := ?_) (by rw [List.getElem?_toArray]; rfl) (by kernel_rfl) (by kernel_rfl) (by kernel_rfl) (by exact fun _ _ _ h => h) (Or.inl ⟨by rfl, ?_⟩) (by assumption) ?_
    rotate_left
    · intro w hSw
      try simp only [Cells, blk, List.cons_append, List.nil_append, and_true, Nat.reduceAdd, Nat.add_zero, Nat.zero_add] at hSw
      go_simp
      try with_reducible rfl
    simp only [Act.put, List.setIfInBounds_toArray, List.set_cons_zero, List.set_cons_succ]
    refine wpAnyH_done (by kernel_rfl) ?_ _
    have hby : BytesAt w6 v' (encB hi lo) := bytesAt_of_own (by rw [HENC.out]; simpa [bcells, b16, putB] using hown6) (by rw [HENC.out]; simp [b16]) HLT.out (by omega)
    have HBY := Lib.hid hby
    have hB7 := hBw1.trans (hB6.mono hBw1.size)
    clear hown6 hby hoa hob hown hg
    go_wp2
    go_ret
    exact ⟨_, rfl, HBY.out, hB7⟩
  · simp only [if_true] at HENC HNUM
    have hP3 := fun W => put_any N 2 (by omega) (by omega) W
    have HP3 := Lib.hid hP3
    clear hP3
    go_enter Try.func37, Try.ntmps37
    go_wp2_with fail
    go_at_call 58
    refine (HNUM.out _).mono ?_
    rintro e w1 ⟨rfl, hB1⟩
    have hBw1 := hB.trans (hB1.mono hB.size)
    clear hB1 hB
    go_wp2_with fail
    go_at_call 36
    refine (HP3.out _).mono ?_
    rintro e w2 ⟨v2, rfl, ho2, hB2⟩
    have hby : BytesAt w2 v2 (encB hi lo) := bytesAt_of_own (by rw [HENC.out]; exact ho2) (by rw [HENC.out]; exact putB_len _ _) HLT.out (by omega)
    have HBY := Lib.hid hby
    have hB3 := hBw1.trans (hB2.mono hBw1.size)
    clear ho2 hby hB2 hBw1
    go_wp2
    go_ret
    exact ⟨_, rfl, HBY.out, hB3⟩
end Go.Proofs.Ythnffdlnhfhabaa
