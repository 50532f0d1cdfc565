/- uuid: Parse of the code. -/
import Derived.Test.YtolkjijnodejlaaDoorUuX
import Derived.Test.YtolkjijnodejlaaDoorUuS
import Derived.Test.YtolkjijnodejlaaDoorUuQ
import Derived.Test.YtolkjijnodejlaaDoorUuL
namespace Go.Proofs.YtolkjijnodejlaaDoor
open Go.RowKit

set_option maxRecDepth 100000 in
theorem u64_ben (l : List Nat) (x : Nat) (hl : ∀ y ∈ l, y < 256) (hk : l.length < 8) (hx : x < 256) :
    IntKind.u64.wrap (((benum l : Nat) : Int) * 256) = ((benum l : Nat) : Int) * 256 ∧ bits .or .u64 (((benum l : Nat) : Int) * 256) (x : Int) = ((benum (l ++ [x]) : Nat) : Int) := by
  have h1 := benum_lt (l ++ [x]) (fun y hy => by
    rcases List.mem_append.1 hy with h | h
    · exact hl y h
    · simp at h; omega) (by simp; omega)
  rw [benum_snoc] at h1 ⊢
  generalize benum l = B at h1 ⊢
  refine ⟨IntWalk.u64_in _ (by omega), ?_⟩
  have e : ((B : Int) * 256) = ((B * 256 : Nat) : Int) := by simp
  rw [e, u64_or_nat _ _ (by omega) (by omega)]
  have : B * 256 ||| x = B * 256 + x := by
    rw [show B * 256 = B <<< 8 by rw [Nat.shiftLeft_eq]]
    exact (Nat.shiftLeft_add_eq_or_of_lt (by simpa using hx) _).symm
  rw [this]
theorem or16b (a b : Nat) (ha : a < 256) (hb : b < 256) : bits .or .u16 ((a : Int) * 256) (b : Int) = ((a * 256 + b : Nat) : Int) := by
  have e : ((a : Int) * 256) = ((a * 256 : Nat) : Int) := by simp
  rw [e, u16_or_nat _ _ (by omega) (by omega)]
  have : a * 256 ||| b = a * 256 + b := by
    rw [show a * 256 = a <<< 8 by rw [Nat.shiftLeft_eq]]
    exact (Nat.shiftLeft_add_eq_or_of_lt (by simpa using hb) _).symm
  rw [this]
set_option linter.unusedSimpArgs false in
set_option linter.unusedVariables false in
set_option maxRecDepth 100000 in
set_option maxHeartbeats 2000000 in
theorem parse_any (ss : List Nat) (hb : ∀ x ∈ ss, x < 256) (hm : ss.length ≤ 100000) (M : Int) (w : World) (hc : w.cell? ⟨0, 0, none⟩ = some (.int .i64 M)) :
    Calls Tryd.prog 14 #[.string (strB ss)] w fun e w' => e = .returned (.tuple #[.agg #[.int .u64 ((prs ss).1 : Nat), .int .u64 ((prs ss).2.1 : Nat)], .int .i64 (prs ss).2.2]) ∧ Below w.heap.size w w' := by
  have hans := prs_C ss
  obtain ⟨⟨A, B, C⟩, hP⟩ : ∃ p, prs ss = p := ⟨_, rfl⟩
  rw [hP] at hans ⊢
  simp only
  have hcb := candC_bd ss
  obtain ⟨fs, hfs⟩ : ∃ fs, ss.filter (· != 45) = fs := ⟨_, rfl⟩
  have hfl : fs.length ≤ 100000 := by rw [← hfs]; exact Nat.le_trans (List.length_filter_le _ _) hm
  have hfb : ∀ x ∈ fs, x < 256 := fun x hx => by rw [← hfs] at hx; exact hb x (List.mem_filter.1 hx).1
  unfold candC at hans hcb
  rw [hfs] at hans hcb
  have hrep := fun W hW => Tryd.strings_ReplaceAll (strB ss) { data := #[45] } { data := #[] } M W (by rw [strB_size]; omega) hW (by simp [ByteArray.size]) (by rw [strB_size]; simp [ByteArray.size]; omega)
  rw [replaceAll_str ss hb, hfs] at hrep
  have hunh := fun W => unhex_any fs hfb W hfl
  have hB0 := (Below.refl w.heap.size w).alloc (Nat.le_refl _) (.cells #[.int .u64 0, .int .u64 0] 25)
  have bR := Blk.new w 25 [.int .u64 0, .int .u64 0]
  have hc1 := kc hc hB0
  have HB := Lib.hid hb
  have HR := Lib.hid bR
  have HREP := Lib.hid hrep
  have HUNH := Lib.hid hunh
  have HC1 := Lib.hid hc1
  have HCB := Lib.hid hcb
  have HAN := Lib.hid hans
  have hz := fun W => run_build0 W
  clear hm hb hP hfs hrep hunh bR hc hc1 hcb hans
  go_enter Tryd.func14, Tryd.ntmps14
  go_wp2_with fail
  go_at_call 27
  refine (HREP.out _ HC1.out).mono ?_
  rintro e w1 ⟨rfl, hB1⟩
  have hBw1 := hB0.trans (hB1.mono hB0.size)
  have bR1 := HR.out.below hB1
  go_wp2_with fail
  go_at_call 26
  refine (HUNH.out _).mono ?_
  intro e w2 hE
  rcases hE with ⟨hno, rfl, hB2⟩ | ⟨bs, v, hbs, rfl, hown, hB2⟩
  · have hBw2 := hBw1.trans (hB2.mono hBw1.size)
    have bR2 := bR1.below hB2
    have ha := HAN.out
    rw [hno] at ha
    simp only [ansO, Prod.mk.injEq] at ha
    obtain ⟨rfl, rfl, rfl⟩ := ha
    have f0 := bR2.frozen 0
    have f1 := bR2.frozen 1
    have TR := bR2.cells
    have hOpen := TR
    simp only [Cells, blk, List.cons_append, List.nil_append, and_true, Nat.reduceAdd, Nat.add_zero, Nat.zero_add] at hOpen
    obtain ⟨d0, d1⟩ := hOpen
    have BR2 := Lib.hid bR2
    clear bR1 bR2 TR hB1 hB2 hB0 hBw1
    go_wp2
    have b3 := (BR2.out.setAt (j := 0) (.int .u64 0)).setAt (j := 1) (.int .u64 0)
    obtain ⟨x0, x1, _⟩ := b3.cells
    simp only [Nat.zero_add, Nat.add_zero, List.set_cons_zero, List.set_cons_succ] at x0 x1
    refine bodyPost_ret (v := .tuple #[.agg #[.int .u64 0, .int .u64 0], .int .i64 2]) (by simp [results, Tryd.results14, go_sem, x0, x1]) rfl ?_
    exact ⟨rfl, (hBw2.setCell (p := ⟨w.heap.size, 0, none⟩) (by simp) _).setCell (p := ⟨w.heap.size, 1, none⟩) (by simp) _⟩
  have hBw2 := hBw1.trans (hB2.mono hBw1.size)
  have bR2 := bR1.below hB2
  have hlen := unhexL_len fs bs hbs
  have hlt := unhexL_lt fs bs hbs
  have hans : (A, B, C) = ansO ss (if bs.length = 2 then some ((bs.getD 0 0 * 256 + bs.getD 1 0) * 4294967296 + 4096, 9223372588214596859) else
      if bs.length = 16 then some (benum (bs.take 8), benum (bs.drop 8)) else none) := by have := HAN.out; rw [hbs] at this; exact this
  have hcb : ∀ u, (if bs.length = 2 then some ((bs.getD 0 0 * 256 + bs.getD 1 0) * 4294967296 + 4096, 9223372588214596859) else
      if bs.length = 16 then some (benum (bs.take 8), benum (bs.drop 8)) else none) = some u → u.1 < 18446744073709551616 ∧ u.2 < 18446744073709551616 := by have := HCB.out; rw [hbs] at this; exact this
  have hBY := bytesAt_of_own hown rfl hlt (by omega)
  obtain ⟨⟨_, _, _, ao, cap, rfl, hno, hc⟩, _, _⟩ := hBY
  obtain ⟨n, hn⟩ : ∃ n, bs.length = n := ⟨_, rfl⟩
  have HN := Lib.hid hn
  have HLT := Lib.hid hlt
  have HC := Lib.hid hc
  have hnb : n ≤ 100000 := by omega
  rw [hn] at hans hcb
  rw [hn]
  have hz2 := hBw2.size
  have hz3 : w.heap.size < w2.heap.size := bR2.lt
  have HR2 := Lib.hid bR2
  clear HAN HCB HUNH HREP HR hB1 hB2 hB0 hBw1 bR1 bR2 hc hno hlt hbs hown hlen hn hfl hfb HC1
  by_cases h2 : n = 2
  · subst h2
    rw [if_pos rfl] at hans hcb
    obtain ⟨x0, x1, rfl⟩ := list2 bs HN.out
    obtain ⟨b, off, rfl, hbl, hcell⟩ := HC.out (by simp)
    have y0 : x0 < 256 := HLT.out x0 (by simp)
    have y1 : x1 < 256 := HLT.out x1 (by simp)
    have ho := or16b x0 x1 y0 y1
    simp only [List.getD_cons_zero, List.getD_cons_succ] at hans hcb
    obtain ⟨hb1, hb2⟩ := hcb _ rfl
    obtain ⟨N, hNN⟩ : ∃ N, x0 * 256 + x1 = N := ⟨_, rfl⟩
    rw [hNN] at hans hb1 ho
    have hN4' : N < 65536 := by omega
    have hsh := fun W => short_any N hN4' W
    obtain ⟨HI, hHI⟩ : ∃ M : Nat, N * 4294967296 + 4096 = M := ⟨_, rfl⟩
    obtain ⟨LO, hLO⟩ : ∃ M : Nat, 9223372588214596859 = M := ⟨_, rfl⟩
    rw [hHI, hLO] at hans
    simp only [hHI, hLO] at hb1 hb2
    rw [show (N : Int) * 4294967296 + 4096 = (HI : Int) by rw [← hHI]; simp, show (9223372588214596859 : Int) = (LO : Int) by rw [← hLO]; rfl] at hsh
    have k0 := hcell 0 (.int .u8 (x0 : Int)) rfl
    have k1 := hcell 1 (.int .u8 (x1 : Int)) rfl
    have hB3 := hBw2.alloc hz2 (.cells #[.int .u64 0, .int .u64 0] 25)
    have bR3 := HR2.out.alloc (.cells #[.int .u64 0, .int .u64 0] 25)
    have bU3 := Blk.new w2 25 [.int .u64 0, .int .u64 0]
    have hBU := (Below.refl w2.heap.size w2).alloc (Nat.le_refl _) (.cells #[.int .u64 0, .int .u64 0] 25)
    have hV3 := hBU
    have TB : Cells (w2.alloc (.cells #[.int .u64 0, .int .u64 0] 25)) (blk w2.heap.size 0 0 [.int .u64 0, .int .u64 0] ++ blk b off 0 [.int .u8 x0, .int .u8 x1]) := bU3.cells.app ⟨kc (j := off + 0) k0 hBU, kc k1 hBU, trivial⟩
    have TW : Cells w2 (blk b off 0 [.int .u8 x0, .int .u8 x1]) := ⟨k0, k1, trivial⟩
    have z0 : (0 : Int) ≤ (x0 : Int) := by omega
    have z1 : (0 : Int) ≤ (x1 : Int) := by omega
    have q0 : (x0 : Int) < 256 := by omega
    have q1 : (x1 : Int) < 256 := by omega
    have u0 : IntKind.u16.wrap (x0 : Int) = (x0 : Int) := IntWalk.u16_in _ (by omega)
    have u1 : IntKind.u16.wrap (x1 : Int) = (x1 : Int) := IntWalk.u16_in _ (by omega)
    have u2 : IntKind.u16.wrap ((x0 : Int) * 256) = (x0 : Int) * 256 := IntWalk.u16_in _ (by omega)
    have HHI := Lib.hid hb1
    have HLO := Lib.hid hb2
    have HSH := Lib.hid hsh
    have HAN := Lib.hid hans
    have HTW := Lib.hid TW
    have HO := Lib.hid ho
    have HR3 := Lib.hid bR3
    have HU3 := Lib.hid bU3
    have HTB := Lib.hid TB
    clear hb1 hb2 hsh hans TW ho k0 k1 hcell hHI hLO hNN hN4' hcb hBU HC HR2 bR3 bU3 TB hbl
    go_upto_region 6 with fail
    generalize hX : World.alloc _ _ = X at HTB HU3 HR3 hB3 hV3 ⊢
    clear hX
    have ho := HO.out
    have TB := HTB.out
    have hOpen := TB
    simp only [Cells, blk, List.cons_append, List.nil_append, and_true, Nat.reduceAdd, Nat.add_zero, Nat.zero_add] at hOpen
    obtain ⟨c0, c1, c2, c3⟩ := hOpen
    have f0 := HU3.out.frozen 0
    have f1 := HU3.out.frozen 1
    refine wp_region_held_drew (S := (fun W' : World => Cells W' (blk b off 0 [.int .u8 x0, .int .u8 x1]))) (by kernel_rfl) (HTW.out.keep hV3.drew) (fun hHeld => ?_)
    refine wpAnyH_take (i := 0) (oi := _) (v := ?_) (by rw [List.getElem?_toArray]; rfl) (by kernel_rfl) (by kernel_rfl) (by kernel_rfl) (by exact fun _ _ _ h => h) (Or.inl ⟨by rfl, ?_⟩) (by assumption) ?_
    rotate_left
    · intro w hSw
      try simp only [Cells, blk, List.cons_append, List.nil_append, and_true, Nat.reduceAdd, Nat.add_zero, Nat.zero_add] at hSw
      go_simp
      try with_reducible rfl
    simp only [Act.put, List.setIfInBounds_toArray, List.set_cons_zero, List.set_cons_succ]
    refine wpAnyH_take (i := 1) (oi := _) (v := ?_) (by rw [List.getElem?_toArray]; rfl) (by kernel_rfl) (by kernel_rfl) (by kernel_rfl) (by exact fun _ _ _ h => h) (Or.inl ⟨by rfl, ?_⟩) (by assumption) ?_
    rotate_left
    · intro w hSw
      try simp only [Cells, blk, List.cons_append, List.nil_append, and_true, Nat.reduceAdd, Nat.add_zero, Nat.zero_add] at hSw
      go_simp
      try with_reducible rfl
    simp only [Act.put, List.setIfInBounds_toArray, List.set_cons_zero, List.set_cons_succ]
    refine wpAnyH_take (i := 2) (oi := _) (v := ?_) (by rw [List.getElem?_toArray]; rfl) (by kernel_rfl) (by kernel_rfl) (by kernel_rfl) (by exact fun _ _ _ h => h) (Or.inl ⟨by rfl, ?_⟩) (by assumption) ?_
    rotate_left
    · intro w hSw
      try simp only [Cells, blk, List.cons_append, List.nil_append, and_true, Nat.reduceAdd, Nat.add_zero, Nat.zero_add] at hSw
      go_simp
      try with_reducible rfl
    simp only [Act.put, List.setIfInBounds_toArray, List.set_cons_zero, List.set_cons_succ]
    refine wpAnyH_take (i := 3) (oi := _) (v := ?_) (by rw [List.getElem?_toArray]; rfl) (by kernel_rfl) (by kernel_rfl) (by kernel_rfl) (by exact fun _ _ _ h => h) (Or.inl ⟨by rfl, ?_⟩) (by assumption) ?_
    rotate_left
    · intro w hSw
      try simp only [Cells, blk, List.cons_append, List.nil_append, and_true, Nat.reduceAdd, Nat.add_zero, Nat.zero_add] at hSw
      go_simp
      try with_reducible rfl
    simp only [Act.put, List.setIfInBounds_toArray, List.set_cons_zero, List.set_cons_succ]
    refine wpAnyH_take (i := 4) (oi := _) (v := ?_) (by rw [List.getElem?_toArray]; rfl) (by kernel_rfl) (by kernel_rfl) (by kernel_rfl) (by exact fun _ _ _ h => h) (Or.inl ⟨by rfl, ?_⟩) (by assumption) ?_
    rotate_left
    · intro w hSw
      try simp only [Cells, blk, List.cons_append, List.nil_append, and_true, Nat.reduceAdd, Nat.add_zero, Nat.zero_add] at hSw
      go_simp
      try with_reducible rfl
    simp only [Act.put, List.setIfInBounds_toArray, List.set_cons_zero, List.set_cons_succ]
    refine wpAnyH_take (i := 5) (oi := _) (v := ?_) (by rw [List.getElem?_toArray]; rfl) (by kernel_rfl) (by kernel_rfl) (by kernel_rfl) (by exact fun _ _ _ h => h) (Or.inl ⟨by rfl, ?_⟩) (by assumption) ?_
    rotate_left
    · intro w hSw
      try simp only [Cells, blk, List.cons_append, List.nil_append, and_true, Nat.reduceAdd, Nat.add_zero, Nat.zero_add] at hSw
      go_simp
      try with_reducible rfl
    simp only [Act.put, List.setIfInBounds_toArray, List.set_cons_zero, List.set_cons_succ]
    refine wpAnyH_take (i := 6) (oi := _) (v := ?_) (by rw [List.getElem?_toArray]; rfl) (by kernel_rfl) (by kernel_rfl) (by kernel_rfl) (by exact fun _ _ _ h => h) (Or.inl ⟨by rfl, ?_⟩) (by assumption) ?_
    rotate_left
    · intro w hSw
      try simp only [Cells, blk, List.cons_append, List.nil_append, and_true, Nat.reduceAdd, Nat.add_zero, Nat.zero_add] at hSw
      go_simp
      try with_reducible rfl
    simp only [Act.put, List.setIfInBounds_toArray, List.set_cons_zero, List.set_cons_succ]
    refine wpAnyH_take (i := 7) (oi := _) (v := ?_) (by rw [List.getElem?_toArray]; rfl) (by kernel_rfl) (by kernel_rfl) (by kernel_rfl) (by exact fun _ _ _ h => h) (Or.inl ⟨by rfl, ?_⟩) (by assumption) ?_
    rotate_left
    · intro w hSw
      try simp only [Cells, blk, List.cons_append, List.nil_append, and_true, Nat.reduceAdd, Nat.add_zero, Nat.zero_add] at hSw
      go_simp
      try with_reducible rfl
    simp only [Act.put, List.setIfInBounds_toArray, List.set_cons_zero, List.set_cons_succ]
    refine wpAnyH_take (i := 8) (oi := _) (v := ?_) (by rw [List.getElem?_toArray]; rfl) (by kernel_rfl) (by kernel_rfl) (by kernel_rfl) (by exact fun _ _ _ h => h) (Or.inl ⟨by rfl, ?_⟩) (by assumption) ?_
    rotate_left
    · intro w hSw
      try simp only [Cells, blk, List.cons_append, List.nil_append, and_true, Nat.reduceAdd, Nat.add_zero, Nat.zero_add] at hSw
      go_simp
      try with_reducible rfl
    simp only [Act.put, List.setIfInBounds_toArray, List.set_cons_zero, List.set_cons_succ]
    refine wpAnyH_take (i := 9) (oi := _) (v := ?_) (by rw [List.getElem?_toArray]; rfl) (by kernel_rfl) (by kernel_rfl) (by kernel_rfl) (by exact fun _ _ _ h => h) (Or.inl ⟨by rfl, ?_⟩) (by assumption) ?_
    rotate_left
    · intro w hSw
      try simp only [Cells, blk, List.cons_append, List.nil_append, and_true, Nat.reduceAdd, Nat.add_zero, Nat.zero_add] at hSw
      go_simp
      try with_reducible rfl
    simp only [Act.put, List.setIfInBounds_toArray, List.set_cons_zero, List.set_cons_succ]
    refine wpAnyH_ready (rs := [10]) (by kernel_rfl) (by simp) (AllReadyH.cons (o := _) (by rw [List.getElem?_toArray]; rfl) (fun K hK => ?_) AllReadyH.nil)
    go_simp
    go_at_call 11
    refine (HSH.out _).mono ?_
    rintro e w4 ⟨rfl, hB4⟩
    have hBX : Below X.heap.size X w4 := ((Below.refl _ X).drew).trans hB4
    have bU4 := HU3.out.below hBX
    have bR4 := HR3.out.below hBX
    have hB5 := hB3.trans (hBX.mono hB3.size)
    have hV5 := hV3.trans (hBX.mono hV3.size)
    clear c0 c1 c2 c3 f0 f1 TB
    have T4 := bU4.cells
    have hOpen := T4
    simp only [Cells, blk, List.cons_append, List.nil_append, and_true, Nat.reduceAdd, Nat.add_zero, Nat.zero_add] at hOpen
    obtain ⟨c0, c1⟩ := hOpen
    have f0 := bU4.frozen 0
    have f1 := bU4.frozen 1
    have HU4 := Lib.hid bU4
    have HR4 := Lib.hid bR4
    clear hB4 hBX bU4 bR4 T4
    clear hHeld
    refine hK.out _ _ (HTW.out.keep hV5) (fun hHeld => ?_)
    clear hK K
    try simp only [Act.put, List.setIfInBounds_toArray, List.set_cons_zero, List.set_cons_succ]
    refine wpAnyH_ready (rs := [11]) (by kernel_rfl) (by simp) (AllReadyH.cons (o := _) (by rw [List.getElem?_toArray]; rfl) (fun K hK => ?_) AllReadyH.nil)
    go_simp
    generalize hX3 : World.setCell _ _ _ = X3
    have BU : Hid (Blk X3 w2.heap.size 25 [.int .u64 HI, .int .u64 LO]) := by
      rw [← hX3]
      exact (HU4.out.setAt (j := 0) (.int .u64 (HI : Int))).setAt (j := 1) (.int .u64 (LO : Int))
    have BR : Hid (Blk X3 w.heap.size 25 [.int .u64 0, .int .u64 0]) := by
      rw [← hX3]
      exact (HR4.out.other (by omega) _).other (by omega) _
    have hBX : Below w.heap.size w X3 := by
      rw [← hX3]
      exact (hB5.setCell (p := ⟨w2.heap.size, 0, none⟩) (by simp; omega) _).setCell (p := ⟨w2.heap.size, 1, none⟩) (by simp; omega) _
    have hV6 : Below w2.heap.size w2 X3 := by
      rw [← hX3]
      exact (hV5.setCell (p := ⟨w2.heap.size, 0, none⟩) (by simp) _).setCell (p := ⟨w2.heap.size, 1, none⟩) (by simp) _
    clear hX3 c0 c1 f0 f1 HU4 HR4 HU3 HR3 hB5 ho hB3 z0 z1 q0 q1 u0 u1 u2
    clear hHeld
    refine hK.out _ _ (HTW.out.keep hV6) (fun hHeld => ?_)
    clear hK K
    try simp only [Act.put, List.setIfInBounds_toArray, List.set_cons_zero, List.set_cons_succ]
    refine wpAnyH_done (by kernel_rfl) ?_ _
    clear hV3 hV5 hV6 HTW HTB HO
    obtain ⟨q, hq⟩ : ∃ q, decide (txt HI LO = ss) = q := ⟨_, rfl⟩
    have hq1 := strB_beqL (txt HI LO) ss (txt_lt HI LO) HB.out
    have hq2 := strB_beq (txt HI LO) ss (txt_lt HI LO) HB.out
    rw [hq] at hq1 hq2
    have hq3 : ((strB (txt HI LO)).toList != (strB ss).toList) = !q := by rw [← hq1]; rfl
    have hq4 : (strB (txt HI LO) != strB ss) = !q := by rw [← hq2]; rfl
    have hans : (A, B, C) = if txt HI LO = ss then (HI, LO, 0) else (0, 0, 2) := HAN.out
    have HQ := Lib.hid hq
    have HQ1 := Lib.hid hq1
    have HQ2 := Lib.hid hq2
    have HQ3 := Lib.hid hq3
    have HQ4 := Lib.hid hq4
    have HANS := Lib.hid hans
    have TU := BU.out.cells
    have hOpen := TU
    simp only [Cells, blk, List.cons_append, List.nil_append, and_true, Nat.reduceAdd, Nat.add_zero, Nat.zero_add] at hOpen
    obtain ⟨c0, c1⟩ := hOpen
    clear hq hq1 hq2 hq3 hq4 hans TU
    go_wp2_with fail
    go_at_call 16
    refine (text_any HI LO HHI.out HLO.out _).mono ?_
    rintro e w9 ⟨rfl, hB9⟩
    have bu9 := BU.out.below hB9
    have br9 := BR.out.below hB9
    have hBf := hBX.trans (hB9.mono hBX.size)
    have T9 := bu9.cells
    have R9 := br9.cells
    clear c0 c1
    have hOpen := T9
    simp only [Cells, blk, List.cons_append, List.nil_append, and_true, Nat.reduceAdd, Nat.add_zero, Nat.zero_add] at hOpen
    obtain ⟨c0, c1⟩ := hOpen
    have hOpen := R9
    simp only [Cells, blk, List.cons_append, List.nil_append, and_true, Nat.reduceAdd, Nat.add_zero, Nat.zero_add] at hOpen
    obtain ⟨d0, d1⟩ := hOpen
    have f0 := br9.frozen 0
    have f1 := br9.frozen 1
    have BR9 := Lib.hid br9
    have hq1 := HQ1.out
    have hq2 := HQ2.out
    have hq3 := HQ3.out
    have hq4 := HQ4.out
    clear bu9 br9 T9 R9 hB9 hBX
    have hz := fun W => run_build0 W
    cases q
    · have hne : ¬ txt HI LO = ss := by have := HQ.out; simpa using this
      have ha := HANS.out
      rw [if_neg hne] at ha
      simp only [Prod.mk.injEq] at ha
      obtain ⟨rfl, rfl, rfl⟩ := ha
      clear hne
      go_wp2
      have b3 := (BR9.out.setAt (j := 0) (.int .u64 0)).setAt (j := 1) (.int .u64 0)
      obtain ⟨x0, x1, _⟩ := b3.cells
      simp only [Nat.zero_add, Nat.add_zero, List.set_cons_zero, List.set_cons_succ] at x0 x1
      refine bodyPost_ret (v := .tuple #[.agg #[.int .u64 0, .int .u64 0], .int .i64 2]) (by simp [results, Tryd.results14, go_sem, x0, x1]) rfl ?_
      exact ⟨rfl, (hBf.setCell (p := ⟨w.heap.size, 0, none⟩) (by simp) _).setCell (p := ⟨w.heap.size, 1, none⟩) (by simp) _⟩
    · have heq : txt HI LO = ss := by have := HQ.out; simpa using this
      have ha := HANS.out
      rw [if_pos heq] at ha
      simp only [Prod.mk.injEq] at ha
      obtain ⟨rfl, rfl, rfl⟩ := ha
      clear heq
      go_wp2
      have b3 := (BR9.out.setAt (j := 0) (.int .u64 (A : Int))).setAt (j := 1) (.int .u64 (B : Int))
      obtain ⟨x0, x1, _⟩ := b3.cells
      simp only [Nat.zero_add, Nat.add_zero, List.set_cons_zero, List.set_cons_succ] at x0 x1
      refine bodyPost_ret (v := .tuple #[.agg #[.int .u64 A, .int .u64 B], .int .i64 0]) (by simp [results, Tryd.results14, go_sem, x0, x1]) rfl ?_
      exact ⟨rfl, (hBf.setCell (p := ⟨w.heap.size, 0, none⟩) (by simp) _).setCell (p := ⟨w.heap.size, 1, none⟩) (by simp) _⟩
  rw [if_neg h2] at hans hcb
  have g2 : ((n : Int) == 2) = false := by simp; omega
  have g2' : ((n : Int) != 2) = true := by simp; omega
  by_cases h16 : n = 16
  · subst h16
    rw [if_pos rfl] at hans hcb
    obtain ⟨b, off, rfl, hbl, hcell⟩ := HC.out (by rw [HN.out]; decide)
    have hB3 := hBw2.alloc hz2 (.cells #[.int .u64 0, .int .u64 0] 25)
    have bR3 := HR2.out.alloc (.cells #[.int .u64 0, .int .u64 0] 25)
    have bU3 := Blk.new w2 25 [.int .u64 0, .int .u64 0]
    have hBU := (Below.refl w2.heap.size w2).alloc (Nat.le_refl _) (.cells #[.int .u64 0, .int .u64 0] 25)
    have HCELL := Lib.hid hcell
    have HAN := Lib.hid hans
    have HCB := Lib.hid hcb
    have HR3 := Lib.hid bR3
    have HU3 := Lib.hid bU3
    have HB3 := Lib.hid hB3
    have HBU := Lib.hid hBU
    clear hcell hans hcb hBU bR3 bU3 hB3 HC HR2
    go_wp2
    go_loopw [41, 7] (fun i _ wr => ∃ k : Nat, i = .int .i64 k ∧ k ≤ 8 ∧ Blk wr w.heap.size 25 [.int .u64 0, .int .u64 0] ∧ Blk wr w2.heap.size 25 [.int .u64 (benum (bs.take k) : Nat), .int .u64 (benum ((bs.drop 8).take k) : Nat)] ∧ Below w2.heap.size w2 wr) (fun i _ _ => 8 - (intOf i).toNat)
    case atStart => exact ⟨0, by simp, by omega, HR3.out, HU3.out, HBU.out⟩
    case round =>
      obtain ⟨k, rfl, hk, br, bu, hB⟩ := hrel
      by_cases hlt : k < 8
      · have g1 : decide (k < 8) = true := by simpa using hlt
        have g1' : decide ((k : Int) < 8) = true := by simp; omega
        have hk1 : k < bs.length := by rw [HN.out]; omega
        have hk2 : 8 + k < bs.length := by rw [HN.out]; omega
        have t1 := take_succ_getD bs k hk1
        have t2 := take_succ_getD (bs.drop 8) k (by rw [List.length_drop, HN.out]; omega)
        rw [show (bs.drop 8).getD k 0 = bs.getD (8 + k) 0 by simp [List.getD_eq_getElem?_getD]] at t2
        have x1 := HCELL.out k (.int .u8 (bs[k] : Nat)) (by simp [bcells, List.getElem?_eq_getElem hk1])
        have x2 := HCELL.out (8 + k) (.int .u8 (bs[8 + k] : Nat)) (by simp [bcells, List.getElem?_eq_getElem hk2])
        have l1 := HLT.out _ (List.getElem_mem hk1)
        have l2 := HLT.out _ (List.getElem_mem hk2)
        rw [show bs.getD k 0 = bs[k] by rw [List.getD_eq_getElem?_getD, List.getElem?_eq_getElem hk1]; rfl] at t1
        rw [show bs.getD (8 + k) 0 = bs[8 + k] by rw [List.getD_eq_getElem?_getD, List.getElem?_eq_getElem hk2]; rfl] at t2
        obtain ⟨x, hx⟩ : ∃ x, bs[k] = x := ⟨_, rfl⟩
        obtain ⟨y, hy⟩ : ∃ x, bs[8 + k] = x := ⟨_, rfl⟩
        rw [hx] at t1 x1 l1
        rw [hy] at t2 x2 l2
        obtain ⟨p1, o1⟩ := u64_ben (bs.take k) x (fun z hz => HLT.out z (List.mem_of_mem_take hz)) (by simp; omega) l1
        obtain ⟨p2, o2⟩ := u64_ben ((bs.drop 8).take k) y (fun z hz => HLT.out z (List.mem_of_mem_drop (List.mem_of_mem_take hz))) (by simp; omega) l2
        rw [← t1] at o1
        rw [← t2] at o2
        obtain ⟨HI, hHI⟩ : ∃ z, benum (bs.take k) = z := ⟨_, rfl⟩
        obtain ⟨LO, hLO⟩ : ∃ z, benum ((bs.drop 8).take k) = z := ⟨_, rfl⟩
        obtain ⟨HI2, hHI2⟩ : ∃ z, benum (bs.take (k + 1)) = z := ⟨_, rfl⟩
        obtain ⟨LO2, hLO2⟩ : ∃ z, benum ((bs.drop 8).take (k + 1)) = z := ⟨_, rfl⟩
        rw [hHI] at p1
        rw [hLO] at p2
        rw [hHI, hHI2] at o1
        rw [hLO, hLO2] at o2
        rw [hLO, hHI] at bu
        have HLO2 := Lib.hid hLO2
        have HHI2 := Lib.hid hHI2
        have d1 := kc x1 hB
        have d2 := kc x2 hB
        have O1 := Lib.hid o1
        have O2 := Lib.hid o2
        clear t1 t2 hLO hHI hLO2 hHI2 hx hy x1 x2 hk1 hk2 o1 o2
        have i1 : (k : Int) < 16 := by omega
        have i2 : (8 : Int) + k < 16 := by omega
        have i3 : (0 : Int) ≤ 8 + k := by omega
        have e2 : ((8 : Int) + (k : Int)).toNat = 8 + k := by omega
        have w1' : IntKind.i64.wrap ((k : Int) + 1) = (k : Int) + 1 := IntWalk.i64_in _ (by omega)
        have w3 : IntKind.i64.wrap (8 + (k : Int)) = 8 + (k : Int) := IntWalk.i64_in _ (by omega)
        have b1 : (x : Int) < 256 := by omega
        have b2 : (y : Int) < 256 := by omega
        obtain ⟨u0, u1, _⟩ := bu.cells
        simp only [Nat.zero_add, Nat.add_zero] at u0 u1
        have f0 := bu.frozen 0
        have f1 := bu.frozen 1
        go_upto_region 10 with fail
        go_region
        rw [O1.out]
        generalize hX1 : World.drew _ = X1
        have bu1 : Blk X1 w2.heap.size 25 [.int .u64 HI2, .int .u64 LO] := by rw [← hX1]; exact bu.setAt (j := 0) _
        have br1 : Blk X1 w.heap.size 25 [.int .u64 0, .int .u64 0] := by rw [← hX1]; exact br.other (by omega) _
        have hB1 : Below w2.heap.size w2 X1 := by rw [← hX1]; exact (hB.setCell (p := ⟨w2.heap.size, 0, none⟩) (by simp) _).drew
        have D2 := Lib.hid ((hB1.cell (p := ⟨b, off + (8 + k), none⟩) hbl).trans ((hB.cell (p := ⟨b, off + (8 + k), none⟩) hbl).symm.trans d2))
        clear hX1 u0 u1 f0 f1 d1 d2 bu br hB
        have d2 := D2.out
        obtain ⟨u0, u1, _⟩ := bu1.cells
        simp only [Nat.zero_add, Nat.add_zero] at u0 u1
        have f0 := bu1.frozen 0
        have f1 := bu1.frozen 1
        go_upto_region 11 with fail
        go_region
        rw [O2.out]
        generalize hX2 : World.drew _ = X2
        have bu2 : Blk X2 w2.heap.size 25 [.int .u64 HI2, .int .u64 LO2] := by rw [← hX2]; exact bu1.setAt (j := 1) _
        have br2 : Blk X2 w.heap.size 25 [.int .u64 0, .int .u64 0] := by rw [← hX2]; exact br1.other (by omega) _
        have hB2 : Below w2.heap.size w2 X2 := by rw [← hX2]; exact (hB1.setCell (p := ⟨w2.heap.size, 1, none⟩) (by simp) _).drew
        have HREL : Hid (∃ k2 : Nat, Value.int .i64 ((k : Int) + 1) = .int .i64 k2 ∧ k2 ≤ 8 ∧ Blk X2 w.heap.size 25 [.int .u64 0, .int .u64 0] ∧ Blk X2 w2.heap.size 25 [.int .u64 (benum (bs.take k2) : Nat), .int .u64 (benum ((bs.drop 8).take k2) : Nat)] ∧ Below w2.heap.size w2 X2) :=
          Lib.hid ⟨k + 1, by simp, by omega, br2, by rw [HLO2.out, HHI2.out]; exact bu2, hB2⟩
        clear hX2 u0 u1 f0 f1 d2 bu1 br1 hB1 bu2 br2 hB2 D2
        go_wp2
        refine ⟨HREL.out, ?_⟩
        simp [intOf]
        omega
      · obtain rfl : k = 8 := by omega
        have g1 : decide (8 < 8) = false := by decide
        have g1' : decide (((8 : Nat) : Int) < 8) = false := by decide
        rw [show (bs.drop 8).take 8 = bs.drop 8 by rw [List.take_of_length_le (by rw [List.length_drop, HN.out]; omega)]] at bu
        have hcb := HCB.out
        have hans := HAN.out
        obtain ⟨hb1, hb2⟩ := hcb _ rfl
        simp only at hb1 hb2
        obtain ⟨HI, hHI⟩ : ∃ V, benum (bs.take 8) = V := ⟨_, rfl⟩
        obtain ⟨LO, hLO⟩ : ∃ V, benum (bs.drop 8) = V := ⟨_, rfl⟩
        rw [hHI] at bu hb1 hans
        rw [hLO] at bu hb2 hans
        have HHI := Lib.hid hb1
        have HLO := Lib.hid hb2
        have HAN := Lib.hid hans
        have hBX := hBw2.trans (hB.mono hz2)
        have BU := Lib.hid bu
        have BR := Lib.hid br
        clear hHI hLO hb1 hb2 hans hcb bu br hB HCB HR3 HU3 HB3 HBU
        generalize hY : wr = X3 at BU BR hBX ⊢
        clear hY
        obtain ⟨q, hq⟩ : ∃ q, decide (txt HI LO = ss) = q := ⟨_, rfl⟩
        have hq1 := strB_beqL (txt HI LO) ss (txt_lt HI LO) HB.out
        have hq2 := strB_beq (txt HI LO) ss (txt_lt HI LO) HB.out
        rw [hq] at hq1 hq2
        have hq3 : ((strB (txt HI LO)).toList != (strB ss).toList) = !q := by rw [← hq1]; rfl
        have hq4 : (strB (txt HI LO) != strB ss) = !q := by rw [← hq2]; rfl
        have hans : (A, B, C) = if txt HI LO = ss then (HI, LO, 0) else (0, 0, 2) := HAN.out
        have HQ := Lib.hid hq
        have HQ1 := Lib.hid hq1
        have HQ2 := Lib.hid hq2
        have HQ3 := Lib.hid hq3
        have HQ4 := Lib.hid hq4
        have HANS := Lib.hid hans
        have TU := BU.out.cells
        have hOpen := TU
        simp only [Cells, blk, List.cons_append, List.nil_append, and_true, Nat.reduceAdd, Nat.add_zero, Nat.zero_add] at hOpen
        obtain ⟨c0, c1⟩ := hOpen
        clear hq hq1 hq2 hq3 hq4 hans TU
        go_wp2_with fail
        go_at_call 16
        refine (text_any HI LO HHI.out HLO.out _).mono ?_
        rintro e w9 ⟨rfl, hB9⟩
        have bu9 := BU.out.below hB9
        have br9 := BR.out.below hB9
        have hBf := hBX.trans (hB9.mono hBX.size)
        have T9 := bu9.cells
        have R9 := br9.cells
        clear c0 c1
        have hOpen := T9
        simp only [Cells, blk, List.cons_append, List.nil_append, and_true, Nat.reduceAdd, Nat.add_zero, Nat.zero_add] at hOpen
        obtain ⟨c0, c1⟩ := hOpen
        have hOpen := R9
        simp only [Cells, blk, List.cons_append, List.nil_append, and_true, Nat.reduceAdd, Nat.add_zero, Nat.zero_add] at hOpen
        obtain ⟨d0, d1⟩ := hOpen
        have f0 := br9.frozen 0
        have f1 := br9.frozen 1
        have BR9 := Lib.hid br9
        have hq1 := HQ1.out
        have hq2 := HQ2.out
        have hq3 := HQ3.out
        have hq4 := HQ4.out
        clear bu9 br9 T9 R9 hB9 hBX
        have hz := fun W => run_build0 W
        cases q
        · have hne : ¬ txt HI LO = ss := by have := HQ.out; simpa using this
          have ha := HANS.out
          rw [if_neg hne] at ha
          simp only [Prod.mk.injEq] at ha
          obtain ⟨rfl, rfl, rfl⟩ := ha
          clear hne
          go_wp2
          have b3 := (BR9.out.setAt (j := 0) (.int .u64 0)).setAt (j := 1) (.int .u64 0)
          obtain ⟨x0, x1, _⟩ := b3.cells
          simp only [Nat.zero_add, Nat.add_zero, List.set_cons_zero, List.set_cons_succ] at x0 x1
          refine bodyPost_ret (v := .tuple #[.agg #[.int .u64 0, .int .u64 0], .int .i64 2]) (by simp [results, Tryd.results14, go_sem, x0, x1]) rfl ?_
          exact ⟨rfl, (hBf.setCell (p := ⟨w.heap.size, 0, none⟩) (by simp) _).setCell (p := ⟨w.heap.size, 1, none⟩) (by simp) _⟩
        · have heq : txt HI LO = ss := by have := HQ.out; simpa using this
          have ha := HANS.out
          rw [if_pos heq] at ha
          simp only [Prod.mk.injEq] at ha
          obtain ⟨rfl, rfl, rfl⟩ := ha
          clear heq
          go_wp2
          have b3 := (BR9.out.setAt (j := 0) (.int .u64 (A : Int))).setAt (j := 1) (.int .u64 (B : Int))
          obtain ⟨x0, x1, _⟩ := b3.cells
          simp only [Nat.zero_add, Nat.add_zero, List.set_cons_zero, List.set_cons_succ] at x0 x1
          refine bodyPost_ret (v := .tuple #[.agg #[.int .u64 A, .int .u64 B], .int .i64 0]) (by simp [results, Tryd.results14, go_sem, x0, x1]) rfl ?_
          exact ⟨rfl, (hBf.setCell (p := ⟨w.heap.size, 0, none⟩) (by simp) _).setCell (p := ⟨w.heap.size, 1, none⟩) (by simp) _⟩
  have h16' : ((n : Int) != 16) = true := by simp; omega
  rw [if_neg h16] at hans
  simp only [ansO, Prod.mk.injEq] at hans
  obtain ⟨rfl, rfl, rfl⟩ := hans
  have f0 := HR2.out.frozen 0
  have f1 := HR2.out.frozen 1
  have TR := HR2.out.cells
  have hOpen := TR
  simp only [Cells, blk, List.cons_append, List.nil_append, and_true, Nat.reduceAdd, Nat.add_zero, Nat.zero_add] at hOpen
  obtain ⟨d0, d1⟩ := hOpen
  clear TR hcb
  go_wp2
  have b3 := (HR2.out.setAt (j := 0) (.int .u64 0)).setAt (j := 1) (.int .u64 0)
  obtain ⟨x0, x1, _⟩ := b3.cells
  simp only [Nat.zero_add, Nat.add_zero, List.set_cons_zero, List.set_cons_succ] at x0 x1
  refine bodyPost_ret (v := .tuple #[.agg #[.int .u64 0, .int .u64 0], .int .i64 2]) (by simp [results, Tryd.results14, go_sem, x0, x1]) rfl ?_
  exact ⟨rfl, (hBw2.setCell (p := ⟨w.heap.size, 0, none⟩) (by simp) _).setCell (p := ⟨w.heap.size, 1, none⟩) (by simp) _⟩
end Go.Proofs.YtolkjijnodejlaaDoor
