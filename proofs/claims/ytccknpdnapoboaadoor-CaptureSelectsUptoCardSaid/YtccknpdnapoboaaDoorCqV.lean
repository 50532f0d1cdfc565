/- capture: Line of the reference. -/
import Derived.Test.YtccknpdnapoboaaDoorCqU
import Derived.Deep.DeepCutAuto
import Derived.Deep.CutRange
namespace Go.Proofs.YtccknpdnapoboaaDoor
open Go.RowKit

def spc : ByteArray := { data := #[32] }
theorem line_cat (T C F KD : Int) (bs : List Nat) : decS T ++ spc ++ decS C ++ spc ++ decS F ++ spc ++ wordS KD ++ spc ++ textB bs = lineS T C F KD bs := by
  unfold lineS decS spc
  apply ByteArray.ext
  rw [← Array.toList_inj]
  simp [Lib.join, List.intercalate, List.intersperse]
theorem decS_size (x : Int) (h : i64b x) : (decS x).size ≤ 21 := by
  have := Lib.itoa_length_le x h.1 h.2
  have e : (decS x).size = (Lib.itoa x).length := by unfold decS; rfl
  omega
set_option linter.unusedSimpArgs false in
set_option linter.unusedVariables false in
set_option maxRecDepth 100000 in
set_option maxHeartbeats 8000000 in
theorem rline_any (T C F KD : Int) (a : Option Addr) (n c : Nat) (bs : List Nat) (w : World) (h : BytesAt w (.slice a n c) bs) (hm : bs.length ≤ 10000000) (hT : i64b T) (hC : i64b C) (hF : i64b F) :
    Calls Tryd.prog 20 #[.agg #[.int .i64 T, .int .i64 C, .int .i64 F, .int .i64 KD, .slice a n c]] w fun e w' => e = .returned (.string (lineS T C F KD bs)) ∧ Below w.heap.size w w' := by
  have hb0 : Below w.heap.size w (w.alloc (.cells #[.int .i64 T, .int .i64 C, .int .i64 F, .int .i64 KD, .slice a n c] 35)) := (Below.refl _ _).alloc (Nat.le_refl _) _
  have T0 := cells_new w [.int .i64 T, .int .i64 C, .int .i64 F, .int .i64 KD, .slice a n c] 35
  change Cells (w.alloc (.cells #[.int .i64 T, .int .i64 C, .int .i64 F, .int .i64 KD, .slice a n c] 35)) _ at T0
  have hz0 : (w.alloc (.cells #[.int .i64 T, .int .i64 C, .int .i64 F, .int .i64 KD, .slice a n c] 35)).heap.size = w.heap.size + 1 := by simp
  obtain ⟨U, hU⟩ : ∃ U, w.alloc (.cells #[.int .i64 T, .int .i64 C, .int .i64 F, .int .i64 KD, .slice a n c] 35) = U := ⟨_, rfl⟩
  rw [hU] at hb0 T0 hz0
  obtain ⟨LS, hLS⟩ : ∃ L, lineS T C F KD bs = L := ⟨_, rfl⟩
  rw [hLS]
  have hcat := line_cat T C F KD bs
  rw [hLS] at hcat
  have s1 := decS_size T hT
  have s2 := decS_size C hC
  have s3 := decS_size F hF
  have s4 : (wordS KD).size ≤ 8 := wordS_size KD
  have s5 : (textB bs).size ≤ 2 * bs.length + 1 := textB_size bs
  have sp : spc.size = 1 := rfl
  have sap : ∀ x y : ByteArray, (x ++ y).size = x.size + y.size := fun x y => by simp [ByteArray.size_append]
  obtain ⟨DT, hDT⟩ : ∃ x, decS T = x := ⟨_, rfl⟩
  obtain ⟨DC, hDC⟩ : ∃ x, decS C = x := ⟨_, rfl⟩
  obtain ⟨DF, hDF⟩ : ∃ x, decS F = x := ⟨_, rfl⟩
  obtain ⟨WK, hWK⟩ : ∃ x, wordS KD = x := ⟨_, rfl⟩
  obtain ⟨TX, hTX⟩ : ∃ x, textB bs = x := ⟨_, rfl⟩
  rw [hDT, hDC, hDF, hWK, hTX] at hcat
  rw [hDT] at s1
  rw [hDC] at s2
  rw [hDF] at s3
  rw [hWK] at s4
  rw [hTX] at s5
  have zZ1 := sap DT spc
  have kZ1 := fun W => run_string_add_sum (P := Tryd.prog) (w := W) DT spc (by omega)
  obtain ⟨Z1, hZ1⟩ : ∃ q, DT ++ spc = q := ⟨_, rfl⟩
  rw [hZ1] at hcat kZ1 zZ1
  have zZ2 := sap Z1 DC
  have kZ2 := fun W => run_string_add_sum (P := Tryd.prog) (w := W) Z1 DC (by omega)
  obtain ⟨Z2, hZ2⟩ : ∃ q, Z1 ++ DC = q := ⟨_, rfl⟩
  rw [hZ2] at hcat kZ2 zZ2
  have zZ3 := sap Z2 spc
  have kZ3 := fun W => run_string_add_sum (P := Tryd.prog) (w := W) Z2 spc (by omega)
  obtain ⟨Z3, hZ3⟩ : ∃ q, Z2 ++ spc = q := ⟨_, rfl⟩
  rw [hZ3] at hcat kZ3 zZ3
  have zZ4 := sap Z3 DF
  have kZ4 := fun W => run_string_add_sum (P := Tryd.prog) (w := W) Z3 DF (by omega)
  obtain ⟨Z4, hZ4⟩ : ∃ q, Z3 ++ DF = q := ⟨_, rfl⟩
  rw [hZ4] at hcat kZ4 zZ4
  have zZ5 := sap Z4 spc
  have kZ5 := fun W => run_string_add_sum (P := Tryd.prog) (w := W) Z4 spc (by omega)
  obtain ⟨Z5, hZ5⟩ : ∃ q, Z4 ++ spc = q := ⟨_, rfl⟩
  rw [hZ5] at hcat kZ5 zZ5
  have zZ6 := sap Z5 WK
  have kZ6 := fun W => run_string_add_sum (P := Tryd.prog) (w := W) Z5 WK (by omega)
  obtain ⟨Z6, hZ6⟩ : ∃ q, Z5 ++ WK = q := ⟨_, rfl⟩
  rw [hZ6] at hcat kZ6 zZ6
  have zZ7 := sap Z6 spc
  have kZ7 := fun W => run_string_add_sum (P := Tryd.prog) (w := W) Z6 spc (by omega)
  obtain ⟨Z7, hZ7⟩ : ∃ q, Z6 ++ spc = q := ⟨_, rfl⟩
  rw [hZ7] at hcat kZ7 zZ7
  have zZ8 := sap Z7 TX
  have kZ8 := fun W => run_string_add_sum (P := Tryd.prog) (w := W) Z7 TX (by omega)
  obtain ⟨Z8, hZ8⟩ : ∃ q, Z7 ++ TX = q := ⟨_, rfl⟩
  rw [hZ8] at hcat kZ8 zZ8
  have HL := Lib.hid (show LS = Z8 from hcat.symm)
  simp only [show spc = { data := #[32] } from rfl] at kZ1 kZ3 kZ5 kZ7
  clear zZ1 hZ1 zZ2 hZ2 zZ3 hZ3 zZ4 hZ4 zZ5 hZ5 zZ6 hZ6 zZ7 hZ7 zZ8 hZ8 hcat s1 s2 s3 s4 s5 sp sap hLS
  have HDT := Lib.hid hDT
  have HDC := Lib.hid hDC
  have HDF := Lib.hid hDF
  have HWK := Lib.hid hWK
  have HTX := Lib.hid hTX
  have HT0 := Lib.hid T0
  have HB0 := Lib.hid hb0
  have HBY := Lib.hid (h.below hb0)
  have HZ0 := Lib.hid hz0
  have HT : Hid (∀ W, Calls Tryd.prog 45 #[.int .i64 T] W fun e w' => e = .returned (.string DT) ∧ Below W.heap.size W w') := Lib.hid fun W => by rw [← hDT]; exact decimal_any T hT W
  have HC : Hid (∀ W, Calls Tryd.prog 45 #[.int .i64 C] W fun e w' => e = .returned (.string DC) ∧ Below W.heap.size W w') := Lib.hid fun W => by rw [← hDC]; exact decimal_any C hC W
  have HF : Hid (∀ W, Calls Tryd.prog 45 #[.int .i64 F] W fun e w' => e = .returned (.string DF) ∧ Below W.heap.size W w') := Lib.hid fun W => by rw [← hDF]; exact decimal_any F hF W
  clear hDT hDC hDF hWK hTX h hz0 hb0
  go_enter Tryd.func20, Tryd.ntmps20
  go_upto_region 1 with fail
  try rw [hU]
  clear hU
  go_upto_region 3 with fail
  have hb1 : Below U.heap.size U (U.alloc (.cells #[.string { data := #[110, 111, 110, 101] }, .string { data := #[103, 111, 111, 100] }, .string { data := #[108, 111, 115, 116] }, .string { data := #[106, 97, 109, 109, 101, 100] }, .string { data := #[99, 111, 108, 108, 105, 100, 101, 100] }] 9)) := (Below.refl _ _).alloc (Nat.le_refl _) _
  have hn1 := heap_alloc_new U (.cells #[.string { data := #[110, 111, 110, 101] }, .string { data := #[103, 111, 111, 100] }, .string { data := #[108, 111, 115, 116] }, .string { data := #[106, 97, 109, 109, 101, 100] }, .string { data := #[99, 111, 108, 108, 105, 100, 101, 100] }] 9)
  generalize hV : World.alloc U _ = V at hb1 hn1 ⊢
  have T1 := HT0.out.keep hb1
  obtain ⟨f0, f1, f2, f3, f4, _⟩ := T1
  simp only [Nat.add_zero, Nat.zero_add, Nat.reduceAdd] at f0 f1 f2 f3 f4
  have w0 := cell_of_row _ _ 0 _ _ _ hn1
  have w1 := cell_of_row _ _ 1 _ _ _ hn1
  have w2 := cell_of_row _ _ 2 _ _ _ hn1
  have w3 := cell_of_row _ _ 3 _ _ _ hn1
  have w4 := cell_of_row _ _ 4 _ _ _ hn1
  simp at w0 w1 w2 w3 w4
  have HB1 := Lib.hid (HB0.out.trans (hb1.mono HB0.out.size))
  have HT1 := Lib.hid (HT0.out.keep hb1)
  have HBY1 := Lib.hid (HBY.out.below hb1)
  have hz1 : w.heap.size + 1 ≤ V.heap.size := by have := hb1.size; have := HZ0.out; omega
  clear hV hb1 hn1 HT0 HB0 HBY T0
  have hk : KD < 0 ∨ 4 < KD ∨ KD = 0 ∨ KD = 1 ∨ KD = 2 ∨ KD = 3 ∨ KD = 4 := by omega
  rcases hk with e | e | e | e | e | e | e
  case' inl =>
    have d1 : decide (0 ≤ KD) = false := by simp; omega
    have hw := HWK.out
    rw [wordS_out (.inl e)] at hw
  case' inr.inl =>
    have d1 : decide (0 ≤ KD) = true := by simp; omega
    have d2 : decide (KD < 5) = false := by simp; omega
    have hw := HWK.out
    rw [wordS_out (.inr e)] at hw
  case' inr.inr.inl =>
    rw [e] at f3
    have hw : ({ data := #[110, 111, 110, 101] } : ByteArray) = WK := by rw [← HWK.out, e]; rfl
  case' inr.inr.inr.inl =>
    rw [e] at f3
    have hw : ({ data := #[103, 111, 111, 100] } : ByteArray) = WK := by rw [← HWK.out, e]; rfl
  case' inr.inr.inr.inr.inl =>
    rw [e] at f3
    have hw : ({ data := #[108, 111, 115, 116] } : ByteArray) = WK := by rw [← HWK.out, e]; rfl
  case' inr.inr.inr.inr.inr.inl =>
    rw [e] at f3
    have hw : ({ data := #[106, 97, 109, 109, 101, 100] } : ByteArray) = WK := by rw [← HWK.out, e]; rfl
  case' inr.inr.inr.inr.inr.inr =>
    rw [e] at f3
    have hw : ({ data := #[99, 111, 108, 108, 105, 100, 101, 100] } : ByteArray) = WK := by rw [← HWK.out, e]; rfl
  all_goals
    clear HWK e
    subst hw
    go_wp2_with fail
    refine (rhex_any (.slice a n c) bs V HBY1.out hm).mono ?_
    rintro e w1' ⟨rfl, hB1'⟩
    replace HT1 := Lib.hid (HT1.out.keep hB1')
    replace hz1 := Nat.le_trans hz1 hB1'.size
    replace HB1 := Lib.hid (HB1.out.trans (hB1'.mono HB1.out.size))
    clear hB1' HBY1 w0 w1 w2 w3 w4 f0 f1 f2 f3 f4
    by_cases hbs : bs = []
    · have htx := HTX.out
      rw [show textB bs = { data := #[45] } from if_pos hbs] at htx
      subst hbs
      have hnil : strB (hexB []) = { data := #[] } := rfl
      rw [hnil]
      subst htx
      clear HTX hnil
      go_upto_region 8 with fail
      refine wp_region_held_drew (S := (fun W' : World => Below w.heap.size w W' ∧ w.heap.size + 1 ≤ W'.heap.size ∧ Cells W' (blk w.heap.size 0 0 [.int .i64 T, .int .i64 C, .int .i64 F, .int .i64 KD, .slice a n c]))) (by kernel_rfl) (⟨HB1.out.drew, hz1, HT1.out.drew⟩) (fun hHeld => ?_)
      refine wpAnyH_take (i := 0) (oi := _) (v := ?_) (by rw [List.getElem?_toArray]; rfl) (by kernel_rfl) (by kernel_rfl) (by kernel_rfl) (by exact fun _ _ _ h => h) (Or.inl ⟨by rfl, ?_⟩) (by assumption) ?_
      rotate_left
      · intro w hSw
        try simp only [Cells, blk, List.cons_append, List.nil_append, and_true, Nat.reduceAdd, Nat.add_zero, Nat.zero_add] at hSw
        go_simp
        try with_reducible rfl
      simp only [Act.put, List.setIfInBounds_toArray, List.set_cons_zero, List.set_cons_succ]
      refine wpAnyH_take (i := 1) (oi := _) (v := ?_) (by rw [List.getElem?_toArray]; rfl) (by kernel_rfl) (by kernel_rfl) (by kernel_rfl) (by exact fun _ _ _ h => h) (Or.inl ⟨by rfl, ?_⟩) (by assumption) ?_
      rotate_left
      · intro w hSw
        try simp only [Cells, blk, List.cons_append, List.nil_append, and_true, Nat.reduceAdd, Nat.add_zero, Nat.zero_add] at hSw
        go_simp
        try with_reducible rfl
      simp only [Act.put, List.setIfInBounds_toArray, List.set_cons_zero, List.set_cons_succ]
      refine wpAnyH_take (i := 4) (oi := _) (v := ?_) (by rw [List.getElem?_toArray]; rfl) (by kernel_rfl) (by kernel_rfl) (by kernel_rfl) (by exact fun _ _ _ h => h) (Or.inl ⟨by rfl, ?_⟩) (by assumption) ?_
      rotate_left
      · intro w hSw
        try simp only [Cells, blk, List.cons_append, List.nil_append, and_true, Nat.reduceAdd, Nat.add_zero, Nat.zero_add] at hSw
        go_simp
        try with_reducible rfl
      simp only [Act.put, List.setIfInBounds_toArray, List.set_cons_zero, List.set_cons_succ]
      refine wpAnyH_take (i := 5) (oi := _) (v := ?_) (by rw [List.getElem?_toArray]; rfl) (by kernel_rfl) (by kernel_rfl) (by kernel_rfl) (by exact fun _ _ _ h => h) (Or.inl ⟨by rfl, ?_⟩) (by assumption) ?_
      rotate_left
      · intro w hSw
        try simp only [Cells, blk, List.cons_append, List.nil_append, and_true, Nat.reduceAdd, Nat.add_zero, Nat.zero_add] at hSw
        go_simp
        try with_reducible rfl
      simp only [Act.put, List.setIfInBounds_toArray, List.set_cons_zero, List.set_cons_succ]
      refine wpAnyH_take (i := 9) (oi := _) (v := ?_) (by rw [List.getElem?_toArray]; rfl) (by kernel_rfl) (by kernel_rfl) (by kernel_rfl) (by exact fun _ _ _ h => h) (Or.inl ⟨by rfl, ?_⟩) (by assumption) ?_
      rotate_left
      · intro w hSw
        try simp only [Cells, blk, List.cons_append, List.nil_append, and_true, Nat.reduceAdd, Nat.add_zero, Nat.zero_add] at hSw
        go_simp
        try with_reducible rfl
      simp only [Act.put, List.setIfInBounds_toArray, List.set_cons_zero, List.set_cons_succ]
      refine wpAnyH_take (i := 10) (oi := _) (v := ?_) (by rw [List.getElem?_toArray]; rfl) (by kernel_rfl) (by kernel_rfl) (by kernel_rfl) (by exact fun _ _ _ h => h) (Or.inl ⟨by rfl, ?_⟩) (by assumption) ?_
      rotate_left
      · intro w hSw
        try simp only [Cells, blk, List.cons_append, List.nil_append, and_true, Nat.reduceAdd, Nat.add_zero, Nat.zero_add] at hSw
        go_simp
        try with_reducible rfl
      simp only [Act.put, List.setIfInBounds_toArray, List.set_cons_zero, List.set_cons_succ]
      refine wpAnyH_take (i := 14) (oi := _) (v := ?_) (by rw [List.getElem?_toArray]; rfl) (by kernel_rfl) (by kernel_rfl) (by kernel_rfl) (by exact fun _ _ _ h => h) (Or.inl ⟨by rfl, ?_⟩) (by assumption) ?_
      rotate_left
      · intro w hSw
        try simp only [Cells, blk, List.cons_append, List.nil_append, and_true, Nat.reduceAdd, Nat.add_zero, Nat.zero_add] at hSw
        go_simp
        try with_reducible rfl
      simp only [Act.put, List.setIfInBounds_toArray, List.set_cons_zero, List.set_cons_succ]
      refine wpAnyH_take (i := 17) (oi := _) (v := ?_) (by rw [List.getElem?_toArray]; rfl) (by kernel_rfl) (by kernel_rfl) (by kernel_rfl) (by exact fun _ _ _ h => h) (Or.inl ⟨by rfl, ?_⟩) (by assumption) ?_
      rotate_left
      · intro w hSw
        try simp only [Cells, blk, List.cons_append, List.nil_append, and_true, Nat.reduceAdd, Nat.add_zero, Nat.zero_add] at hSw
        go_simp
        try with_reducible rfl
      simp only [Act.put, List.setIfInBounds_toArray, List.set_cons_zero, List.set_cons_succ]
      refine wpAnyH_ready (rs := [2]) (by kernel_rfl) (by simp) (AllReadyH.cons (o := _) (by rw [List.getElem?_toArray]; rfl) (fun K hK => ?_) AllReadyH.nil)
      go_simp
      go_at_call 45
      refine (HT.out _).mono ?_
      rintro e wT ⟨rfl, hBT⟩
      have hKp := hHeld
      clear hHeld
      refine hK.out _ _ (⟨hKp.1.trans (hBT.mono hKp.1.size), Nat.le_trans hKp.2.1 hBT.size, hKp.2.2.keep hBT⟩) (fun hHeld => ?_)
      clear hK K
      try simp only [Act.put, List.setIfInBounds_toArray, List.set_cons_zero, List.set_cons_succ]
      refine wpAnyH_take (i := 3) (oi := _) (v := ?_) (by rw [List.getElem?_toArray]; rfl) (by kernel_rfl) (by kernel_rfl) (by kernel_rfl) (by exact fun _ _ _ h => h) (Or.inl ⟨by rfl, ?_⟩) (by assumption) ?_
      rotate_left
      · intro w hSw
        try simp only [Cells, blk, List.cons_append, List.nil_append, and_true, Nat.reduceAdd, Nat.add_zero, Nat.zero_add] at hSw
        go_simp
        try with_reducible rfl
      simp only [Act.put, List.setIfInBounds_toArray, List.set_cons_zero, List.set_cons_succ]
      refine wpAnyH_ready (rs := [6]) (by kernel_rfl) (by simp) (AllReadyH.cons (o := _) (by rw [List.getElem?_toArray]; rfl) (fun K hK => ?_) AllReadyH.nil)
      go_simp
      go_at_call 45
      refine (HC.out _).mono ?_
      rintro e wC ⟨rfl, hBC⟩
      have hKp := hHeld
      clear hHeld
      refine hK.out _ _ (⟨hKp.1.trans (hBC.mono hKp.1.size), Nat.le_trans hKp.2.1 hBC.size, hKp.2.2.keep hBC⟩) (fun hHeld => ?_)
      clear hK K
      try simp only [Act.put, List.setIfInBounds_toArray, List.set_cons_zero, List.set_cons_succ]
      refine wpAnyH_take (i := 7) (oi := _) (v := ?_) (by rw [List.getElem?_toArray]; rfl) (by kernel_rfl) (by kernel_rfl) (by kernel_rfl) (by exact fun _ _ _ h => h) (Or.inl ⟨by rfl, ?_⟩) (by assumption) ?_
      rotate_left
      · intro w hSw
        try simp only [Cells, blk, List.cons_append, List.nil_append, and_true, Nat.reduceAdd, Nat.add_zero, Nat.zero_add] at hSw
        go_simp
        try with_reducible rfl
      simp only [Act.put, List.setIfInBounds_toArray, List.set_cons_zero, List.set_cons_succ]
      refine wpAnyH_take (i := 8) (oi := _) (v := ?_) (by rw [List.getElem?_toArray]; rfl) (by kernel_rfl) (by kernel_rfl) (by kernel_rfl) (by exact fun _ _ _ h => h) (Or.inl ⟨by rfl, ?_⟩) (by assumption) ?_
      rotate_left
      · intro w hSw
        try simp only [Cells, blk, List.cons_append, List.nil_append, and_true, Nat.reduceAdd, Nat.add_zero, Nat.zero_add] at hSw
        go_simp
        try with_reducible rfl
      simp only [Act.put, List.setIfInBounds_toArray, List.set_cons_zero, List.set_cons_succ]
      refine wpAnyH_ready (rs := [11]) (by kernel_rfl) (by simp) (AllReadyH.cons (o := _) (by rw [List.getElem?_toArray]; rfl) (fun K hK => ?_) AllReadyH.nil)
      go_simp
      go_at_call 45
      refine (HF.out _).mono ?_
      rintro e wF ⟨rfl, hBF⟩
      have hKp := hHeld
      clear hHeld
      refine hK.out _ _ (⟨hKp.1.trans (hBF.mono hKp.1.size), Nat.le_trans hKp.2.1 hBF.size, hKp.2.2.keep hBF⟩) (fun hHeld => ?_)
      clear hK K
      try simp only [Act.put, List.setIfInBounds_toArray, List.set_cons_zero, List.set_cons_succ]
      refine wpAnyH_take (i := 12) (oi := _) (v := ?_) (by rw [List.getElem?_toArray]; rfl) (by kernel_rfl) (by kernel_rfl) (by kernel_rfl) (by exact fun _ _ _ h => h) (Or.inl ⟨by rfl, ?_⟩) (by assumption) ?_
      rotate_left
      · intro w hSw
        try simp only [Cells, blk, List.cons_append, List.nil_append, and_true, Nat.reduceAdd, Nat.add_zero, Nat.zero_add] at hSw
        go_simp
        try with_reducible rfl
      simp only [Act.put, List.setIfInBounds_toArray, List.set_cons_zero, List.set_cons_succ]
      refine wpAnyH_take (i := 13) (oi := _) (v := ?_) (by rw [List.getElem?_toArray]; rfl) (by kernel_rfl) (by kernel_rfl) (by kernel_rfl) (by exact fun _ _ _ h => h) (Or.inl ⟨by rfl, ?_⟩) (by assumption) ?_
      rotate_left
      · intro w hSw
        try simp only [Cells, blk, List.cons_append, List.nil_append, and_true, Nat.reduceAdd, Nat.add_zero, Nat.zero_add] at hSw
        go_simp
        try with_reducible rfl
      simp only [Act.put, List.setIfInBounds_toArray, List.set_cons_zero, List.set_cons_succ]
      refine wpAnyH_take (i := 15) (oi := _) (v := ?_) (by rw [List.getElem?_toArray]; rfl) (by kernel_rfl) (by kernel_rfl) (by kernel_rfl) (by exact fun _ _ _ h => h) (Or.inl ⟨by rfl, ?_⟩) (by assumption) ?_
      rotate_left
      · intro w hSw
        try simp only [Cells, blk, List.cons_append, List.nil_append, and_true, Nat.reduceAdd, Nat.add_zero, Nat.zero_add] at hSw
        go_simp
        try with_reducible rfl
      simp only [Act.put, List.setIfInBounds_toArray, List.set_cons_zero, List.set_cons_succ]
      refine wpAnyH_take (i := 16) (oi := _) (v := ?_) (by rw [List.getElem?_toArray]; rfl) (by kernel_rfl) (by kernel_rfl) (by kernel_rfl) (by exact fun _ _ _ h => h) (Or.inl ⟨by rfl, ?_⟩) (by assumption) ?_
      rotate_left
      · intro w hSw
        try simp only [Cells, blk, List.cons_append, List.nil_append, and_true, Nat.reduceAdd, Nat.add_zero, Nat.zero_add] at hSw
        go_simp
        try with_reducible rfl
      simp only [Act.put, List.setIfInBounds_toArray, List.set_cons_zero, List.set_cons_succ]
      refine wpAnyH_take (i := 18) (oi := _) (v := ?_) (by rw [List.getElem?_toArray]; rfl) (by kernel_rfl) (by kernel_rfl) (by kernel_rfl) (by exact fun _ _ _ h => h) (Or.inl ⟨by rfl, ?_⟩) (by assumption) ?_
      rotate_left
      · intro w hSw
        try simp only [Cells, blk, List.cons_append, List.nil_append, and_true, Nat.reduceAdd, Nat.add_zero, Nat.zero_add] at hSw
        go_simp
        try with_reducible rfl
      simp only [Act.put, List.setIfInBounds_toArray, List.set_cons_zero, List.set_cons_succ]
      refine wpAnyH_take (i := 19) (oi := _) (v := ?_) (by rw [List.getElem?_toArray]; rfl) (by kernel_rfl) (by kernel_rfl) (by kernel_rfl) (by exact fun _ _ _ h => h) (Or.inl ⟨by rfl, ?_⟩) (by assumption) ?_
      rotate_left
      · intro w hSw
        try simp only [Cells, blk, List.cons_append, List.nil_append, and_true, Nat.reduceAdd, Nat.add_zero, Nat.zero_add] at hSw
        go_simp
        try with_reducible rfl
      simp only [Act.put, List.setIfInBounds_toArray, List.set_cons_zero, List.set_cons_succ]
      refine wpAnyH_done (by kernel_rfl) ?_ _
      go_wp2
      go_ret
      exact ⟨by rw [HL.out]; rfl, hHeld.1⟩
    · have htx := HTX.out
      rw [show textB bs = strB (hexB bs) from if_neg hbs] at htx
      have e2 := hex_nil bs hbs
      rw [htx] at e2 ⊢
      clear HTX hbs htx
      go_upto_region 8 with fail
      refine wp_region_held_drew (S := (fun W' : World => Below w.heap.size w W' ∧ w.heap.size + 1 ≤ W'.heap.size ∧ Cells W' (blk w.heap.size 0 0 [.int .i64 T, .int .i64 C, .int .i64 F, .int .i64 KD, .slice a n c]))) (by kernel_rfl) (⟨HB1.out.drew, hz1, HT1.out.drew⟩) (fun hHeld => ?_)
      refine wpAnyH_take (i := 0) (oi := _) (v := ?_) (by rw [List.getElem?_toArray]; rfl) (by kernel_rfl) (by kernel_rfl) (by kernel_rfl) (by exact fun _ _ _ h => h) (Or.inl ⟨by rfl, ?_⟩) (by assumption) ?_
      rotate_left
      · intro w hSw
        try simp only [Cells, blk, List.cons_append, List.nil_append, and_true, Nat.reduceAdd, Nat.add_zero, Nat.zero_add] at hSw
        go_simp
        try with_reducible rfl
      simp only [Act.put, List.setIfInBounds_toArray, List.set_cons_zero, List.set_cons_succ]
      refine wpAnyH_take (i := 1) (oi := _) (v := ?_) (by rw [List.getElem?_toArray]; rfl) (by kernel_rfl) (by kernel_rfl) (by kernel_rfl) (by exact fun _ _ _ h => h) (Or.inl ⟨by rfl, ?_⟩) (by assumption) ?_
      rotate_left
      · intro w hSw
        try simp only [Cells, blk, List.cons_append, List.nil_append, and_true, Nat.reduceAdd, Nat.add_zero, Nat.zero_add] at hSw
        go_simp
        try with_reducible rfl
      simp only [Act.put, List.setIfInBounds_toArray, List.set_cons_zero, List.set_cons_succ]
      refine wpAnyH_take (i := 4) (oi := _) (v := ?_) (by rw [List.getElem?_toArray]; rfl) (by kernel_rfl) (by kernel_rfl) (by kernel_rfl) (by exact fun _ _ _ h => h) (Or.inl ⟨by rfl, ?_⟩) (by assumption) ?_
      rotate_left
      · intro w hSw
        try simp only [Cells, blk, List.cons_append, List.nil_append, and_true, Nat.reduceAdd, Nat.add_zero, Nat.zero_add] at hSw
        go_simp
        try with_reducible rfl
      simp only [Act.put, List.setIfInBounds_toArray, List.set_cons_zero, List.set_cons_succ]
      refine wpAnyH_take (i := 5) (oi := _) (v := ?_) (by rw [List.getElem?_toArray]; rfl) (by kernel_rfl) (by kernel_rfl) (by kernel_rfl) (by exact fun _ _ _ h => h) (Or.inl ⟨by rfl, ?_⟩) (by assumption) ?_
      rotate_left
      · intro w hSw
        try simp only [Cells, blk, List.cons_append, List.nil_append, and_true, Nat.reduceAdd, Nat.add_zero, Nat.zero_add] at hSw
        go_simp
        try with_reducible rfl
      simp only [Act.put, List.setIfInBounds_toArray, List.set_cons_zero, List.set_cons_succ]
      refine wpAnyH_take (i := 9) (oi := _) (v := ?_) (by rw [List.getElem?_toArray]; rfl) (by kernel_rfl) (by kernel_rfl) (by kernel_rfl) (by exact fun _ _ _ h => h) (Or.inl ⟨by rfl, ?_⟩) (by assumption) ?_
      rotate_left
      · intro w hSw
        try simp only [Cells, blk, List.cons_append, List.nil_append, and_true, Nat.reduceAdd, Nat.add_zero, Nat.zero_add] at hSw
        go_simp
        try with_reducible rfl
      simp only [Act.put, List.setIfInBounds_toArray, List.set_cons_zero, List.set_cons_succ]
      refine wpAnyH_take (i := 10) (oi := _) (v := ?_) (by rw [List.getElem?_toArray]; rfl) (by kernel_rfl) (by kernel_rfl) (by kernel_rfl) (by exact fun _ _ _ h => h) (Or.inl ⟨by rfl, ?_⟩) (by assumption) ?_
      rotate_left
      · intro w hSw
        try simp only [Cells, blk, List.cons_append, List.nil_append, and_true, Nat.reduceAdd, Nat.add_zero, Nat.zero_add] at hSw
        go_simp
        try with_reducible rfl
      simp only [Act.put, List.setIfInBounds_toArray, List.set_cons_zero, List.set_cons_succ]
      refine wpAnyH_take (i := 14) (oi := _) (v := ?_) (by rw [List.getElem?_toArray]; rfl) (by kernel_rfl) (by kernel_rfl) (by kernel_rfl) (by exact fun _ _ _ h => h) (Or.inl ⟨by rfl, ?_⟩) (by assumption) ?_
      rotate_left
      · intro w hSw
        try simp only [Cells, blk, List.cons_append, List.nil_append, and_true, Nat.reduceAdd, Nat.add_zero, Nat.zero_add] at hSw
        go_simp
        try with_reducible rfl
      simp only [Act.put, List.setIfInBounds_toArray, List.set_cons_zero, List.set_cons_succ]
      refine wpAnyH_take (i := 17) (oi := _) (v := ?_) (by rw [List.getElem?_toArray]; rfl) (by kernel_rfl) (by kernel_rfl) (by kernel_rfl) (by exact fun _ _ _ h => h) (Or.inl ⟨by rfl, ?_⟩) (by assumption) ?_
      rotate_left
      · intro w hSw
        try simp only [Cells, blk, List.cons_append, List.nil_append, and_true, Nat.reduceAdd, Nat.add_zero, Nat.zero_add] at hSw
        go_simp
        try with_reducible rfl
      simp only [Act.put, List.setIfInBounds_toArray, List.set_cons_zero, List.set_cons_succ]
      refine wpAnyH_ready (rs := [2]) (by kernel_rfl) (by simp) (AllReadyH.cons (o := _) (by rw [List.getElem?_toArray]; rfl) (fun K hK => ?_) AllReadyH.nil)
      go_simp
      go_at_call 45
      refine (HT.out _).mono ?_
      rintro e wT ⟨rfl, hBT⟩
      have hKp := hHeld
      clear hHeld
      refine hK.out _ _ (⟨hKp.1.trans (hBT.mono hKp.1.size), Nat.le_trans hKp.2.1 hBT.size, hKp.2.2.keep hBT⟩) (fun hHeld => ?_)
      clear hK K
      try simp only [Act.put, List.setIfInBounds_toArray, List.set_cons_zero, List.set_cons_succ]
      refine wpAnyH_take (i := 3) (oi := _) (v := ?_) (by rw [List.getElem?_toArray]; rfl) (by kernel_rfl) (by kernel_rfl) (by kernel_rfl) (by exact fun _ _ _ h => h) (Or.inl ⟨by rfl, ?_⟩) (by assumption) ?_
      rotate_left
      · intro w hSw
        try simp only [Cells, blk, List.cons_append, List.nil_append, and_true, Nat.reduceAdd, Nat.add_zero, Nat.zero_add] at hSw
        go_simp
        try with_reducible rfl
      simp only [Act.put, List.setIfInBounds_toArray, List.set_cons_zero, List.set_cons_succ]
      refine wpAnyH_ready (rs := [6]) (by kernel_rfl) (by simp) (AllReadyH.cons (o := _) (by rw [List.getElem?_toArray]; rfl) (fun K hK => ?_) AllReadyH.nil)
      go_simp
      go_at_call 45
      refine (HC.out _).mono ?_
      rintro e wC ⟨rfl, hBC⟩
      have hKp := hHeld
      clear hHeld
      refine hK.out _ _ (⟨hKp.1.trans (hBC.mono hKp.1.size), Nat.le_trans hKp.2.1 hBC.size, hKp.2.2.keep hBC⟩) (fun hHeld => ?_)
      clear hK K
      try simp only [Act.put, List.setIfInBounds_toArray, List.set_cons_zero, List.set_cons_succ]
      refine wpAnyH_take (i := 7) (oi := _) (v := ?_) (by rw [List.getElem?_toArray]; rfl) (by kernel_rfl) (by kernel_rfl) (by kernel_rfl) (by exact fun _ _ _ h => h) (Or.inl ⟨by rfl, ?_⟩) (by assumption) ?_
      rotate_left
      · intro w hSw
        try simp only [Cells, blk, List.cons_append, List.nil_append, and_true, Nat.reduceAdd, Nat.add_zero, Nat.zero_add] at hSw
        go_simp
        try with_reducible rfl
      simp only [Act.put, List.setIfInBounds_toArray, List.set_cons_zero, List.set_cons_succ]
      refine wpAnyH_take (i := 8) (oi := _) (v := ?_) (by rw [List.getElem?_toArray]; rfl) (by kernel_rfl) (by kernel_rfl) (by kernel_rfl) (by exact fun _ _ _ h => h) (Or.inl ⟨by rfl, ?_⟩) (by assumption) ?_
      rotate_left
      · intro w hSw
        try simp only [Cells, blk, List.cons_append, List.nil_append, and_true, Nat.reduceAdd, Nat.add_zero, Nat.zero_add] at hSw
        go_simp
        try with_reducible rfl
      simp only [Act.put, List.setIfInBounds_toArray, List.set_cons_zero, List.set_cons_succ]
      refine wpAnyH_ready (rs := [11]) (by kernel_rfl) (by simp) (AllReadyH.cons (o := _) (by rw [List.getElem?_toArray]; rfl) (fun K hK => ?_) AllReadyH.nil)
      go_simp
      go_at_call 45
      refine (HF.out _).mono ?_
      rintro e wF ⟨rfl, hBF⟩
      have hKp := hHeld
      clear hHeld
      refine hK.out _ _ (⟨hKp.1.trans (hBF.mono hKp.1.size), Nat.le_trans hKp.2.1 hBF.size, hKp.2.2.keep hBF⟩) (fun hHeld => ?_)
      clear hK K
      try simp only [Act.put, List.setIfInBounds_toArray, List.set_cons_zero, List.set_cons_succ]
      refine wpAnyH_take (i := 12) (oi := _) (v := ?_) (by rw [List.getElem?_toArray]; rfl) (by kernel_rfl) (by kernel_rfl) (by kernel_rfl) (by exact fun _ _ _ h => h) (Or.inl ⟨by rfl, ?_⟩) (by assumption) ?_
      rotate_left
      · intro w hSw
        try simp only [Cells, blk, List.cons_append, List.nil_append, and_true, Nat.reduceAdd, Nat.add_zero, Nat.zero_add] at hSw
        go_simp
        try with_reducible rfl
      simp only [Act.put, List.setIfInBounds_toArray, List.set_cons_zero, List.set_cons_succ]
      refine wpAnyH_take (i := 13) (oi := _) (v := ?_) (by rw [List.getElem?_toArray]; rfl) (by kernel_rfl) (by kernel_rfl) (by kernel_rfl) (by exact fun _ _ _ h => h) (Or.inl ⟨by rfl, ?_⟩) (by assumption) ?_
      rotate_left
      · intro w hSw
        try simp only [Cells, blk, List.cons_append, List.nil_append, and_true, Nat.reduceAdd, Nat.add_zero, Nat.zero_add] at hSw
        go_simp
        try with_reducible rfl
      simp only [Act.put, List.setIfInBounds_toArray, List.set_cons_zero, List.set_cons_succ]
      refine wpAnyH_take (i := 15) (oi := _) (v := ?_) (by rw [List.getElem?_toArray]; rfl) (by kernel_rfl) (by kernel_rfl) (by kernel_rfl) (by exact fun _ _ _ h => h) (Or.inl ⟨by rfl, ?_⟩) (by assumption) ?_
      rotate_left
      · intro w hSw
        try simp only [Cells, blk, List.cons_append, List.nil_append, and_true, Nat.reduceAdd, Nat.add_zero, Nat.zero_add] at hSw
        go_simp
        try with_reducible rfl
      simp only [Act.put, List.setIfInBounds_toArray, List.set_cons_zero, List.set_cons_succ]
      refine wpAnyH_take (i := 16) (oi := _) (v := ?_) (by rw [List.getElem?_toArray]; rfl) (by kernel_rfl) (by kernel_rfl) (by kernel_rfl) (by exact fun _ _ _ h => h) (Or.inl ⟨by rfl, ?_⟩) (by assumption) ?_
      rotate_left
      · intro w hSw
        try simp only [Cells, blk, List.cons_append, List.nil_append, and_true, Nat.reduceAdd, Nat.add_zero, Nat.zero_add] at hSw
        go_simp
        try with_reducible rfl
      simp only [Act.put, List.setIfInBounds_toArray, List.set_cons_zero, List.set_cons_succ]
      refine wpAnyH_take (i := 18) (oi := _) (v := ?_) (by rw [List.getElem?_toArray]; rfl) (by kernel_rfl) (by kernel_rfl) (by kernel_rfl) (by exact fun _ _ _ h => h) (Or.inl ⟨by rfl, ?_⟩) (by assumption) ?_
      rotate_left
      · intro w hSw
        try simp only [Cells, blk, List.cons_append, List.nil_append, and_true, Nat.reduceAdd, Nat.add_zero, Nat.zero_add] at hSw
        go_simp
        try with_reducible rfl
      simp only [Act.put, List.setIfInBounds_toArray, List.set_cons_zero, List.set_cons_succ]
      refine wpAnyH_take (i := 19) (oi := _) (v := ?_) (by rw [List.getElem?_toArray]; rfl) (by kernel_rfl) (by kernel_rfl) (by kernel_rfl) (by exact fun _ _ _ h => h) (Or.inl ⟨by rfl, ?_⟩) (by assumption) ?_
      rotate_left
      · intro w hSw
        try simp only [Cells, blk, List.cons_append, List.nil_append, and_true, Nat.reduceAdd, Nat.add_zero, Nat.zero_add] at hSw
        go_simp
        try with_reducible rfl
      simp only [Act.put, List.setIfInBounds_toArray, List.set_cons_zero, List.set_cons_succ]
      refine wpAnyH_done (by kernel_rfl) ?_ _
      go_wp2
      go_ret
      exact ⟨by rw [HL.out]; rfl, hHeld.1⟩
end Go.Proofs.YtccknpdnapoboaaDoor
