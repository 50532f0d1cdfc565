/- capture.word, capture.Line. -/
import Derived.Test.YtccknpdnapoboaaDoorCpH
import Derived.Test.YtccknpdnapoboaaDoorCpSh
import Derived.Test.YtccknpdnapoboaaDoorCpZ
import Derived.Lib.AppendIntMem
import Derived.Lib.ItoaLen
namespace Go.Proofs.YtccknpdnapoboaaDoor
open Go.RowKit

/-- the word for a kind -/
def wordS (k : Int) : ByteArray :=
  if k = 0 then { data := #[110, 111, 110, 101] } else if k = 1 then { data := #[103, 111, 111, 100] } else if k = 2 then { data := #[108, 111, 115, 116] } else if k = 3 then { data := #[106, 97, 109, 109, 101, 100] }
  else if k = 4 then { data := #[99, 111, 108, 108, 105, 100, 101, 100] } else { data := #[117, 110, 107, 110, 111, 119, 110] }
theorem wordS_out {k : Int} (h : k < 0 ∨ 4 < k) : wordS k = { data := #[117, 110, 107, 110, 111, 119, 110] } := by
  unfold wordS
  rw [if_neg (by omega), if_neg (by omega), if_neg (by omega), if_neg (by omega), if_neg (by omega)]
set_option linter.unusedSimpArgs false in
set_option maxRecDepth 100000 in
theorem word_any (k : Int) (w : World) : Calls Tryd.prog 43 #[.int .i64 k] w fun e w' => e = .returned (.string (wordS k)) ∧ Below w.heap.size w w' := by
  have fin : ∀ cs : Array Value, Below w.heap.size w (w.alloc (.cells cs 116)) := fun cs => (Below.refl _ _).alloc (Nat.le_refl _) _
  by_cases h0 : k < 0
  · have d1 : decide (k < 0) = true := by simpa using h0
    rw [wordS_out (.inl h0)]
    go_enter Tryd.func43, Tryd.ntmps43
    go_wp2
    go_ret
    exact ⟨rfl, fin _⟩
  by_cases h5 : 4 < k
  · have d1 : decide (k < 0) = false := by simpa using h0
    have d2 : decide (5 ≤ k) = true := by simp; omega
    rw [wordS_out (.inr h5)]
    go_enter Tryd.func43, Tryd.ntmps43
    go_wp2
    go_ret
    exact ⟨rfl, fin _⟩
  have h : k = 0 ∨ k = 1 ∨ k = 2 ∨ k = 3 ∨ k = 4 := by omega
  clear h0 h5
  rcases h with rfl | rfl | rfl | rfl | rfl
  all_goals
    go_enter Tryd.func43, Tryd.ntmps43
    go_wp2
    go_ret
    exact ⟨rfl, fin _⟩
/-- the text for bytes -/
def textB (bs : List Nat) : ByteArray := if bs = [] then { data := #[45] } else strB (hexB bs)
/-- the words of a record -/
def lineS (T C F K : Int) (bs : List Nat) : ByteArray := ⟨(Lib.join ([⟨(Lib.itoa T).toArray⟩, ⟨(Lib.itoa C).toArray⟩, ⟨(Lib.itoa F).toArray⟩, wordS K, textB bs].map (fun x : ByteArray => x.data.toList)) [32]).toArray⟩
theorem hex_nil (bs : List Nat) (h : bs ≠ []) : ((strB (hexB bs)).toList == []) = false := by
  have h1 : (strB (hexB bs)).size = 2 * bs.length := by rw [strB_size, hexB_len]
  have h2 : 0 < bs.length := List.length_pos_iff.2 h
  refine beq_eq_false_iff_ne.2 fun e => ?_
  have h3 := congrArg List.length e
  rw [ByteArray.toList_eq] at h3
  simp only [Array.length_toList, List.length_nil] at h3
  have h4 : (strB (hexB bs)).data.size = (strB (hexB bs)).size := rfl
  omega
theorem wordS_size (k : Int) : (wordS k).data.toList.length ≤ 8 := by
  unfold wordS
  repeat' split
  all_goals decide
theorem textB_size (bs : List Nat) : (textB bs).data.toList.length ≤ 2 * bs.length + 1 := by
  unfold textB
  split
  · exact Nat.le_add_left 1 _
  · have h1 : (strB (hexB bs)).size = 2 * bs.length := by rw [strB_size, hexB_len]
    have h4 : (strB (hexB bs)).data.size = (strB (hexB bs)).size := rfl
    simp only [Array.length_toList]
    omega
theorem line_len (T C F K : Int) (bs : List Nat) (hT : -9223372036854775808 ≤ T ∧ T ≤ 9223372036854775807) (hC : -9223372036854775808 ≤ C ∧ C ≤ 9223372036854775807) (hF : -9223372036854775808 ≤ F ∧ F ≤ 9223372036854775807) (hm : bs.length ≤ 10000000) :
    (Lib.join ([⟨(Lib.itoa T).toArray⟩, ⟨(Lib.itoa C).toArray⟩, ⟨(Lib.itoa F).toArray⟩, wordS K, textB bs].map (fun x : ByteArray => x.data.toList)) [32]).length ≤ 140737488355328 := by
  have h1 := Lib.itoa_length_le T hT.1 hT.2
  have h2 := Lib.itoa_length_le C hC.1 hC.2
  have h3 := Lib.itoa_length_le F hF.1 hF.2
  have h4 := wordS_size K
  have h5 := textB_size bs
  have e : Lib.join ([⟨(Lib.itoa T).toArray⟩, ⟨(Lib.itoa C).toArray⟩, ⟨(Lib.itoa F).toArray⟩, wordS K, textB bs].map (fun x : ByteArray => x.data.toList)) [32] =
      Lib.itoa T ++ ([32] ++ (Lib.itoa C ++ ([32] ++ (Lib.itoa F ++ ([32] ++ ((wordS K).data.toList ++ ([32] ++ (textB bs).data.toList))))))) := by
    simp [Lib.join, List.intercalate, List.intersperse]
  rw [e]
  simp only [List.length_append, List.length_cons, List.length_nil]
  omega
theorem cell_of_list5 {w : World} {i : Nat} {t : TypeId} {x0 x1 x2 x3 x4 : ByteArray} (h : w.heap[i]? = some (.cells #[.string x0, .string x1, .string x2, .string x3, .string x4] t (0, 0))) {j : Nat} {x : ByteArray} (hj : [x0, x1, x2, x3, x4][j]? = some x) : w.cell? ⟨i, 0 + j, none⟩ = some (.string x) := by
  rw [Nat.zero_add]
  match j, hj with
  | 0, hj => simp at hj; subst hj; exact cell_of_row _ _ 0 _ _ _ h
  | 1, hj => simp at hj; subst hj; exact cell_of_row _ _ 1 _ _ _ h
  | 2, hj => simp at hj; subst hj; exact cell_of_row _ _ 2 _ _ _ h
  | 3, hj => simp at hj; subst hj; exact cell_of_row _ _ 3 _ _ _ h
  | 4, hj => simp at hj; subst hj; exact cell_of_row _ _ 4 _ _ _ h
def i64b (x : Int) : Prop := -9223372036854775808 ≤ x ∧ x ≤ 9223372036854775807
/-- the table of powers of ten, here and behind whatever follows -/
def Pow10 (w : World) : Prop := Lib.TabBelow Tryd.prog w.heap.size w "internal/strconv.uint64pow10" .u64 Lib.pow10Tab
theorem itoa_any (n : Int) (h : i64b n) (w w' : World) (hp : Pow10 w) (hB : Below w.heap.size w w') :
    Calls Tryd.prog 42 #[.int .i64 n] w' fun e w2 => e = .returned (.string ⟨(Lib.itoa n).toArray⟩) ∧ Below w'.heap.size w' w2 := by
  refine (Tryd.strconv_Itoa n h.1 h.2 w' (hp w' hB)).mono ?_
  rintro e w2 ⟨rfl, k, os, rfl⟩
  exact ⟨rfl, Lib.below_grow _ _ (Nat.le_refl _) _ _⟩
set_option linter.unusedSimpArgs false in
set_option linter.unusedVariables false in
set_option maxRecDepth 100000 in
set_option maxHeartbeats 4000000 in
theorem line_any (T C F KD : Int) (a : Option Addr) (n c : Nat) (bs : List Nat) (w : World) (hp : Pow10 w) (h : BytesAt w (.slice a n c) bs) (hm : bs.length ≤ 10000000) (hT : i64b T) (hC : i64b C) (hF : i64b F) :
    Calls Tryd.prog 19 #[.agg #[.int .i64 T, .int .i64 C, .int .i64 F, .int .i64 KD, .slice a n c]] w fun e w' => e = .returned (.string (lineS T C F KD bs)) ∧ Below w.heap.size w w' := by
  have hb0 : Below w.heap.size w (w.alloc (.cells #[.int .i64 T, .int .i64 C, .int .i64 F, .int .i64 KD, .slice a n c] 35)) := (Below.refl _ _).alloc (Nat.le_refl _) _
  have T0 := cells_new w [.int .i64 T, .int .i64 C, .int .i64 F, .int .i64 KD, .slice a n c] 35
  have hz0 : w.heap.size + 1 ≤ (w.alloc (.cells #[.int .i64 T, .int .i64 C, .int .i64 F, .int .i64 KD, .slice a n c] 35)).heap.size := by simp
  have HH := Lib.hid (hex_any (.slice a n c) bs _ (h.below hb0) hm)
  have HLEN := Lib.hid (line_len T C F KD bs hT hC hF hm)
  have HT0 := Lib.hid T0
  have HB0 := Lib.hid hb0
  have HP := Lib.hid hp
  obtain ⟨L, hL⟩ : ∃ L, lineS T C F KD bs = L := ⟨_, rfl⟩
  rw [hL]
  have hL2 : lineS T C F KD bs = ⟨(Lib.join ([⟨(Lib.itoa T).toArray⟩, ⟨(Lib.itoa C).toArray⟩, ⟨(Lib.itoa F).toArray⟩, wordS KD, textB bs].map (fun x : ByteArray => x.data.toList)) [32]).toArray⟩ := rfl
  rw [hL] at hL2
  clear hL hp h hb0 T0
  by_cases hbs : bs = []
  · have e1 : textB bs = { data := #[45] } := if_pos hbs
    rw [e1] at HLEN hL2
    have hh := HH.out
    rw [hbs] at hh
    have HH2 := Lib.hid hh
    clear HH hh e1 hbs
    have HL := Lib.hid hL2
    clear hL2
    go_enter Tryd.func19, Tryd.ntmps19
    go_wp2_with fail
    refine HH2.out.mono ?_
    rintro e w1 ⟨rfl, hB1⟩
    have hnil : strB (hexB []) = { data := #[] } := rfl
    have HB1 := Lib.hid (HB0.out.trans (hB1.mono HB0.out.size))
    have hz1 := Nat.le_trans hz0 hB1.size
    have HT1 := Lib.hid (HT0.out.keep hB1)
    clear hB1 HB0 HT0 hz0 HH2
    rw [hnil]
    go_upto_region 4 with fail
    refine wp_region_held_drew (S := (fun W' : World => Below w.heap.size w W' ∧ w.heap.size + 1 ≤ W'.heap.size ∧ Cells W' (blk w.heap.size 0 0 [.int .i64 T, .int .i64 C, .int .i64 F, .int .i64 KD, .slice a n c]))) (by kernel_rfl) (⟨HB1.out.drew, hz1, HT1.out.drew⟩) (fun hHeld => ?_)
    refine wpAnyH_take (i := 0) (oi := _) (v := ?_) (by rw [List.getElem?_toArray]; rfl) (by kernel_rfl) (by kernel_rfl) (by kernel_rfl) (by exact fun _ _ _ h => h) (Or.inl ⟨by rfl, ?_⟩) (by assumption) ?_
    rotate_left
    · intro w hSw
      try simp only [Cells, blk, List.cons_append, List.nil_append, and_true, Nat.reduceAdd, Nat.add_zero, Nat.zero_add] at hSw
      go_simp
      try with_reducible rfl
    simp only [Act.put, List.setIfInBounds_toArray, List.set_cons_zero, List.set_cons_succ]
    refine wpAnyH_take (i := 1) (oi := _) (v := ?_) (by rw [List.getElem?_toArray]; rfl) (by kernel_rfl) (by kernel_rfl) (by kernel_rfl) (by exact fun _ _ _ h => h) (Or.inl ⟨by rfl, ?_⟩) (by assumption) ?_
    rotate_left
    · intro w hSw
      try simp only [Cells, blk, List.cons_append, List.nil_append, and_true, Nat.reduceAdd, Nat.add_zero, Nat.zero_add] at hSw
      go_simp
      try with_reducible rfl
    simp only [Act.put, List.setIfInBounds_toArray, List.set_cons_zero, List.set_cons_succ]
    refine wpAnyH_take (i := 3) (oi := _) (v := ?_) (by rw [List.getElem?_toArray]; rfl) (by kernel_rfl) (by kernel_rfl) (by kernel_rfl) (by exact fun _ _ _ h => h) (Or.inl ⟨by rfl, ?_⟩) (by assumption) ?_
    rotate_left
    · intro w hSw
      try simp only [Cells, blk, List.cons_append, List.nil_append, and_true, Nat.reduceAdd, Nat.add_zero, Nat.zero_add] at hSw
      go_simp
      try with_reducible rfl
    simp only [Act.put, List.setIfInBounds_toArray, List.set_cons_zero, List.set_cons_succ]
    refine wpAnyH_take (i := 4) (oi := _) (v := ?_) (by rw [List.getElem?_toArray]; rfl) (by kernel_rfl) (by kernel_rfl) (by kernel_rfl) (by exact fun _ _ _ h => h) (Or.inl ⟨by rfl, ?_⟩) (by assumption) ?_
    rotate_left
    · intro w hSw
      try simp only [Cells, blk, List.cons_append, List.nil_append, and_true, Nat.reduceAdd, Nat.add_zero, Nat.zero_add] at hSw
      go_simp
      try with_reducible rfl
    simp only [Act.put, List.setIfInBounds_toArray, List.set_cons_zero, List.set_cons_succ]
    refine wpAnyH_take (i := 6) (oi := _) (v := ?_) (by rw [List.getElem?_toArray]; rfl) (by kernel_rfl) (by kernel_rfl) (by kernel_rfl) (by exact fun _ _ _ h => h) (Or.inl ⟨by rfl, ?_⟩) (by assumption) ?_
    rotate_left
    · intro w hSw
      try simp only [Cells, blk, List.cons_append, List.nil_append, and_true, Nat.reduceAdd, Nat.add_zero, Nat.zero_add] at hSw
      go_simp
      try with_reducible rfl
    simp only [Act.put, List.setIfInBounds_toArray, List.set_cons_zero, List.set_cons_succ]
    refine wpAnyH_take (i := 7) (oi := _) (v := ?_) (by rw [List.getElem?_toArray]; rfl) (by kernel_rfl) (by kernel_rfl) (by kernel_rfl) (by exact fun _ _ _ h => h) (Or.inl ⟨by rfl, ?_⟩) (by assumption) ?_
    rotate_left
    · intro w hSw
      try simp only [Cells, blk, List.cons_append, List.nil_append, and_true, Nat.reduceAdd, Nat.add_zero, Nat.zero_add] at hSw
      go_simp
      try with_reducible rfl
    simp only [Act.put, List.setIfInBounds_toArray, List.set_cons_zero, List.set_cons_succ]
    refine wpAnyH_take (i := 9) (oi := _) (v := ?_) (by rw [List.getElem?_toArray]; rfl) (by kernel_rfl) (by kernel_rfl) (by kernel_rfl) (by exact fun _ _ _ h => h) (Or.inl ⟨by rfl, ?_⟩) (by assumption) ?_
    rotate_left
    · intro w hSw
      try simp only [Cells, blk, List.cons_append, List.nil_append, and_true, Nat.reduceAdd, Nat.add_zero, Nat.zero_add] at hSw
      go_simp
      try with_reducible rfl
    simp only [Act.put, List.setIfInBounds_toArray, List.set_cons_zero, List.set_cons_succ]
    refine wpAnyH_take (i := 10) (oi := _) (v := ?_) (by rw [List.getElem?_toArray]; rfl) (by kernel_rfl) (by kernel_rfl) (by kernel_rfl) (by exact fun _ _ _ h => h) (Or.inl ⟨by rfl, ?_⟩) (by assumption) ?_
    rotate_left
    · intro w hSw
      try simp only [Cells, blk, List.cons_append, List.nil_append, and_true, Nat.reduceAdd, Nat.add_zero, Nat.zero_add] at hSw
      go_simp
      try with_reducible rfl
    simp only [Act.put, List.setIfInBounds_toArray, List.set_cons_zero, List.set_cons_succ]
    refine wpAnyH_take (i := 12) (oi := _) (v := ?_) (by rw [List.getElem?_toArray]; rfl) (by kernel_rfl) (by kernel_rfl) (by kernel_rfl) (by exact fun _ _ _ h => h) (Or.inl ⟨by rfl, ?_⟩) (by assumption) ?_
    rotate_left
    · intro w hSw
      try simp only [Cells, blk, List.cons_append, List.nil_append, and_true, Nat.reduceAdd, Nat.add_zero, Nat.zero_add] at hSw
      go_simp
      try with_reducible rfl
    simp only [Act.put, List.setIfInBounds_toArray, List.set_cons_zero, List.set_cons_succ]
    refine wpAnyH_ready (rs := [2]) (by kernel_rfl) (by simp) (AllReadyH.cons (o := _) (by rw [List.getElem?_toArray]; rfl) (fun K hK => ?_) AllReadyH.nil)
    go_simp
    go_at_call 42
    refine (itoa_any T hT w _ HP.out hHeld.1).mono ?_
    rintro e wT ⟨rfl, hBT⟩
    have hKp := hHeld
    clear hHeld
    refine hK.out _ _ (⟨hKp.1.trans (hBT.mono hKp.1.size), Nat.le_trans hKp.2.1 hBT.size, hKp.2.2.keep hBT⟩) (fun hHeld => ?_)
    clear hK K
    try simp only [Act.put, List.setIfInBounds_toArray, List.set_cons_zero, List.set_cons_succ]
    refine wpAnyH_ready (rs := [5]) (by kernel_rfl) (by simp) (AllReadyH.cons (o := _) (by rw [List.getElem?_toArray]; rfl) (fun K hK => ?_) AllReadyH.nil)
    go_simp
    go_at_call 42
    refine (itoa_any C hC w _ HP.out hHeld.1).mono ?_
    rintro e wC ⟨rfl, hBC⟩
    have hKp := hHeld
    clear hHeld
    refine hK.out _ _ (⟨hKp.1.trans (hBC.mono hKp.1.size), Nat.le_trans hKp.2.1 hBC.size, hKp.2.2.keep hBC⟩) (fun hHeld => ?_)
    clear hK K
    try simp only [Act.put, List.setIfInBounds_toArray, List.set_cons_zero, List.set_cons_succ]
    refine wpAnyH_ready (rs := [8]) (by kernel_rfl) (by simp) (AllReadyH.cons (o := _) (by rw [List.getElem?_toArray]; rfl) (fun K hK => ?_) AllReadyH.nil)
    go_simp
    go_at_call 42
    refine (itoa_any F hF w _ HP.out hHeld.1).mono ?_
    rintro e wF ⟨rfl, hBF⟩
    have hKp := hHeld
    clear hHeld
    refine hK.out _ _ (⟨hKp.1.trans (hBF.mono hKp.1.size), Nat.le_trans hKp.2.1 hBF.size, hKp.2.2.keep hBF⟩) (fun hHeld => ?_)
    clear hK K
    try simp only [Act.put, List.setIfInBounds_toArray, List.set_cons_zero, List.set_cons_succ]
    refine wpAnyH_ready (rs := [11]) (by kernel_rfl) (by simp) (AllReadyH.cons (o := _) (by rw [List.getElem?_toArray]; rfl) (fun K hK => ?_) AllReadyH.nil)
    go_simp
    go_at_call 43
    refine (word_any KD _).mono ?_
    rintro e wK ⟨rfl, hBK⟩
    have hKp := hHeld
    clear hHeld
    refine hK.out _ _ (⟨hKp.1.trans (hBK.mono hKp.1.size), Nat.le_trans hKp.2.1 hBK.size, hKp.2.2.keep hBK⟩) (fun hHeld => ?_)
    clear hK K
    try simp only [Act.put, List.setIfInBounds_toArray, List.set_cons_zero, List.set_cons_succ]
    refine wpAnyH_ready (rs := [13]) (by kernel_rfl) (by simp) (AllReadyH.cons (o := _) (by rw [List.getElem?_toArray]; rfl) (fun K hK => ?_) AllReadyH.nil)
    go_simp
    generalize hX : World.alloc _ (.cells _ 9) = wz
    obtain ⟨hx, hBx, hxz⟩ := alloc_named hX
    clear hX hxz
    have hKp := hHeld
    clear hHeld
    refine hK.out _ _ (⟨hKp.1.trans (hBx.mono hKp.1.size), Nat.le_trans hKp.2.1 hBx.size, hKp.2.2.keep hBx⟩) (fun hHeld => ?_)
    clear hK K
    try simp only [Act.put, List.setIfInBounds_toArray, List.set_cons_zero, List.set_cons_succ]
    refine wpAnyH_ready (rs := [14]) (by kernel_rfl) (by simp) (AllReadyH.cons (o := _) (by rw [List.getElem?_toArray]; rfl) (fun K hK => ?_) AllReadyH.nil)
    go_simp
    go_at_call 41
    refine (Tryd.strings_Join _ 0 5 [⟨(Lib.itoa T).toArray⟩, ⟨(Lib.itoa C).toArray⟩, ⟨(Lib.itoa F).toArray⟩, wordS KD, { data := #[45] }] ⟨#[32]⟩ _ (fun j x hj => cell_of_list5 hx hj) (Array.getElem?_eq_some_iff.1 hx).1 (by simp) (by simp) HLEN.out).mono ?_
    rintro e wj ⟨rfl, hBj⟩
    have hKp := hHeld
    clear hHeld
    refine hK.out _ _ (⟨hKp.1.trans (hBj.mono hKp.1.size), Nat.le_trans hKp.2.1 hBj.size, hKp.2.2.keep hBj⟩) (fun hHeld => ?_)
    clear hK K
    try simp only [Act.put, List.setIfInBounds_toArray, List.set_cons_zero, List.set_cons_succ]
    refine wpAnyH_take (i := 15) (oi := _) (v := ?_) (by rw [List.getElem?_toArray]; rfl) (by kernel_rfl) (by kernel_rfl) (by kernel_rfl) (by exact fun _ _ _ h => h) (Or.inl ⟨by rfl, ?_⟩) (by assumption) ?_
    rotate_left
    · intro w hSw
      try simp only [Cells, blk, List.cons_append, List.nil_append, and_true, Nat.reduceAdd, Nat.add_zero, Nat.zero_add] at hSw
      go_simp
      try with_reducible rfl
    simp only [Act.put, List.setIfInBounds_toArray, List.set_cons_zero, List.set_cons_succ]
    refine wpAnyH_done (by kernel_rfl) ?_ _
    go_wp2
    go_ret
    exact ⟨by rw [HL.out]; rfl, hHeld.1⟩
  · have e1 : textB bs = strB (hexB bs) := if_neg hbs
    have e2 := hex_nil bs hbs
    obtain ⟨Z, hZ⟩ : ∃ Z, strB (hexB bs) = Z := ⟨_, rfl⟩
    rw [e1, hZ] at HLEN hL2
    rw [hZ] at HH e2
    have HL := Lib.hid hL2
    clear hL2 e1 hbs hZ
    go_enter Tryd.func19, Tryd.ntmps19
    go_wp2_with fail
    refine HH.out.mono ?_
    rintro e w1 ⟨rfl, hB1⟩
    have HB1 := Lib.hid (HB0.out.trans (hB1.mono HB0.out.size))
    have hz1 := Nat.le_trans hz0 hB1.size
    have HT1 := Lib.hid (HT0.out.keep hB1)
    clear hB1 HB0 HT0 hz0 HH
    go_upto_region 4 with fail
    refine wp_region_held_drew (S := (fun W' : World => Below w.heap.size w W' ∧ w.heap.size + 1 ≤ W'.heap.size ∧ Cells W' (blk w.heap.size 0 0 [.int .i64 T, .int .i64 C, .int .i64 F, .int .i64 KD, .slice a n c]))) (by kernel_rfl) (⟨HB1.out.drew, hz1, HT1.out.drew⟩) (fun hHeld => ?_)
    refine wpAnyH_take (i := 0) (oi := _) (v := ?_) (by rw [List.getElem?_toArray]; rfl) (by kernel_rfl) (by kernel_rfl) (by kernel_rfl) (by exact fun _ _ _ h => h) (Or.inl ⟨by rfl, ?_⟩) (by assumption) ?_
    rotate_left
    · intro w hSw
      try simp only [Cells, blk, List.cons_append, List.nil_append, and_true, Nat.reduceAdd, Nat.add_zero, Nat.zero_add] at hSw
      go_simp
      try with_reducible rfl
    simp only [Act.put, List.setIfInBounds_toArray, List.set_cons_zero, List.set_cons_succ]
    refine wpAnyH_take (i := 1) (oi := _) (v := ?_) (by rw [List.getElem?_toArray]; rfl) (by kernel_rfl) (by kernel_rfl) (by kernel_rfl) (by exact fun _ _ _ h => h) (Or.inl ⟨by rfl, ?_⟩) (by assumption) ?_
    rotate_left
    · intro w hSw
      try simp only [Cells, blk, List.cons_append, List.nil_append, and_true, Nat.reduceAdd, Nat.add_zero, Nat.zero_add] at hSw
      go_simp
      try with_reducible rfl
    simp only [Act.put, List.setIfInBounds_toArray, List.set_cons_zero, List.set_cons_succ]
    refine wpAnyH_take (i := 3) (oi := _) (v := ?_) (by rw [List.getElem?_toArray]; rfl) (by kernel_rfl) (by kernel_rfl) (by kernel_rfl) (by exact fun _ _ _ h => h) (Or.inl ⟨by rfl, ?_⟩) (by assumption) ?_
    rotate_left
    · intro w hSw
      try simp only [Cells, blk, List.cons_append, List.nil_append, and_true, Nat.reduceAdd, Nat.add_zero, Nat.zero_add] at hSw
      go_simp
      try with_reducible rfl
    simp only [Act.put, List.setIfInBounds_toArray, List.set_cons_zero, List.set_cons_succ]
    refine wpAnyH_take (i := 4) (oi := _) (v := ?_) (by rw [List.getElem?_toArray]; rfl) (by kernel_rfl) (by kernel_rfl) (by kernel_rfl) (by exact fun _ _ _ h => h) (Or.inl ⟨by rfl, ?_⟩) (by assumption) ?_
    rotate_left
    · intro w hSw
      try simp only [Cells, blk, List.cons_append, List.nil_append, and_true, Nat.reduceAdd, Nat.add_zero, Nat.zero_add] at hSw
      go_simp
      try with_reducible rfl
    simp only [Act.put, List.setIfInBounds_toArray, List.set_cons_zero, List.set_cons_succ]
    refine wpAnyH_take (i := 6) (oi := _) (v := ?_) (by rw [List.getElem?_toArray]; rfl) (by kernel_rfl) (by kernel_rfl) (by kernel_rfl) (by exact fun _ _ _ h => h) (Or.inl ⟨by rfl, ?_⟩) (by assumption) ?_
    rotate_left
    · intro w hSw
      try simp only [Cells, blk, List.cons_append, List.nil_append, and_true, Nat.reduceAdd, Nat.add_zero, Nat.zero_add] at hSw
      go_simp
      try with_reducible rfl
    simp only [Act.put, List.setIfInBounds_toArray, List.set_cons_zero, List.set_cons_succ]
    refine wpAnyH_take (i := 7) (oi := _) (v := ?_) (by rw [List.getElem?_toArray]; rfl) (by kernel_rfl) (by kernel_rfl) (by kernel_rfl) (by exact fun _ _ _ h => h) (Or.inl ⟨by rfl, ?_⟩) (by assumption) ?_
    rotate_left
    · intro w hSw
      try simp only [Cells, blk, List.cons_append, List.nil_append, and_true, Nat.reduceAdd, Nat.add_zero, Nat.zero_add] at hSw
      go_simp
      try with_reducible rfl
    simp only [Act.put, List.setIfInBounds_toArray, List.set_cons_zero, List.set_cons_succ]
    refine wpAnyH_take (i := 9) (oi := _) (v := ?_) (by rw [List.getElem?_toArray]; rfl) (by kernel_rfl) (by kernel_rfl) (by kernel_rfl) (by exact fun _ _ _ h => h) (Or.inl ⟨by rfl, ?_⟩) (by assumption) ?_
    rotate_left
    · intro w hSw
      try simp only [Cells, blk, List.cons_append, List.nil_append, and_true, Nat.reduceAdd, Nat.add_zero, Nat.zero_add] at hSw
      go_simp
      try with_reducible rfl
    simp only [Act.put, List.setIfInBounds_toArray, List.set_cons_zero, List.set_cons_succ]
    refine wpAnyH_take (i := 10) (oi := _) (v := ?_) (by rw [List.getElem?_toArray]; rfl) (by kernel_rfl) (by kernel_rfl) (by kernel_rfl) (by exact fun _ _ _ h => h) (Or.inl ⟨by rfl, ?_⟩) (by assumption) ?_
    rotate_left
    · intro w hSw
      try simp only [Cells, blk, List.cons_append, List.nil_append, and_true, Nat.reduceAdd, Nat.add_zero, Nat.zero_add] at hSw
      go_simp
      try with_reducible rfl
    simp only [Act.put, List.setIfInBounds_toArray, List.set_cons_zero, List.set_cons_succ]
    refine wpAnyH_take (i := 12) (oi := _) (v := ?_) (by rw [List.getElem?_toArray]; rfl) (by kernel_rfl) (by kernel_rfl) (by kernel_rfl) (by exact fun _ _ _ h => h) (Or.inl ⟨by rfl, ?_⟩) (by assumption) ?_
    rotate_left
    · intro w hSw
      try simp only [Cells, blk, List.cons_append, List.nil_append, and_true, Nat.reduceAdd, Nat.add_zero, Nat.zero_add] at hSw
      go_simp
      try with_reducible rfl
    simp only [Act.put, List.setIfInBounds_toArray, List.set_cons_zero, List.set_cons_succ]
    refine wpAnyH_ready (rs := [2]) (by kernel_rfl) (by simp) (AllReadyH.cons (o := _) (by rw [List.getElem?_toArray]; rfl) (fun K hK => ?_) AllReadyH.nil)
    go_simp
    go_at_call 42
    refine (itoa_any T hT w _ HP.out hHeld.1).mono ?_
    rintro e wT ⟨rfl, hBT⟩
    have hKp := hHeld
    clear hHeld
    refine hK.out _ _ (⟨hKp.1.trans (hBT.mono hKp.1.size), Nat.le_trans hKp.2.1 hBT.size, hKp.2.2.keep hBT⟩) (fun hHeld => ?_)
    clear hK K
    try simp only [Act.put, List.setIfInBounds_toArray, List.set_cons_zero, List.set_cons_succ]
    refine wpAnyH_ready (rs := [5]) (by kernel_rfl) (by simp) (AllReadyH.cons (o := _) (by rw [List.getElem?_toArray]; rfl) (fun K hK => ?_) AllReadyH.nil)
    go_simp
    go_at_call 42
    refine (itoa_any C hC w _ HP.out hHeld.1).mono ?_
    rintro e wC ⟨rfl, hBC⟩
    have hKp := hHeld
    clear hHeld
    refine hK.out _ _ (⟨hKp.1.trans (hBC.mono hKp.1.size), Nat.le_trans hKp.2.1 hBC.size, hKp.2.2.keep hBC⟩) (fun hHeld => ?_)
    clear hK K
    try simp only [Act.put, List.setIfInBounds_toArray, List.set_cons_zero, List.set_cons_succ]
    refine wpAnyH_ready (rs := [8]) (by kernel_rfl) (by simp) (AllReadyH.cons (o := _) (by rw [List.getElem?_toArray]; rfl) (fun K hK => ?_) AllReadyH.nil)
    go_simp
    go_at_call 42
    refine (itoa_any F hF w _ HP.out hHeld.1).mono ?_
    rintro e wF ⟨rfl, hBF⟩
    have hKp := hHeld
    clear hHeld
    refine hK.out _ _ (⟨hKp.1.trans (hBF.mono hKp.1.size), Nat.le_trans hKp.2.1 hBF.size, hKp.2.2.keep hBF⟩) (fun hHeld => ?_)
    clear hK K
    try simp only [Act.put, List.setIfInBounds_toArray, List.set_cons_zero, List.set_cons_succ]
    refine wpAnyH_ready (rs := [11]) (by kernel_rfl) (by simp) (AllReadyH.cons (o := _) (by rw [List.getElem?_toArray]; rfl) (fun K hK => ?_) AllReadyH.nil)
    go_simp
    go_at_call 43
    refine (word_any KD _).mono ?_
    rintro e wK ⟨rfl, hBK⟩
    have hKp := hHeld
    clear hHeld
    refine hK.out _ _ (⟨hKp.1.trans (hBK.mono hKp.1.size), Nat.le_trans hKp.2.1 hBK.size, hKp.2.2.keep hBK⟩) (fun hHeld => ?_)
    clear hK K
    try simp only [Act.put, List.setIfInBounds_toArray, List.set_cons_zero, List.set_cons_succ]
    refine wpAnyH_ready (rs := [13]) (by kernel_rfl) (by simp) (AllReadyH.cons (o := _) (by rw [List.getElem?_toArray]; rfl) (fun K hK => ?_) AllReadyH.nil)
    go_simp
    generalize hX : World.alloc _ (.cells _ 9) = wz
    obtain ⟨hx, hBx, hxz⟩ := alloc_named hX
    clear hX hxz
    have hKp := hHeld
    clear hHeld
    refine hK.out _ _ (⟨hKp.1.trans (hBx.mono hKp.1.size), Nat.le_trans hKp.2.1 hBx.size, hKp.2.2.keep hBx⟩) (fun hHeld => ?_)
    clear hK K
    try simp only [Act.put, List.setIfInBounds_toArray, List.set_cons_zero, List.set_cons_succ]
    refine wpAnyH_ready (rs := [14]) (by kernel_rfl) (by simp) (AllReadyH.cons (o := _) (by rw [List.getElem?_toArray]; rfl) (fun K hK => ?_) AllReadyH.nil)
    go_simp
    go_at_call 41
    refine (Tryd.strings_Join _ 0 5 [⟨(Lib.itoa T).toArray⟩, ⟨(Lib.itoa C).toArray⟩, ⟨(Lib.itoa F).toArray⟩, wordS KD, Z] ⟨#[32]⟩ _ (fun j x hj => cell_of_list5 hx hj) (Array.getElem?_eq_some_iff.1 hx).1 (by simp) (by simp) HLEN.out).mono ?_
    rintro e wj ⟨rfl, hBj⟩
    have hKp := hHeld
    clear hHeld
    refine hK.out _ _ (⟨hKp.1.trans (hBj.mono hKp.1.size), Nat.le_trans hKp.2.1 hBj.size, hKp.2.2.keep hBj⟩) (fun hHeld => ?_)
    clear hK K
    try simp only [Act.put, List.setIfInBounds_toArray, List.set_cons_zero, List.set_cons_succ]
    refine wpAnyH_take (i := 15) (oi := _) (v := ?_) (by rw [List.getElem?_toArray]; rfl) (by kernel_rfl) (by kernel_rfl) (by kernel_rfl) (by exact fun _ _ _ h => h) (Or.inl ⟨by rfl, ?_⟩) (by assumption) ?_
    rotate_left
    · intro w hSw
      try simp only [Cells, blk, List.cons_append, List.nil_append, and_true, Nat.reduceAdd, Nat.add_zero, Nat.zero_add] at hSw
      go_simp
      try with_reducible rfl
    simp only [Act.put, List.setIfInBounds_toArray, List.set_cons_zero, List.set_cons_succ]
    refine wpAnyH_done (by kernel_rfl) ?_ _
    go_wp2
    go_ret
    exact ⟨by rw [HL.out]; rfl, hHeld.1⟩
end Go.Proofs.YtccknpdnapoboaaDoor
