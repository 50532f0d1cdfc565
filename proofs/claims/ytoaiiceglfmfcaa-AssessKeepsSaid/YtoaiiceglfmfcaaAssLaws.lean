/- assess: the walks of the statements on records, rates, halves. -/
import Derived.Test.YtoaiiceglfmfcaaAssG
import Derived.Test.YtoaiiceglfmfcaaSlArg
namespace Go.Proofs.Ytoaiiceglfmfcaa
open Go.RowKit

theorem Try.cells_tally : Try.prog.cellsOf 52 = 2 := by kernel_rfl
theorem Try.cells_i : Try.prog.cellsOf 3 = 1 := by kernel_rfl
def tenc (t : Int × Int) : List Value := [.int .i64 t.1, .int .i64 t.2]
theorem tcells_flat (l : List (Int × Int)) : tcells l = l.flatMap tenc := by
  induction l with
  | nil => rfl
  | cons t l ih => simp [tcells, tenc, ih]
theorem list2 {α : Type} (l : List α) (h : l.length = 2) : ∃ a b, l = [a, b] := by
  match l, h with
  | [a, b], _ => exact ⟨a, b, rfl⟩
theorem rd_tally {w : World} (cs : List Value) (h : Rd Try.prog w 52 cs) : ∃ t, cs = tenc t := by
  obtain ⟨hl, hf⟩ := h.struct Try.underlying52
  rw [Try.cells_tally] at hl
  obtain ⟨c0, c1, rfl⟩ := list2 cs hl
  have f0 : Rd Try.prog w 3 (([c0, c1].drop 0).take (Try.prog.cellsOf 3)) := hf 0 _ rfl
  have f1 : Rd Try.prog w 3 (([c0, c1].drop 1).take (Try.prog.cellsOf 3)) := hf 1 _ rfl
  simp only [Try.cells_i, List.drop_succ_cons, List.drop_zero, List.take_succ_cons, List.take_zero] at f0 f1
  obtain ⟨x, e0, _⟩ := f0.i64 Try.underlying3
  obtain ⟨y, e1, _⟩ := f1.i64 Try.underlying3
  simp only [List.cons.injEq, and_true] at e0 e1
  subst e0 e1
  exact ⟨(x, y), rfl⟩
theorem arg_tallies {w : World} {v : Value} (h : Arg Try.prog w 45 v) : ∃ l, SR w v l.length 2 (tcells l) := by
  obtain ⟨l, hl⟩ := sr_of_arg tenc 2 (fun _ => rfl) (fun x u hu => by simp [tenc] at hu; rcases hu with rfl | rfl <;> rfl) (by decide) Try.underlying45 Try.cells_tally rd_tally h
  exact ⟨l, by rw [tcells_flat]; exact hl⟩
theorem arg_tally {w : World} {v : Value} (h : Arg Try.prog w 52 v) : ∃ x y, v = .agg #[.int .i64 x, .int .i64 y] := by
  obtain ⟨cs, rfl, hl, hf⟩ := h.struct Try.underlying52
  rw [Try.cells_tally] at hl
  obtain ⟨c0, c1, rfl⟩ := list2 cs hl
  have f0 : Rd Try.prog w 3 (([c0, c1].drop 0).take (Try.prog.cellsOf 3)) := hf 0 _ rfl
  have f1 : Rd Try.prog w 3 (([c0, c1].drop 1).take (Try.prog.cellsOf 3)) := hf 1 _ rfl
  simp only [Try.cells_i, List.drop_succ_cons, List.drop_zero, List.take_succ_cons, List.take_zero] at f0 f1
  obtain ⟨x, e0, _⟩ := f0.i64 Try.underlying3
  obtain ⟨y, e1, _⟩ := f1.i64 Try.underlying3
  simp only [List.cons.injEq, and_true] at e0 e1
  subst e0 e1
  exact ⟨x, y, rfl⟩

theorem assessDecays_walk (v0 : Value) (w : World) (a0 : Arg Try.prog w 45 v0) :
    Calls Try.prog 10 #[v0] w fun e w' => e = .returned (.bool true) ∧ Below w.heap.size w w' := by
  obtain ⟨l, hs⟩ := arg_tallies a0
  clear a0
  have HS := Lib.hid hs
  obtain ⟨hm, _, _, ao, cap, rfl, _, _⟩ := hs
  obtain ⟨n, hn⟩ : ∃ n, l.length = n := ⟨_, rfl⟩
  unfold maxLen at hm
  rw [hn] at hm ⊢
  have HN := Lib.hid hn
  clear hn
  by_cases h100 : n ≤ 100
  · have hg : decide ((100 : Int) < (n : Int)) = false := by simp; omega
    have hl : l.length ≤ 1000 := by rw [HN.out]; omega
    go_enter Try.func10, Try.ntmps10
    go_wp2_with fail
    refine (lives14_any _).mono ?_
    rintro e w1 ⟨rfl, hB1⟩
    have s1 := HS.out.below hB1
    rw [HN.out] at s1
    have S1 := Lib.hid s1
    clear s1
    go_wp2_with fail
    refine (copied_any _ l hl _ (by rw [HN.out]; exact S1.out)).mono ?_
    rintro e w2 ⟨g2, c2, rfl, hown2, hB2⟩
    have s2 := SR.of_own hown2 (tcells_one _) (cap_of hown2)
    go_wp2_with fail
    refine (decay_any _ l hl _ s2).mono ?_
    rintro e w3 ⟨g3, c3, rfl, hown3, hB3⟩
    have s3 := SR.of_own hown3 (tcells_one _) (cap_of hown3)
    have hB13 := hB2.trans (hB3.mono hB2.size)
    have s3' := S1.out.below hB13
    clear hown2 s2
    go_wp2_with fail
    refine (rdecay_any _ l hl _ (by rw [HN.out]; exact s3')).mono ?_
    rintro e w4 ⟨g4, c4, rfl, hown4, hB4⟩
    have s4 := SR.of_own hown4 (tcells_one _) (cap_of hown4)
    clear hown4 hown3 s3'
    go_wp2_with fail
    refine (same_any _ _ (decL l) (decL l) _ (s3.below hB4) s4).mono ?_
    rw [show (decL l == decL l) = true by simp]
    rintro e w5 ⟨rfl, hB5⟩
    go_wp2
    go_ret
    have z1 := hB1.size
    have z2 := hB13.size
    have z3 := hB4.size
    exact ⟨rfl, ((hB1.trans (hB13.mono z1)).trans (hB4.mono (by omega))).trans (hB5.mono (by omega))⟩
  · have hg : decide ((100 : Int) < (n : Int)) = true := by simp; omega
    go_enter Try.func10, Try.ntmps10
    go_wp2_with (go_at_call 28; refine (lives14_any _).mono ?_; rintro e w1 ⟨rfl, hB1⟩)
    go_ret
    exact ⟨rfl, by assumption⟩

theorem keep2 {b i j : Nat} {x y : Value} {W W' : World} (h : W.cell? ⟨b, i, none⟩ = some x ∧ W.cell? ⟨b, j, none⟩ = some y) (hb : Below W.heap.size W W') : W'.cell? ⟨b, i, none⟩ = some x ∧ W'.cell? ⟨b, j, none⟩ = some y :=
  ⟨(hb.cell (p := ⟨b, i, none⟩) (World.block_lt_of_cell? W _ h.1)).trans h.1, (hb.cell (p := ⟨b, j, none⟩) (World.block_lt_of_cell? W _ h.2)).trans h.2⟩

set_option maxHeartbeats 1000000 in
theorem assessRates_walk (v0 : Value) (w : World) (a0 : Arg Try.prog w 52 v0) :
    Calls Try.prog 9 #[v0] w fun e w' => e = .returned (.bool true) ∧ Below w.heap.size w w' := by
  obtain ⟨x, y, rfl⟩ := arg_tally a0
  clear a0
  have R1 := Lib.hid (rate_any x y)
  have R2 := Lib.hid (rrate_any x y)
  have B1 := Lib.hid (bad_any x y)
  have B2 := Lib.hid (rbad_any x y)
  go_enter Try.func9, Try.ntmps9
  go_wp2_with fail
  generalize hW : w.alloc (.cells _ 52) = W
  have k0 : W.cell? ⟨w.heap.size, 0, none⟩ = some (.int .i64 x) := by rw [← hW]; exact cellNew _ _ _ _ _ rfl
  have k1 : W.cell? ⟨w.heap.size, 1, none⟩ = some (.int .i64 y) := by rw [← hW]; exact cellNew _ _ _ _ _ rfl
  have hBW : Below w.heap.size w W := by rw [← hW]; exact (Below.refl _ _).alloc (Nat.le_refl _) _
  clear hW
  have hk : W.cell? ⟨w.heap.size, 0, none⟩ = some (.int .i64 x) ∧ W.cell? ⟨w.heap.size, 1, none⟩ = some (.int .i64 y) := ⟨k0, k1⟩
  have hB := hBW.drew
  have HB := Lib.hid hB
  clear hBW hB
  go_region_held3 (fun W' => W'.cell? ⟨w.heap.size, 0, none⟩ = some (.int .i64 x) ∧ W'.cell? ⟨w.heap.size, 1, none⟩ = some (.int .i64 y)) (first | go_keep | assumption) (first | (go_at_call 28; refine (lives14_any _).mono ?_; rintro e w1 ⟨rfl, hB1⟩; have hk1 := keep2 (W := W.drew) hk hB1) | (go_at_call 35; refine (R1.out _).mono ?_; rintro e w2 ⟨rfl, hB2⟩; have hk2 := keep2 hk1 hB2) | (go_at_call 36; refine (R2.out _).mono ?_; rintro e w3 ⟨rfl, hB3⟩; have hk3 := keep2 hk2 hB3) | (go_at_call 37; refine (B1.out _).mono ?_; rintro e w4 ⟨rfl, hB4⟩; have hk4 := keep2 hk3 hB4) | (go_at_call 38; refine (B2.out _).mono ?_; rintro e w5 ⟨rfl, hB5⟩; have hk5 := keep2 hk4 hB5))
  go_wp2
  go_ret
  have z1 := HB.out.size
  have z2 := hB1.size
  have z3 := hB2.size
  have z4 := hB3.size
  have z5 := hB4.size
  exact ⟨rfl, ((((HB.out.trans (hB1.mono (by omega))).trans (hB2.mono (by omega))).trans (hB3.mono (by omega))).trans (hB4.mono (by omega))).trans (hB5.mono (by omega))⟩

theorem assessRecords_walk (v0 v1 v2 : Value) (w : World) (a0 : Arg Try.prog w 45 v0) (a1 : Arg Try.prog w 3 v1) (a2 : Arg Try.prog w 4 v2) :
    Calls Try.prog 8 #[v0, v1, v2] w fun e w' => e = .returned (.bool true) ∧ Below w.heap.size w w' := by
  obtain ⟨l, hs⟩ := arg_tallies a0
  obtain ⟨ch, rfl, _⟩ := a1.i64 Try.underlying3
  obtain ⟨ok, rfl⟩ := a2.bool Try.underlying4
  clear a0 a1 a2
  have HS := Lib.hid hs
  obtain ⟨hm, _, _, ao, cap, rfl, _, _⟩ := hs
  obtain ⟨n, hn⟩ : ∃ n, l.length = n := ⟨_, rfl⟩
  unfold maxLen at hm
  rw [hn] at hm ⊢
  have HN := Lib.hid hn
  clear hn
  by_cases h100 : n ≤ 100
  · have hg : decide ((100 : Int) < (n : Int)) = false := by simp; omega
    have hl : l.length ≤ 1000 := by rw [HN.out]; omega
    go_enter Try.func8, Try.ntmps8
    go_wp2_with fail
    refine (lives14_any _).mono ?_
    rintro e w1 ⟨rfl, hB1⟩
    have s1 := HS.out.below hB1
    rw [HN.out] at s1
    have S1 := Lib.hid s1
    clear s1
    go_wp2_with fail
    refine (fresh_any _).mono ?_
    rintro e w2 ⟨g2, c2, rfl, hown2, hB2⟩
    have s2 := SR.of_own hown2 (tcells_one _) (cap_of hown2)
    go_wp2_with fail
    refine (rfresh_any _).mono ?_
    rintro e w3 ⟨g3, c3, rfl, hown3, hB3⟩
    have s3 := SR.of_own hown3 (tcells_one _) (cap_of hown3)
    clear hown2 hown3
    go_wp2_with fail
    refine (same_any _ _ zeros37 zeros37 _ (s2.below hB3) s3).mono ?_
    rw [show (zeros37 == zeros37) = true by simp]
    rintro e w4 ⟨rfl, hB4⟩
    clear s2 s3
    have hB14 := (hB2.trans (hB3.mono hB2.size)).trans (hB4.mono (Nat.le_trans hB2.size hB3.size))
    have s4 := S1.out.below hB14
    go_wp2_with fail
    refine (copied_any _ l hl _ (by rw [HN.out]; exact s4)).mono ?_
    rintro e w5 ⟨g5, c5, rfl, hown5, hB5⟩
    have s5 := SR.of_own hown5 (tcells_one _) (cap_of hown5)
    go_wp2_with fail
    refine (record_any _ l ch ok hl _ s5).mono ?_
    rintro e w6 ⟨g6, c6, rfl, hown6, hB6⟩
    have s6 := SR.of_own hown6 (tcells_one _) (cap_of hown6)
    have hB16 := (hB14.trans (hB5.mono hB14.size)).trans (hB6.mono (Nat.le_trans hB14.size hB5.size))
    have s6' := S1.out.below hB16
    clear hown5 s5 s4
    go_wp2_with fail
    refine (rrecord_any _ l ch ok hl _ (by rw [HN.out]; exact s6')).mono ?_
    rintro e w7 ⟨g7, c7, rfl, hown7, hB7⟩
    have s7 := SR.of_own hown7 (tcells_one _) (cap_of hown7)
    clear hown6 hown7 s6'
    go_wp2_with fail
    refine (same_any _ _ (recL l ch ok) (recL l ch ok) _ (s6.below hB7) s7).mono ?_
    rw [show (recL l ch ok == recL l ch ok) = true by simp]
    rintro e w8 ⟨rfl, hB8⟩
    go_wp2
    go_ret
    have z1 := hB1.size
    have z2 := hB16.size
    have z3 := hB7.size
    exact ⟨rfl, ((hB1.trans (hB16.mono z1)).trans (hB7.mono (by omega))).trans (hB8.mono (by omega))⟩
  · have hg : decide ((100 : Int) < (n : Int)) = true := by simp; omega
    go_enter Try.func8, Try.ntmps8
    go_wp2_with (go_at_call 28; refine (lives14_any _).mono ?_; rintro e w1 ⟨rfl, hB1⟩)
    go_ret
    exact ⟨rfl, by assumption⟩
end Go.Proofs.Ytoaiiceglfmfcaa
