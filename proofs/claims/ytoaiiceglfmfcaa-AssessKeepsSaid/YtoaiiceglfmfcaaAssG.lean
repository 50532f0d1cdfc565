/- assess: the examples that every statement of the layer asks for first (lives). -/
import Derived.Test.YtoaiiceglfmfcaaAssF
namespace Go.Proofs.Ytoaiiceglfmfcaa
open Go.RowKit

def ex1 : List (Int × Int) := [(0, 8), (6, 2), (4, 4), (8, 0)]
def ex2 : List (Int × Int) := [(5, 1), (-2, 0)]
def ex3 : List (Int × Int) := [(2, 0), (0, 0)]
theorem ev_p2 : propN ex1 15 2 = 10 := by decide +kernel
theorem ev_p3 : propN ex1 15 3 = 14 := by decide +kernel
theorem ev_dec : decL ex2 = ex3 := by decide +kernel
theorem ev_rate : rateI 6 2 = 250 := by decide +kernel
theorem ev_bad : badI 6 2 = true := by decide +kernel
theorem ev_bad7 : badI 0 7 = false := by decide +kernel
theorem ev_rec : (recL zeros37 3 false)[3]? = some (0, 1) := by
  have h := recL_in zeros37 3 false (by decide)
  rw [show ((3 : Nat) : Int) = 3 by rfl] at h
  rw [h]
  have e : incI 0 = 1 := by unfold incI wrap64; decide
  simp [zeros37, e]
theorem tcells_get? (l : List (Int × Int)) (j : Nat) (t : Int × Int) (h : l[j]? = some t) : (tcells l)[j * 2]? = some (.int .i64 t.1) ∧ (tcells l)[j * 2 + 1]? = some (.int .i64 t.2) := by
  obtain ⟨hj, rfl⟩ := List.getElem?_eq_some_iff.1 h
  exact tcells_get l j hj
theorem recL_len (l : List (Int × Int)) (ch : Int) (ok : Bool) : (recL l ch ok).length = l.length := by
  unfold recL; split <;> simp

theorem lives14_any (w : World) : Calls Try.prog 28 #[] w fun e w' => e = .returned (.bool true) ∧ Below w.heap.size w w' := by
  have o1 := World.ownsRow_lit (base := w.heap.size) (e := 52) (size := 2) w #[.int .i64 0, .int .i64 8, .int .i64 6, .int .i64 2, .int .i64 4, .int .i64 4, .int .i64 8, .int .i64 0] 4 (Nat.le_refl _) (by unfold maxLen; omega) rfl
  have s1 : SR _ _ ex1.length 2 (tcells ex1) := SR.of_own o1 (tcells_one ex1) (by decide)
  have b1 : Below w.heap.size w (w.alloc (.cells #[.int .i64 0, .int .i64 8, .int .i64 6, .int .i64 2, .int .i64 4, .int .i64 4, .int .i64 8, .int .i64 0] 52)) := (Below.refl _ _).alloc (Nat.le_refl _) _
  go_enter Try.func28, Try.ntmps28
  go_wp2_with fail
  generalize hW : w.alloc (.cells _ 52) = W at *
  have hwW : w.heap.size < W.heap.size := by rw [← hW]; simp
  clear hW o1
  have S1 := Lib.hid s1
  clear s1
  refine (fresh_any _).mono ?_
  rintro e w1 ⟨g1, c1, rfl, hown1, hB1⟩
  have sf := SR.of_own hown1 (tcells_one _) (cap_of hown1)
  go_wp2_with fail
  refine (record_any _ zeros37 3 false (by decide) _ sf).mono ?_
  rintro e w2 ⟨g2, c2, rfl, hown2, hB2⟩
  clear sf hown1
  rw [recL_len] at hown2
  have hlz : zeros37.length = 37 := by decide
  simp only [recL_len, hlz] at hown2 ⊢
  clear hlz
  have k3 := (hown2.cellAt 7 (by omega)).trans (tcells_get? _ 3 _ ev_rec).2
  simp only at k3
  have hg2 := (hown2.lt g2 rfl).2
  clear hown2
  have o2 := World.ownsRow_lit (base := w2.heap.size) (e := 52) (size := 2) w2 #[.int .i64 5, .int .i64 1, .int .i64 (-2), .int .i64 0] 2 (Nat.le_refl _) (by unfold maxLen; omega) rfl
  have s2 : SR _ _ ex2.length 2 (tcells ex2) := SR.of_own o2 (tcells_one ex2) (by decide)
  have b2 : Below w2.heap.size w2 (w2.alloc (.cells #[.int .i64 5, .int .i64 1, .int .i64 (-2), .int .i64 0] 52)) := (Below.refl _ _).alloc (Nat.le_refl _) _
  have S2 := Lib.hid s2
  clear o2 s2
  go_wp2_with fail
  refine (decay_any _ ex2 (by decide) _ S2.out).mono ?_
  rw [ev_dec]
  rintro e w3 ⟨g3, c3, rfl, hown3, hB3⟩
  have hB3' : Below w2.heap.size w2 w3 := b2.trans (hB3.mono b2.size)
  have s3 := SR.of_own hown3 (tcells_one _) (cap_of hown3)
  have S3 := Lib.hid s3
  rw [show ex3.length = 2 by decide] at S3 ⊢
  have k3' := (hB3'.cell (p := ⟨g2, 7, none⟩) hg2).trans k3
  have hBW3 : Below W.heap.size W w3 := (hB1.trans (hB2.mono hB1.size)).trans (hB3'.mono (Nat.le_trans hB1.size hB2.size))
  have sx := S1.out.below hBW3
  have r2 := sx.2.2.2
  clear S2 b2 hB3 hown3 s3 k3
  obtain ⟨ao, cap, hv, _, hc⟩ := r2
  obtain ⟨b, off, hb, _, hcell⟩ := hc (by decide)
  simp only [Value.slice.injEq] at hv
  obtain ⟨hv1, _, _⟩ := hv
  rw [hb] at hv1
  simp only [Option.some.injEq, Addr.mk.injEq, and_true] at hv1
  obtain ⟨rfl, rfl⟩ := hv1
  have d1 := hcell 2 _ rfl
  have d2 := hcell 3 _ rfl
  simp only [Nat.zero_add] at d1 d2
  have SX := Lib.hid sx
  clear hcell hc hb sx
  rw [show ex1.length = 4 by decide] at SX
  go_wp2_with fail
  refine (rate_any _ _ _).mono ?_
  rw [ev_rate]
  rintro e w4 ⟨rfl, hB4⟩
  obtain ⟨hc4, hf4⟩ := bcell hB4
  have hw3 : w.heap.size < w3.heap.size := Nat.lt_of_lt_of_le hwW hBW3.size
  go_wp2_with fail
  refine (bad_any _ _ _).mono ?_
  rw [ev_bad]
  rintro e w5 ⟨rfl, hB5⟩
  go_wp2_with fail
  refine (bad_any _ _ _).mono ?_
  rw [ev_bad7]
  rintro e w6 ⟨rfl, hB6⟩
  have hB36 : Below w3.heap.size w3 w6 := (hB4.trans (hB5.mono hB4.size)).trans (hB6.mono (Nat.le_trans hB4.size hB5.size))
  clear hc4 hf4
  go_wp2_with fail
  refine (propose_any _ ex1 (by decide) 15 (by decide) 2 _ (SX.out.below hB36)).mono ?_
  rw [ev_p2]
  rintro e w7 ⟨rfl, hB7⟩
  go_wp2_with fail
  refine (propose_any _ ex1 (by decide) 15 (by decide) 3 _ ((SX.out.below hB36).below hB7)).mono ?_
  rw [ev_p3]
  rintro e w8 ⟨rfl, hB8⟩
  have hB38 : Below w3.heap.size w3 w8 := (hB36.trans (hB7.mono hB36.size)).trans (hB8.mono (Nat.le_trans hB36.size hB7.size))
  have o8 := World.ownsRow_lit (base := w8.heap.size) (e := 52) (size := 2) w8 #[.int .i64 2, .int .i64 0, .int .i64 0, .int .i64 0] 2 (Nat.le_refl _) (by unfold maxLen; omega) rfl
  have s8 : SR _ _ ex3.length 2 (tcells ex3) := SR.of_own o8 (tcells_one ex3) (by decide)
  have b8 : Below w8.heap.size w8 (w8.alloc (.cells #[.int .i64 2, .int .i64 0, .int .i64 0, .int .i64 0] 52)) := (Below.refl _ _).alloc (Nat.le_refl _) _
  have S8 := Lib.hid s8
  clear o8 s8
  go_wp2_with fail
  refine (same_any _ _ ex3 ex3 _ ((S3.out.below hB38).below b8) S8.out).mono ?_
  rw [show (ex3 == ex3) = true by decide]
  rintro e w9 ⟨rfl, hB9⟩
  go_wp2
  go_ret
  have z1 := hBW3.size
  have z2 := hB38.size
  have z3 := b8.size
  exact ⟨rfl, (((b1.trans (hBW3.mono (by omega))).trans (hB38.mono (by omega))).trans (b8.mono (by omega))).trans (hB9.mono (by omega))⟩
end Go.Proofs.Ytoaiiceglfmfcaa
