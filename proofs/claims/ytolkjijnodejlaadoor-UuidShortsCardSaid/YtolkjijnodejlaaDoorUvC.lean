/- uuid: UuidShorts. -/
import Derived.Test.YtolkjijnodejlaaDoorUvA
import Derived.Test.YtolkjijnodejlaaDoorUuD
namespace Go.Proofs.YtolkjijnodejlaaDoor
open Go.RowKit

set_option linter.unusedSimpArgs false in
set_option linter.unusedVariables false in
set_option maxRecDepth 100000 in
set_option maxHeartbeats 2000000 in
theorem uuidShorts_walk (v0 v1 : Value) (w : World) (a0 : Arg Tryd.prog w 22 v0) (a1 : Arg Tryd.prog w 25 v1) (M : Int) (hM : w.cell? ⟨0, 0, none⟩ = some (.int .i64 M)) :
    Calls Tryd.prog 3 #[v0, v1] w fun e w' => e = .returned (.bool true) ∧ Below w.heap.size w w' := by
  obtain ⟨n, rfl, hn⟩ := a0.u16 Tryd.underlying22
  obtain ⟨hi, lo, rfl, hh, hl⟩ := arg_uuid a1
  have h1 := fun W => number_any hi lo hh hl W
  have h2 := fun W => rnumber_any hi lo hh hl W
  have h3 := fun W => short_any n hn W
  have h4 := fun W => rshort_any n hn W
  generalize numI hi lo = q at h1 h2
  generalize isShort hi lo = b at h1 h2
  obtain ⟨SH, hSH⟩ : ∃ x : Int, (n : Int) * 4294967296 + 4096 = x := ⟨_, rfl⟩
  obtain ⟨SL, hSL⟩ : ∃ x : Int, (9223372588214596859 : Int) = x := ⟨_, rfl⟩
  simp only [hSH, hSL] at h3 h4
  have H1 := Lib.hid h1
  have H2 := Lib.hid h2
  have H3 := Lib.hid h3
  have H4 := Lib.hid h4
  have T := cells_new w [.int .u64 (hi : Int), .int .u64 lo] 25
  have hB : Below w.heap.size w (w.alloc (.cells #[.int .u64 (hi : Int), .int .u64 lo] 25)) := (Below.refl _ _).alloc (Nat.le_refl _) _
  clear a0 a1 h1 h2 h3 h4 hh hl hn hSH hSL
  go_enter Tryd.func3, Tryd.ntmps3
  go_upto_region 1 with fail
  generalize hV : World.alloc _ _ = V at T hB ⊢
  clear hV
  have HM := Lib.hid (kc hM hB)
  have HT := Lib.hid T
  clear hM
  have hOpen := T
  simp only [Cells, blk, List.cons_append, List.nil_append, and_true, Nat.reduceAdd, Nat.add_zero, Nat.zero_add] at hOpen
  obtain ⟨m0, m1⟩ := hOpen
  clear T
  go_wp2_with fail
  go_at_call 9
  refine (H1.out _).mono ?_
  rintro e w1 ⟨rfl, hB1⟩
  have HT1 := Lib.hid (HT.out.keep hB1)
  clear m0 m1
  have hOpen := HT1.out
  simp only [Cells, blk, List.cons_append, List.nil_append, and_true, Nat.reduceAdd, Nat.add_zero, Nat.zero_add] at hOpen
  obtain ⟨m0, m1⟩ := hOpen
  go_wp2_with fail
  go_at_call 10
  refine (H2.out _).mono ?_
  rintro e w2 ⟨rfl, hB2⟩
  have hV2 := hB1.trans (hB2.mono hB1.size)
  clear m0 m1 HT HT1 hB1 hB2
  go_wp2_with fail
  go_at_call 11
  refine (H3.out _).mono ?_
  rintro e w3 ⟨rfl, hB3⟩
  have hV3 := hV2.trans (hB3.mono hV2.size)
  go_wp2_with fail
  go_at_call 12
  refine (H4.out _).mono ?_
  rintro e w4 ⟨rfl, hB4⟩
  have hV4 := hV3.trans (hB4.mono hV3.size)
  clear hB3 hB4 hV2 hV3
  go_wp2_with fail
  go_at_call 13
  refine (example_any M _ (kc HM.out hV4)).mono ?_
  rintro e w5 ⟨rfl, hB5⟩
  go_wp2
  go_ret
  exact ⟨rfl, hB.trans ((hV4.trans (hB5.mono hV4.size)).mono hB.size)⟩
end Go.Proofs.YtolkjijnodejlaaDoor
