/- hop: the walks of the statements that take connection parameters. -/
import Derived.Test.YtoaiiceglfmfcaaHopC
import Derived.Test.YtoaiiceglfmfcaaFrame
namespace Go.Proofs.Ytoaiiceglfmfcaa
open Go.RowKit

theorem Try.cellsCP : Try.prog.cellsOf 37 = 11 := by kernel_rfl
theorem Try.cells_u32 : Try.prog.cellsOf 25 = 1 := by kernel_rfl
theorem Try.cells_map : Try.prog.cellsOf 31 = 1 := by kernel_rfl
theorem Try.cells_int : Try.prog.cellsOf 3 = 1 := by kernel_rfl
theorem Try.cells_upd : Try.prog.cellsOf 35 = 5 := by kernel_rfl
theorem list11 {α : Type} (l : List α) (h : l.length = 11) : ∃ a b c d e f g i j k m, l = [a, b, c, d, e, f, g, i, j, k, m] := by
  match l, h with
  | [a, b, c, d, e, f, g, i, j, k, m], _ => exact ⟨a, b, c, d, e, f, g, i, j, k, m, rfl⟩
/-- connection parameters that came in -/
theorem arg_cp {w : World} {v : Value} (h : Arg Try.prog w 37 v) : ∃ (ac ini : Nat) (u0 u1 u2 u3 u4 : Int) (mp : Nat) (hp ppm alg : Int),
    v = .agg (cp ac ini u0 u1 u2 u3 u4 mp hp ppm alg) ∧ ac < 4294967296 ∧ mp < 18446744073709551616 := by
  obtain ⟨cs, rfl, hl, hf⟩ := h.struct Try.underlying37
  rw [Try.cellsCP] at hl
  obtain ⟨c0, c1, c2, c3, c4, c5, c6, c7, c8, c9, c10, rfl⟩ := list11 cs hl
  have f0 : Rd Try.prog w 25 (([c0, c1, c2, c3, c4, c5, c6, c7, c8, c9, c10].drop 0).take (Try.prog.cellsOf 25)) := hf 0 _ rfl
  have f1 : Rd Try.prog w 25 (([c0, c1, c2, c3, c4, c5, c6, c7, c8, c9, c10].drop 1).take (Try.prog.cellsOf 25)) := hf 1 _ rfl
  have f2 : Rd Try.prog w 35 (([c0, c1, c2, c3, c4, c5, c6, c7, c8, c9, c10].drop 2).take (Try.prog.cellsOf 35)) := hf 2 _ rfl
  have f3 : Rd Try.prog w 31 (([c0, c1, c2, c3, c4, c5, c6, c7, c8, c9, c10].drop 7).take (Try.prog.cellsOf 31)) := hf 3 _ rfl
  have f4 : Rd Try.prog w 3 (([c0, c1, c2, c3, c4, c5, c6, c7, c8, c9, c10].drop 8).take (Try.prog.cellsOf 3)) := hf 4 _ rfl
  have f5 : Rd Try.prog w 3 (([c0, c1, c2, c3, c4, c5, c6, c7, c8, c9, c10].drop 9).take (Try.prog.cellsOf 3)) := hf 5 _ rfl
  have f6 : Rd Try.prog w 3 (([c0, c1, c2, c3, c4, c5, c6, c7, c8, c9, c10].drop 10).take (Try.prog.cellsOf 3)) := hf 6 _ rfl
  simp only [Try.cells_u32, Try.cells_map, Try.cells_int, Try.cells_upd, List.drop_succ_cons, List.drop_zero, List.take_succ_cons, List.take_zero] at f0 f1 f2 f3 f4 f5 f6
  obtain ⟨ac, e0, hac⟩ := f0.u32 Try.underlying25
  obtain ⟨ini, e1, _⟩ := f1.u32 Try.underlying25
  obtain ⟨mp, e3, hmp⟩ := f3.u64 Try.underlying31
  obtain ⟨hp, e4, _⟩ := f4.i64 Try.underlying3
  obtain ⟨pp, e5, _⟩ := f5.i64 Try.underlying3
  obtain ⟨al, e6, _⟩ := f6.i64 Try.underlying3
  obtain ⟨_, g⟩ := f2.struct Try.underlying35
  have g0 : Rd Try.prog w 3 (([c2, c3, c4, c5, c6].drop 0).take (Try.prog.cellsOf 3)) := g 0 _ rfl
  have g1 : Rd Try.prog w 3 (([c2, c3, c4, c5, c6].drop 1).take (Try.prog.cellsOf 3)) := g 1 _ rfl
  have g2 : Rd Try.prog w 3 (([c2, c3, c4, c5, c6].drop 2).take (Try.prog.cellsOf 3)) := g 2 _ rfl
  have g3 : Rd Try.prog w 3 (([c2, c3, c4, c5, c6].drop 3).take (Try.prog.cellsOf 3)) := g 3 _ rfl
  have g4 : Rd Try.prog w 3 (([c2, c3, c4, c5, c6].drop 4).take (Try.prog.cellsOf 3)) := g 4 _ rfl
  simp only [Try.cells_int, List.drop_succ_cons, List.drop_zero, List.take_succ_cons, List.take_zero] at g0 g1 g2 g3 g4
  obtain ⟨u0, d0, _⟩ := g0.i64 Try.underlying3
  obtain ⟨u1, d1, _⟩ := g1.i64 Try.underlying3
  obtain ⟨u2, d2, _⟩ := g2.i64 Try.underlying3
  obtain ⟨u3, d3, _⟩ := g3.i64 Try.underlying3
  obtain ⟨u4, d4, _⟩ := g4.i64 Try.underlying3
  simp only [List.cons.injEq, and_true] at e0 e1 e3 e4 e5 e6 d0 d1 d2 d3 d4
  subst e0 e1 e3 e4 e5 e6 d0 d1 d2 d3 d4
  exact ⟨ac, ini, u0, u1, u2, u3, u4, mp, hp, pp, al, rfl, hac, hmp⟩

theorem hopNexts_walk (v0 v1 v2 : Value) (w : World) (a0 : Arg Try.prog w 37 v0) (a1 : Arg Try.prog w 26 v1) (a2 : Arg Try.prog w 3 v2) :
    Calls Try.prog 6 #[v0, v1, v2] w fun e w' => e = .returned (.bool true) ∧ Below w.heap.size w w' := by
  obtain ⟨ac, ini, u0, u1, u2, u3, u4, mp, hp, pp, al, rfl, hac, hmp⟩ := arg_cp a0
  obtain ⟨ev, rfl, he⟩ := a1.u16 Try.underlying26
  obtain ⟨la, rfl, _⟩ := a2.i64 Try.underlying3
  clear a0 a1 a2
  have hn := fun w => next_any ac ini u0 u1 u2 u3 u4 mp hp pp al ev la hmp he hac w
  have hr := fun w => rnext_any ac ini u0 u1 u2 u3 u4 mp hp pp al ev la hmp he hac w
  unfold cp at hn hr ⊢
  have Hn := Lib.hid hn
  have Hr := Lib.hid hr
  clear hn hr
  go_enter Try.func6, Try.ntmps6
  go_wp2_with (first
    | (go_at_call 23; refine (Hn.out _).mono ?_; rintro e w1 ⟨rfl, hB1⟩; obtain ⟨hc1, hf1⟩ := bcell hB1)
    | (go_at_call 24; refine (Hr.out _).mono ?_; rintro e w2 ⟨rfl, hB2⟩)
    | (go_at_call 14; refine (lives_any _).mono ?_; rintro e w3 ⟨rfl, hB3⟩))
  go_ret
  exact ⟨by simp, ((((Below.refl _ _).alloc (Nat.le_refl _) _).trans (hB1.mono (by simp))).trans (hB2.mono (by have := hB1.size; simp at this; omega))).trans (hB3.mono (by have := hB1.size; have := hB2.size; simp at *; omega))⟩
end Go.Proofs.Ytoaiiceglfmfcaa
