/- cache: arguments that came in. -/
import Derived.Test.YteblimdbkiiaaaaFeA
import Derived.Test.YteblimdbkiiaaaaSlArg2
namespace Go.Proofs.Yteblimdbkiiaaaa
open Go.RowKit Go.WideShapes

theorem Try.cells_u16 : Try.prog.cellsOf 35 = 1 := by kernel_rfl
theorem Try.cells_u64 : Try.prog.cellsOf 22 = 1 := by kernel_rfl
theorem Try.cells_int : Try.prog.cellsOf 3 = 1 := by kernel_rfl
theorem Try.cells_bool : Try.prog.cellsOf 4 = 1 := by kernel_rfl
theorem Try.cells_uuid : Try.prog.cellsOf 34 = 2 := by kernel_rfl
theorem Try.cells_fd : Try.prog.cellsOf 53 = 6 := by kernel_rfl
theorem Try.cells_fds : Try.prog.cellsOf 24 = 1 := by kernel_rfl
theorem Try.cells_key : Try.prog.cellsOf 23 = 1 := by kernel_rfl
theorem Try.cells_ca : Try.prog.cellsOf 26 = 4 := by kernel_rfl
theorem Try.bytes_fd : Try.prog.bytesOf 53 = 32 := by kernel_rfl
theorem list6 {α : Type} (l : List α) (h : l.length = 6) : ∃ a b c d e f, l = [a, b, c, d, e, f] := by
  match l, h with
  | [a, b, c, d, e, f], _ => exact ⟨a, b, c, d, e, f, rfl⟩
theorem rd_uuid {w : World} {cs : List Value} (h : Rd Try.prog w 34 cs) : ∃ hi lo : Int, cs = [.int .u64 hi, .int .u64 lo] := by
  obtain ⟨hl, hf⟩ := h.struct Try.underlying34
  rw [Try.cells_uuid] at hl
  obtain ⟨c0, c1, rfl⟩ := list2 cs hl
  have f0 : Rd Try.prog w 22 (([c0, c1].drop 0).take (Try.prog.cellsOf 22)) := hf 0 _ rfl
  have f1 : Rd Try.prog w 22 (([c0, c1].drop 1).take (Try.prog.cellsOf 22)) := hf 1 _ rfl
  simp only [Try.cells_u64, List.drop_succ_cons, List.drop_zero, List.take_succ_cons, List.take_zero] at f0 f1
  obtain ⟨x, e0, _⟩ := f0.u64 Try.underlying22
  obtain ⟨y, e1, _⟩ := f1.u64 Try.underlying22
  simp only [List.cons.injEq, and_true] at e0 e1
  subst e0 e1
  exact ⟨_, _, rfl⟩
theorem rd_fd {w : World} (cs : List Value) (h : Rd Try.prog w 53 cs) : ∃ t, cs = fenc t ∧ True := by
  obtain ⟨hl, hf⟩ := h.struct Try.underlying53
  rw [Try.cells_fd] at hl
  obtain ⟨c0, c1, c2, c3, c4, c5, rfl⟩ := list6 cs hl
  have f0 : Rd Try.prog w 35 (([c0, c1, c2, c3, c4, c5].drop 0).take (Try.prog.cellsOf 35)) := hf 0 _ rfl
  have f1 : Rd Try.prog w 35 (([c0, c1, c2, c3, c4, c5].drop 1).take (Try.prog.cellsOf 35)) := hf 1 _ rfl
  have f2 : Rd Try.prog w 35 (([c0, c1, c2, c3, c4, c5].drop 2).take (Try.prog.cellsOf 35)) := hf 2 _ rfl
  have f3 : Rd Try.prog w 3 (([c0, c1, c2, c3, c4, c5].drop 3).take (Try.prog.cellsOf 3)) := hf 3 _ rfl
  have f4 : Rd Try.prog w 34 (([c0, c1, c2, c3, c4, c5].drop 4).take (Try.prog.cellsOf 34)) := hf 4 _ rfl
  simp only [Try.cells_u16, Try.cells_int, Try.cells_uuid, List.drop_succ_cons, List.drop_zero, List.take_succ_cons, List.take_zero] at f0 f1 f2 f3 f4
  obtain ⟨x0, e0, _⟩ := f0.u16 Try.underlying35
  obtain ⟨x1, e1, _⟩ := f1.u16 Try.underlying35
  obtain ⟨x2, e2, _⟩ := f2.u16 Try.underlying35
  obtain ⟨x3, e3, _⟩ := f3.i64 Try.underlying3
  obtain ⟨hi, lo, e4⟩ := rd_uuid f4
  simp only [List.cons.injEq, and_true] at e0 e1 e2 e3 e4
  obtain ⟨e4, e5⟩ := e4
  subst e0 e1 e2 e3 e4 e5
  exact ⟨⟨_, _, _, _, _, _⟩, rfl, trivial⟩
theorem in_cap {P : Program} {w : World} {e : TypeId} {v : Value} (h : SlIn P w e v) : ∃ a n c, v = .slice a n c ∧ n ≤ c := by
  rcases h with rfl | ⟨a, len, cap, rfl, hle, _⟩
  · exact ⟨_, _, _, rfl, Nat.le_refl _⟩
  · exact ⟨_, _, _, rfl, hle⟩
theorem in_fds {w : World} {v : Value} (h : SlIn Try.prog w 53 v) : ∃ l : List Fd, SR w v l.length 6 (fcells l) ∧ l.length * 32 ≤ reachBytes := by
  obtain ⟨l, h1, h2, _⟩ := sr_of_in (α := Fd) fenc (fun _ => True) 6 32 (fun _ => rfl) (fun x _ u hu => by simp [fenc] at hu; rcases hu with rfl | rfl | rfl | rfl | rfl | rfl <;> rfl) (by decide) Try.cells_fd Try.bytes_fd rd_fd h
  exact ⟨l, h1, h2⟩
theorem arg_fds {w : World} {v : Value} (h : Arg Try.prog w 24 v) : ∃ l : List Fd, SR w v l.length 6 (fcells l) ∧ l.length * 32 ≤ reachBytes := in_fds (h.slIn Try.underlying24)
theorem arg_uuid {w : World} {v : Value} (h : Arg Try.prog w 34 v) : ∃ hi lo : Int, v = .agg #[.int .u64 hi, .int .u64 lo] := by
  obtain ⟨⟨b, hv⟩, hr⟩ := h
  obtain ⟨cs, rfl, _⟩ := okWide_struct Try.underlying34 hv
  have e : (Value.agg cs).cells.toList = cs.toList := by simp [Value.cells]
  rw [e] at hr
  obtain ⟨hi, lo, e2⟩ := rd_uuid hr
  refine ⟨hi, lo, ?_⟩
  have : cs = #[.int .u64 hi, .int .u64 lo] := by rw [← Array.toList_inj, e2]
  rw [this]
theorem arg_ca {w : World} {v : Value} (h : Arg Try.prog w 26 v) : ∃ c : Ca, CaK w v c ∧ c.l.length * 32 ≤ reachBytes := by
  obtain ⟨cs, rfl, hl, hf⟩ := h.struct Try.underlying26
  rw [Try.cells_ca] at hl
  obtain ⟨c0, c1, c2, c3, rfl⟩ := list4 cs hl
  have f0 : Rd Try.prog w 4 (([c0, c1, c2, c3].drop 0).take (Try.prog.cellsOf 4)) := hf 0 _ rfl
  have f1 : Rd Try.prog w 23 (([c0, c1, c2, c3].drop 1).take (Try.prog.cellsOf 23)) := hf 1 _ rfl
  have f2 : Rd Try.prog w 24 (([c0, c1, c2, c3].drop 2).take (Try.prog.cellsOf 24)) := hf 2 _ rfl
  have f3 : Rd Try.prog w 4 (([c0, c1, c2, c3].drop 3).take (Try.prog.cellsOf 4)) := hf 3 _ rfl
  simp only [Try.cells_bool, Try.cells_key, Try.cells_fds, List.drop_succ_cons, List.drop_zero, List.take_succ_cons, List.take_zero] at f0 f1 f2 f3
  obtain ⟨x0, e0⟩ := f0.bool Try.underlying4
  obtain ⟨x1, e1, _⟩ := f1.u64 Try.underlying23
  obtain ⟨x2, e2, hi⟩ := f2.slIn Try.underlying24
  obtain ⟨x3, e3⟩ := f3.bool Try.underlying4
  simp only [List.cons.injEq, and_true] at e0 e1 e2 e3
  subst e0 e1 e2 e3
  obtain ⟨l, h1, h2⟩ := in_fds hi
  obtain ⟨a, n, c, rfl, hc⟩ := in_cap hi
  exact ⟨⟨x0, x1, l, x3⟩, ⟨⟨_, rfl, h1⟩, ⟨_, _, _, _, _, _, rfl, hc⟩⟩, h2⟩
end Go.Proofs.Yteblimdbkiiaaaa
