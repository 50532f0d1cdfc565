/- uuid: the laws' arguments. -/
import Derived.Test.YtolkjijnodejlaaDoorUuZ
import Derived.Test.YtolkjijnodejlaaDoorFrame2
namespace Go.Proofs.YtolkjijnodejlaaDoor
open Go.ChangeShapes Go.WideShapes Go.ChangeAt Go.RowKit

theorem Tryd.cells_uuid : Tryd.prog.cellsOf 25 = 2 := by kernel_rfl
theorem Tryd.cells_u64 : Tryd.prog.cellsOf 23 = 1 := by kernel_rfl
theorem Tryd.cells_u8' : Tryd.prog.cellsOf 5 = 1 := by kernel_rfl
theorem Tryd.bytes_u8' : Tryd.prog.bytesOf 5 = 1 := by kernel_rfl
theorem arg_uuid {w : World} {v : Value} (h : Arg Tryd.prog w 25 v) : ∃ hi lo : Nat, v = .agg #[.int .u64 hi, .int .u64 lo] ∧ hi < 18446744073709551616 ∧ lo < 18446744073709551616 := by
  obtain ⟨cs, rfl, hl, hf⟩ := h.struct Tryd.underlying25
  rw [Tryd.cells_uuid] at hl
  obtain ⟨c0, c1, rfl⟩ := list2 cs hl
  have f0 : Rd Tryd.prog w 23 (([c0, c1].drop 0).take (Tryd.prog.cellsOf 23)) := hf 0 _ rfl
  have f1 : Rd Tryd.prog w 23 (([c0, c1].drop 1).take (Tryd.prog.cellsOf 23)) := hf 1 _ rfl
  simp only [Tryd.cells_u64, List.drop_succ_cons, List.drop_zero, List.take_succ_cons, List.take_zero] at f0 f1
  obtain ⟨x, e0, hx⟩ := f0.u64 Tryd.underlying23
  obtain ⟨y, e1, hy⟩ := f1.u64 Tryd.underlying23
  simp only [List.cons.injEq, and_true] at e0 e1
  subst e0 e1
  exact ⟨x, y, rfl, hx, hy⟩
theorem arg_bytes {w : World} {v : Value} (h : Arg Tryd.prog w 36 v) : ∃ bs, BytesAt w v bs :=
  bytes_of_in Tryd.underlying5 Tryd.cells_u8' Tryd.bytes_u8' (h.slIn Tryd.underlying36)
theorem strB_all (s : ByteArray) : s = strB (s.data.toList.map (·.toNat)) := by
  apply ByteArray.ext
  apply Array.ext'
  rw [strB, strOfNums_data, List.map_map, List.map_map]
  conv => lhs; rw [← List.map_id s.data.toList]
  refine List.map_congr_left fun x _ => ?_
  show x = UInt8.ofNat x.toNat
  exact UInt8.ofNat_toNat.symm
theorem arg_str {w : World} {v : Value} (h : Arg Tryd.prog w 9 v) : ∃ ss : List Nat, v = .string (strB ss) ∧ ∀ x ∈ ss, x < 256 := by
  obtain ⟨⟨b, hv⟩, _⟩ := h
  obtain ⟨s, rfl⟩ := okWide_string Tryd.underlying9 hv
  refine ⟨_, congrArg _ (strB_all s), fun x hx => ?_⟩
  obtain ⟨y, _, rfl⟩ := List.mem_map.1 hx
  exact y.toNat_lt
end Go.Proofs.YtolkjijnodejlaaDoor
