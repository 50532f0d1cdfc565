/- attpdu: PDUs and numbers that came in as arguments. -/
import Derived.Test.YthnffdlnhfhabaaAtQ
namespace Go.Proofs.Ythnffdlnhfhabaa
open Go.RowKit

theorem Try.cells_i64 : Try.prog.cellsOf 3 = 1 := by kernel_rfl
theorem Try.cells_u16 : Try.prog.cellsOf 22 = 1 := by kernel_rfl
theorem Try.cells_u64 : Try.prog.cellsOf 23 = 1 := by kernel_rfl
theorem Try.cells_bool : Try.prog.cellsOf 4 = 1 := by kernel_rfl
theorem Try.cells_byte : Try.prog.cellsOf 5 = 1 := by kernel_rfl
theorem Try.cells_bytes : Try.prog.cellsOf 26 = 1 := by kernel_rfl
theorem Try.cells_items : Try.prog.cellsOf 27 = 1 := by kernel_rfl
theorem Try.cells_uuid : Try.prog.cellsOf 25 = 2 := by kernel_rfl
theorem Try.cells_item : Try.prog.cellsOf 46 = 5 := by kernel_rfl
theorem Try.cells_pdu : Try.prog.cellsOf 29 = 12 := by kernel_rfl
theorem Try.bytes_byte : Try.prog.bytesOf 5 = 1 := by kernel_rfl
theorem Try.bytes_item : Try.prog.bytesOf 46 = 48 := by kernel_rfl
theorem list12 {α : Type} (l : List α) (h : l.length = 12) : ∃ a0 a1 a2 a3 a4 a5 a6 a7 a8 a9 aA aB, l = [a0, a1, a2, a3, a4, a5, a6, a7, a8, a9, aA, aB] := by
  match l, h with
  | [a0, a1, a2, a3, a4, a5, a6, a7, a8, a9, aA, aB], _ => exact ⟨a0, a1, a2, a3, a4, a5, a6, a7, a8, a9, aA, aB, rfl⟩
theorem Rd.bool1 {w : World} {v : Value} (h : Rd Try.prog w 4 [v]) : ∃ b, v = .bool b := by
  obtain ⟨b, e⟩ := Rd.bool Try.underlying4 h
  exact ⟨b, by simpa using e⟩
theorem rd_uuid {w : World} {x y : Value} (h : Rd Try.prog w 25 [x, y]) : ∃ hi lo : Nat, x = .int .u64 hi ∧ y = .int .u64 lo ∧ hi < 18446744073709551616 ∧ lo < 18446744073709551616 := by
  obtain ⟨_, hf⟩ := h.struct Try.underlying25
  have f0 : Rd Try.prog w 23 (([x, y].drop 0).take (Try.prog.cellsOf 23)) := hf 0 _ rfl
  have f1 : Rd Try.prog w 23 (([x, y].drop 1).take (Try.prog.cellsOf 23)) := hf 1 _ rfl
  simp only [Try.cells_u64, List.drop_succ_cons, List.drop_zero, List.take_succ_cons, List.take_zero] at f0 f1
  obtain ⟨a, e0, ha⟩ := f0.u64 Try.underlying23
  obtain ⟨b, e1, hb⟩ := f1.u64 Try.underlying23
  simp only [List.cons.injEq, and_true] at e0 e1
  exact ⟨a, b, e0, e1, ha, hb⟩
theorem rd_bytes {w : World} {v : Value} (h : Rd Try.prog w 26 [v]) : ∃ bs, BytesAt w v bs := by
  obtain ⟨u, e, hs⟩ := h.slIn Try.underlying26
  simp only [List.cons.injEq, and_true] at e
  subst e
  exact bytes_of_in Try.underlying5 Try.cells_byte Try.bytes_byte hs
theorem rd_item {w : World} (cs : List Value) (h : Rd Try.prog w 46 cs) : ∃ t : It, cs = itc t ∧ ItOk w t := by
  obtain ⟨hl, hf⟩ := h.struct Try.underlying46
  rw [Try.cells_item] at hl
  obtain ⟨c0, c1, c2, c3, c4, rfl⟩ := list5 cs hl
  have f0 : Rd Try.prog w 22 (([c0, c1, c2, c3, c4].drop 0).take (Try.prog.cellsOf 22)) := hf 0 _ rfl
  have f1 : Rd Try.prog w 22 (([c0, c1, c2, c3, c4].drop 1).take (Try.prog.cellsOf 22)) := hf 1 _ rfl
  have f2 : Rd Try.prog w 25 (([c0, c1, c2, c3, c4].drop 2).take (Try.prog.cellsOf 25)) := hf 2 _ rfl
  have f3 : Rd Try.prog w 26 (([c0, c1, c2, c3, c4].drop 4).take (Try.prog.cellsOf 26)) := hf 3 _ rfl
  simp only [Try.cells_u16, Try.cells_uuid, Try.cells_bytes, List.drop_succ_cons, List.drop_zero, List.take_succ_cons, List.take_zero] at f0 f1 f2 f3
  obtain ⟨ha, e0, h0⟩ := f0.u16 Try.underlying22
  obtain ⟨la, e1, h1⟩ := f1.u16 Try.underlying22
  obtain ⟨hi, lo, rfl, rfl, h2, h3⟩ := rd_uuid f2
  obtain ⟨bs, hb⟩ := rd_bytes f3
  obtain ⟨a, c, rfl⟩ := hb.1.val
  simp only [List.cons.injEq, and_true] at e0 e1
  subst e0 e1
  exact ⟨⟨ha, la, hi, lo, a, bs.length, c, bs⟩, rfl, h0, h1, h2, h3, rfl, hb⟩
instance : Inhabited It := ⟨⟨0, 0, 0, 0, none, 0, 0, []⟩⟩
theorem rd_items {w : World} {v : Value} (h : Rd Try.prog w 27 [v]) : ∃ (a : Option Addr) (m d : Nat) (its : List It), v = .slice a m d ∧ Items w (.slice a m d) m its := by
  obtain ⟨u, e, hs⟩ := h.slIn Try.underlying27
  simp only [List.cons.injEq, and_true] at e
  subst e
  obtain ⟨l, h1, _, h3⟩ := sr_of_in itc (ItOk w) 5 48 (fun _ => rfl) (fun t _ u hu => itc_one [t] u (by simpa using hu)) (by decide) Try.cells_item Try.bytes_item rd_item hs
  obtain ⟨a, c, rfl⟩ := h1.val
  exact ⟨a, l.length, c, l, rfl, rfl, h1, h3⟩
/-- a PDU that came in -/
structure PduIn (w : World) (v : Value) where
  ki : Int
  ak : Int
  ha : Nat
  la : Nat
  hi : Nat
  lo : Nat
  of : Int
  mt : Int
  co : Int
  cm : Bool
  a1 : Option Addr
  n : Nat
  c : Nat
  a2 : Option Addr
  m : Nat
  d : Nat
  bs : List Nat
  its : List It
  eq : v = .agg #[.int .i64 ki, .int .i64 ak, .int .u16 ha, .int .u16 la, .int .u64 hi, .int .u64 lo, .int .i64 of, .int .i64 mt, .int .i64 co, .bool cm, .slice a1 n c, .slice a2 m d]
  val : BytesAt w (.slice a1 n c) bs
  len : bs.length = n
  items : Items w (.slice a2 m d) m its
  hha : ha < 65536
  hla : la < 65536
  hhi : hi < 18446744073709551616
  hlo : lo < 18446744073709551616
  hki : -9223372036854775808 ≤ ki ∧ ki ≤ 9223372036854775807
theorem arg_pdu {w : World} {v : Value} (h : Arg Try.prog w 29 v) : Nonempty (PduIn w v) := by
  obtain ⟨cs, rfl, hl, hf⟩ := h.struct Try.underlying29
  rw [Try.cells_pdu] at hl
  obtain ⟨c0, c1, c2, c3, c4, c5, c6, c7, c8, c9, cA, cB, rfl⟩ := list12 cs hl
  have f0 : Rd Try.prog w 3 (([c0, c1, c2, c3, c4, c5, c6, c7, c8, c9, cA, cB].drop 0).take (Try.prog.cellsOf 3)) := hf 0 _ rfl
  have f1 : Rd Try.prog w 3 (([c0, c1, c2, c3, c4, c5, c6, c7, c8, c9, cA, cB].drop 1).take (Try.prog.cellsOf 3)) := hf 1 _ rfl
  have f2 : Rd Try.prog w 22 (([c0, c1, c2, c3, c4, c5, c6, c7, c8, c9, cA, cB].drop 2).take (Try.prog.cellsOf 22)) := hf 2 _ rfl
  have f3 : Rd Try.prog w 22 (([c0, c1, c2, c3, c4, c5, c6, c7, c8, c9, cA, cB].drop 3).take (Try.prog.cellsOf 22)) := hf 3 _ rfl
  have f4 : Rd Try.prog w 25 (([c0, c1, c2, c3, c4, c5, c6, c7, c8, c9, cA, cB].drop 4).take (Try.prog.cellsOf 25)) := hf 4 _ rfl
  have f5 : Rd Try.prog w 3 (([c0, c1, c2, c3, c4, c5, c6, c7, c8, c9, cA, cB].drop 6).take (Try.prog.cellsOf 3)) := hf 5 _ rfl
  have f6 : Rd Try.prog w 3 (([c0, c1, c2, c3, c4, c5, c6, c7, c8, c9, cA, cB].drop 7).take (Try.prog.cellsOf 3)) := hf 6 _ rfl
  have f7 : Rd Try.prog w 3 (([c0, c1, c2, c3, c4, c5, c6, c7, c8, c9, cA, cB].drop 8).take (Try.prog.cellsOf 3)) := hf 7 _ rfl
  have f8 : Rd Try.prog w 4 (([c0, c1, c2, c3, c4, c5, c6, c7, c8, c9, cA, cB].drop 9).take (Try.prog.cellsOf 4)) := hf 8 _ rfl
  have f9 : Rd Try.prog w 26 (([c0, c1, c2, c3, c4, c5, c6, c7, c8, c9, cA, cB].drop 10).take (Try.prog.cellsOf 26)) := hf 9 _ rfl
  have fA : Rd Try.prog w 27 (([c0, c1, c2, c3, c4, c5, c6, c7, c8, c9, cA, cB].drop 11).take (Try.prog.cellsOf 27)) := hf 10 _ rfl
  simp only [Try.cells_i64, Try.cells_u16, Try.cells_uuid, Try.cells_bool, Try.cells_bytes, Try.cells_items, List.drop_succ_cons, List.drop_zero, List.take_succ_cons, List.take_zero] at f0 f1 f2 f3 f4 f5 f6 f7 f8 f9 fA
  obtain ⟨ki, e0, h0⟩ := f0.i64 Try.underlying3
  obtain ⟨ak, e1, _⟩ := f1.i64 Try.underlying3
  obtain ⟨ha, e2, h2⟩ := f2.u16 Try.underlying22
  obtain ⟨la, e3, h3⟩ := f3.u16 Try.underlying22
  obtain ⟨hi, lo, rfl, rfl, h4, h5⟩ := rd_uuid f4
  obtain ⟨of, e6, _⟩ := f5.i64 Try.underlying3
  obtain ⟨mt, e7, _⟩ := f6.i64 Try.underlying3
  obtain ⟨co, e8, _⟩ := f7.i64 Try.underlying3
  obtain ⟨cm, rfl⟩ := Rd.bool1 f8
  obtain ⟨bs, hb⟩ := rd_bytes f9
  obtain ⟨a1, cc, rfl⟩ := hb.1.val
  obtain ⟨a2, m, d, its, rfl, hi'⟩ := rd_items fA
  simp only [List.cons.injEq, and_true] at e0 e1 e2 e3 e6 e7 e8
  subst e0 e1 e2 e3 e6 e7 e8
  exact ⟨⟨ki, ak, ha, la, hi, lo, of, mt, co, cm, a1, bs.length, cc, a2, m, d, bs, its, rfl, hb, rfl, hi', h2, h3, h4, h5, h0⟩⟩
theorem arg_bytes_cap {w : World} {v : Value} (h : Arg Try.prog w 26 v) : ∃ (a : Option Addr) (n c : Nat) (bs : List Nat), v = .slice a n c ∧ BytesAt w (.slice a n c) bs ∧ bs.length = n ∧ n ≤ c := by
  have hs := h.slIn Try.underlying26
  obtain ⟨bs, hb⟩ := bytes_of_in Try.underlying5 Try.cells_byte Try.bytes_byte hs
  obtain ⟨a, c, rfl⟩ := hb.1.val
  refine ⟨a, bs.length, c, bs, rfl, hb, rfl, ?_⟩
  rcases hs with h0 | ⟨a', len, cap, h0, hle, _⟩
  · simp only [Value.slice.injEq] at h0
    omega
  · simp only [Value.slice.injEq] at h0
    omega
theorem arg_int {w : World} {v : Value} (h : Arg Try.prog w 3 v) : ∃ x : Int, v = .int .i64 x ∧ -9223372036854775808 ≤ x ∧ x ≤ 9223372036854775807 := h.i64 Try.underlying3
end Go.Proofs.Ythnffdlnhfhabaa
