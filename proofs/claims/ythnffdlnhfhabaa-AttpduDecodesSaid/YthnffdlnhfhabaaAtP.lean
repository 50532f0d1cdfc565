/- attpdu: what follows the numbers. -/
import Derived.Test.YthnffdlnhfhabaaAtO9
import Derived.Test.YthnffdlnhfhabaaAtO5
namespace Go.Proofs.Ythnffdlnhfhabaa
open Go.RowKit

set_option linter.unusedSimpArgs false in
set_option linter.unusedVariables false in
set_option maxRecDepth 100000 in
set_option maxHeartbeats 2000000 in
theorem rem_0 (W0 : World) (B : Nat) (ki ak : Int) (ha la : Nat) (of mt co : Int) (cm : Bool) (w : World) (hW : Below W0.heap.size W0 w) (hB : W0.heap.size ≤ B) (hb : Blk w B 29 [.int .i64 ki, .int .i64 ak, .int .u16 ha, .int .u16 la, .int .u64 0, .int .u64 0, .int .i64 of, .int .i64 mt, .int .i64 co, .bool cm, .slice none 0 0, .slice none 0 0]) (a : Option Addr) (n c : Nat) (bs : List Nat) (h : BytesAt W0 (.slice a n c) bs) (hn : bs.length = n) (hc : n ≤ c) (hm : n ≤ 1000) :
    Calls Try.prog 38 #[.pointer (some ⟨B, 0, none⟩), .string { data := #[] }, .slice a n c] w fun e w' => e = .returned (.int .i64 (unlessI (decide (n = 0)) 2)) ∧ w = w' := by
  have hu := fun W => unless_any ((n : Int) == 0) 2 W
  have e1 : Hid (((n : Int) == 0) = decide (n = 0)) := Lib.hid (by
    by_cases h0 : n = 0
    · subst h0; rfl
    · have : ((n : Int) == 0) = false := by simp; omega
      rw [this]; simp [h0])
  have HU := Lib.hid hu
  clear hu
  go_enter Try.func38, Try.ntmps38
  go_wp2_with fail
  refine (HU.out _).mono ?_
  rintro e w' ⟨rfl, rfl⟩
  go_wp2
  go_ret
  rw [← e1.out]
  exact ⟨rfl, rfl⟩
set_option linter.unusedSimpArgs false in
set_option linter.unusedVariables false in
set_option maxRecDepth 100000 in
set_option maxHeartbeats 2000000 in
theorem rem_T (W0 : World) (B : Nat) (ki ak : Int) (ha la : Nat) (of mt co : Int) (cm : Bool) (w : World) (hW : Below W0.heap.size W0 w) (hB : W0.heap.size ≤ B) (hb : Blk w B 29 [.int .i64 ki, .int .i64 ak, .int .u16 ha, .int .u16 la, .int .u64 0, .int .u64 0, .int .i64 of, .int .i64 mt, .int .i64 co, .bool cm, .slice none 0 0, .slice none 0 0]) (a : Option Addr) (n c : Nat) (bs : List Nat) (h : BytesAt W0 (.slice a n c) bs) (hn : bs.length = n) (hc : n ≤ c) (hm : n ≤ 1000) :
    Calls Try.prog 38 #[.pointer (some ⟨B, 0, none⟩), .string { data := #[84] }, .slice a n c] w fun e w' => e = .returned (.int .i64 (decR bs).2.2) ∧ Below W0.heap.size W0 w' ∧ Blk w' B 29 [.int .i64 ki, .int .i64 ak, .int .u16 ha, .int .u16 la, .int .u64 (decR bs).1, .int .u64 (decR bs).2.1, .int .i64 of, .int .i64 mt, .int .i64 co, .bool cm, .slice none 0 0, .slice none 0 0] := by
  have hd := decode_any _ bs w (h.below hW) (by omega)
  obtain ⟨⟨D1, D2, D3⟩, hD⟩ : ∃ D, decR bs = D := ⟨_, rfl⟩
  simp only [hD] at hd ⊢
  rw [hn] at *
  have HD := Lib.hid hd
  have HB := Lib.hid hb
  have HW := Lib.hid hW
  have hl := hb.lt
  clear hd hb hW hD
  go_enter Try.func38, Try.ntmps38
  go_wp2_with fail
  refine HD.out.mono ?_
  rintro e w1 ⟨rfl, hB1⟩
  have b1 := (HB.out.below hB1).alloc (.cells #[.int .u64 D1, .int .u64 D2] 25)
  have bU := Blk.new w1 25 [.int .u64 D1, .int .u64 D2]
  have hBx := (HW.out.trans (hB1.mono HW.out.size)).alloc (Nat.le_trans HW.out.size hB1.size) (.cells #[.int .u64 D1, .int .u64 D2] 25)
  clear hB1 HB HW HD
  go_upto_region 4 with fail
  generalize hX : World.alloc _ _ = X at b1 bU hBx ⊢
  clear hX
  have T1 := bU.cells
  have hOpen := T1
  simp only [Cells, blk, List.cons_append, List.nil_append, and_true, Nat.reduceAdd, Nat.add_zero, Nat.zero_add] at hOpen
  obtain ⟨x0, x1⟩ := hOpen
  have TO := b1.cells
  have hOpen := TO
  simp only [Cells, blk, List.cons_append, List.nil_append, and_true, Nat.reduceAdd, Nat.add_zero, Nat.zero_add] at hOpen
  obtain ⟨y0, y1, y2, y3, y4, y5, y6, y7, y8, y9, yA, yB⟩ := hOpen
  have f4 := b1.frozen 4
  have f5 := b1.frozen 5
  have b2 := (b1.setAt (j := 4) (.int .u64 D1)).setAt (j := 5) (.int .u64 D2)
  simp only [List.set_cons_zero, List.set_cons_succ] at b2
  have hBf := (hBx.setCell (p := ⟨B, 4, none⟩) hB (.int .u64 D1)).setCell (p := ⟨B, 5, none⟩) hB (.int .u64 D2)
  have HF := Lib.hid (And.intro hBf b2)
  clear T1 TO b1 b2 bU hBx hBf
  go_wp2
  go_ret
  exact ⟨rfl, HF.out.1, HF.out.2⟩
set_option linter.unusedSimpArgs false in
set_option linter.unusedVariables false in
set_option maxRecDepth 100000 in
set_option maxHeartbeats 2000000 in
theorem rem_V (W0 : World) (B : Nat) (ki ak : Int) (ha la : Nat) (of mt co : Int) (cm : Bool) (w : World) (hW : Below W0.heap.size W0 w) (hB : W0.heap.size ≤ B) (hb : Blk w B 29 [.int .i64 ki, .int .i64 ak, .int .u16 ha, .int .u16 la, .int .u64 0, .int .u64 0, .int .i64 of, .int .i64 mt, .int .i64 co, .bool cm, .slice none 0 0, .slice none 0 0]) (a : Option Addr) (n c : Nat) (bs : List Nat) (h : BytesAt W0 (.slice a n c) bs) (hn : bs.length = n) (hc : n ≤ c) (hm : n ≤ 1000) :
    Calls Try.prog 38 #[.pointer (some ⟨B, 0, none⟩), .string { data := #[86] }, .slice a n c] w fun e w' => ∃ (a' : Option Addr) (c' : Nat), e = .returned (.int .i64 0) ∧ Below W0.heap.size W0 w' ∧ Blk w' B 29 [.int .i64 ki, .int .i64 ak, .int .u16 ha, .int .u16 la, .int .u64 0, .int .u64 0, .int .i64 of, .int .i64 mt, .int .i64 co, .bool cm, .slice a' n c', .slice none 0 0] ∧ w'.ownsRow W0.heap.size 5 1 (.slice a' n c') n (bcells bs) := by
  have hj := joinL_own (.slice a n c) bs 26 w (h.below hW) (by omega)
  rw [hn] at hj
  have HJ := Lib.hid hj
  have HB := Lib.hid hb
  have HW := Lib.hid hW
  have hl := hb.lt
  clear hj hb hW
  go_enter Try.func38, Try.ntmps38
  go_wp2_with fail
  refine HJ.out.mono ?_
  rintro e w1 ⟨v1, rfl, hown, hB1⟩
  obtain ⟨a', c', rfl⟩ := own_slice hown
  have b1 := HB.out.below hB1
  have hBx := HW.out.trans (hB1.mono HW.out.size)
  have hown2 := own_set (own_base hown HW.out.size) b1 (by decide) 10 (.slice a' n c')
  have TO := b1.cells
  have hOpen := TO
  simp only [Cells, blk, List.cons_append, List.nil_append, and_true, Nat.reduceAdd, Nat.add_zero, Nat.zero_add] at hOpen
  obtain ⟨y0, y1, y2, y3, y4, y5, y6, y7, y8, y9, yA, yB⟩ := hOpen
  have fA := b1.frozen 10
  have b2 := b1.setAt (j := 10) (.slice a' n c')
  simp only [List.set_cons_zero, List.set_cons_succ] at b2
  have hBf := hBx.setCell (p := ⟨B, 10, none⟩) hB (.slice a' n c')
  have HF := Lib.hid (And.intro hBf (And.intro b2 hown2))
  clear TO b1 b2 hBx hBf hown hown2 HJ HB HW hB1
  go_wp2
  go_ret
  exact ⟨a', c', rfl, HF.out.1, HF.out.2.1, HF.out.2.2⟩
set_option linter.unusedSimpArgs false in
set_option linter.unusedVariables false in
set_option maxRecDepth 100000 in
set_option maxHeartbeats 2000000 in
theorem rem_I (W0 : World) (B : Nat) (ki ak : Int) (ha la : Nat) (of mt co : Int) (cm : Bool) (w : World) (hW : Below W0.heap.size W0 w) (hB : W0.heap.size ≤ B) (hb : Blk w B 29 [.int .i64 ki, .int .i64 ak, .int .u16 ha, .int .u16 la, .int .u64 0, .int .u64 0, .int .i64 of, .int .i64 mt, .int .i64 co, .bool cm, .slice none 0 0, .slice none 0 0]) (a : Option Addr) (n c : Nat) (bs : List Nat) (h : BytesAt W0 (.slice a n c) bs) (hn : bs.length = n) (hc : n ≤ c) (hm : n ≤ 1000) (hk : ki = 5 ∨ ki = 9 ∨ ki = 17) :
    Calls Try.prog 38 #[.pointer (some ⟨B, 0, none⟩), .string { data := #[73] }, .slice a n c] w fun e w' => ∃ (E : Int) (m : Nat) (L : Value) (its : List It), e = .returned (.int .i64 E) ∧ Below W0.heap.size W0 w' ∧ E = lsE ki bs ∧ (E = 0 → its.map dat = lsL ki bs) ∧
      Blk w' B 29 [.int .i64 ki, .int .i64 ak, .int .u16 ha, .int .u16 la, .int .u64 0, .int .u64 0, .int .i64 of, .int .i64 mt, .int .i64 co, .bool cm, .slice none 0 0, L] ∧ its.length = m ∧ m ≤ 1000 ∧ w'.ownsRow W0.heap.size 46 5 L m (its.flatMap itc) ∧ ∀ t ∈ its, ItOwn w' W0.heap.size t := by
  have hi : Calls Try.prog 60 #[.pointer (some ⟨B, 0, none⟩), .slice a n c] w fun e w' => ∃ (E : Int) (m : Nat) (L : Value) (its : List It), e = .returned (.int .i64 E) ∧ Below W0.heap.size W0 w' ∧ E = lsE ki bs ∧ (E = 0 → its.map dat = lsL ki bs) ∧
      Blk w' B 29 [.int .i64 ki, .int .i64 ak, .int .u16 ha, .int .u16 la, .int .u64 0, .int .u64 0, .int .i64 of, .int .i64 mt, .int .i64 co, .bool cm, .slice none 0 0, L] ∧ its.length = m ∧ m ≤ 1000 ∧ w'.ownsRow W0.heap.size 46 5 L m (its.flatMap itc) ∧ ∀ t ∈ its, ItOwn w' W0.heap.size t := by
    rcases hk with rfl | rfl | rfl
    · exact items_5 W0 B ak ha la 0 0 of mt co cm none 0 0 a n c bs w hW hB hb h hn hc hm
    · exact items_9 W0 B ak ha la 0 0 of mt co cm none 0 0 a n c bs w hW hB hb h hn hc hm
    · exact items_17 W0 B ak ha la 0 0 of mt co cm none 0 0 a n c bs w hW hB hb h hn hc hm
  have HI := Lib.hid hi
  clear hi hb hW
  go_enter Try.func38, Try.ntmps38
  go_wp2_with fail
  refine HI.out.mono ?_
  rintro e w1 ⟨E, m, L, its, rfl, hr⟩
  have HR := Lib.hid hr
  clear hr HI
  go_wp2
  go_ret
  exact ⟨E, m, L, its, rfl, HR.out⟩
end Go.Proofs.Ythnffdlnhfhabaa
