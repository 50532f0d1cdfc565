/- attpdu: the field of a letter. -/
import Derived.Test.YthnffdlnhfhabaaAtD
namespace Go.Proofs.Ythnffdlnhfhabaa
open Go.RowKit

def fgF : List FuncId := [67, 71, 75, 79, 83, 87, 90]
def ftF : List FuncId := [68, 72, 76, 80, 84, 88, 91]
def fg (k : Nat) : FuncId := fgF.getD k 0
def ft (k : Nat) : FuncId := ftF.getD k 0
def si (k : Nat) : Nat := siF.getD k 0
theorem fd7_get (k : Nat) (h : k < 7) : fd7[k * 6]? = some (.string (strB [le k])) ∧ fd7[k * 6 + 1]? = some (.int .i64 (si k : Nat)) ∧ fd7[k * 6 + 2]? = some (.func (.func (fz k)) #[] #[]) ∧ fd7[k * 6 + 3]? = some (.func (.func (fk k)) #[] #[]) ∧
    fd7[k * 6 + 4]? = some (.func (.func (fg k)) #[] #[]) ∧ fd7[k * 6 + 5]? = some (.func (.func (ft k)) #[] #[]) := by
  rcases (show k = 0 ∨ k = 1 ∨ k = 2 ∨ k = 3 ∨ k = 4 ∨ k = 5 ∨ k = 6 by omega) with rfl | rfl | rfl | rfl | rfl | rfl | rfl
  all_goals exact ⟨rfl, rfl, rfl, rfl, rfl, rfl⟩
theorem le_inj (k i : Nat) (hk : k < 7) (hi : i < 10) : decide ([le k] = [le i]) = decide (k = i) := by
  rcases (show k = 0 ∨ k = 1 ∨ k = 2 ∨ k = 3 ∨ k = 4 ∨ k = 5 ∨ k = 6 by omega) with rfl | rfl | rfl | rfl | rfl | rfl | rfl
  all_goals
    rcases (show i = 0 ∨ i = 1 ∨ i = 2 ∨ i = 3 ∨ i = 4 ∨ i = 5 ∨ i = 6 ∨ i = 7 ∨ i = 8 ∨ i = 9 by omega) with rfl | rfl | rfl | rfl | rfl | rfl | rfl | rfl | rfl | rfl
    all_goals rfl
theorem le_256 (k : Nat) (h : k < 10) : le k < 256 := by
  rcases (show k = 0 ∨ k = 1 ∨ k = 2 ∨ k = 3 ∨ k = 4 ∨ k = 5 ∨ k = 6 ∨ k = 7 ∨ k = 8 ∨ k = 9 by omega) with rfl | rfl | rfl | rfl | rfl | rfl | rfl | rfl | rfl | rfl
  all_goals decide
theorem conv_le (i : Nat) (h : i < 10) (W : World) : (convert 21 9 (.int .i32 (le i : Nat))).run Try.prog W = .ok (.string (strB [le i])) W := by
  rcases (show i = 0 ∨ i = 1 ∨ i = 2 ∨ i = 3 ∨ i = 4 ∨ i = 5 ∨ i = 6 ∨ i = 7 ∨ i = 8 ∨ i = 9 by omega) with rfl | rfl | rfl | rfl | rfl | rfl | rfl | rfl | rfl | rfl
  all_goals kernel_rfl
/-- the field of letter i -/
def fRow (i : Nat) : Value := if i < 7 then .agg #[.string (strB [le i]), .int .i64 (si i : Nat), .func (.func (fz i)) #[] #[], .func (.func (fk i)) #[] #[], .func (.func (fg i)) #[] #[], .func (.func (ft i)) #[] #[]] else .agg #[.string { data := #[] }, .int .i64 0, .nilFunc, .nilFunc, .nilFunc, .nilFunc]
theorem build_f0 (w : World) : (Instr.build 55 #[]).run Try.prog w = .ok (.agg #[.string { data := #[] }, .int .i64 0, .nilFunc, .nilFunc, .nilFunc, .nilFunc]) w := by kernel_rfl
set_option linter.unusedSimpArgs false in
set_option linter.unusedVariables false in
set_option maxRecDepth 100000 in
set_option maxHeartbeats 2000000 in
theorem letter_any (i : Nat) (hi : i < 10) (w : World) : Calls Try.prog 31 #[.int .i32 (le i : Nat)] w fun e w' => e = .returned (.tuple #[fRow i, .bool (decide (i < 7))]) ∧ Below w.heap.size w w' := by
  have hcv := conv_le i hi
  have hz := build_f0
  obtain ⟨RES, hRES⟩ : ∃ R, Value.tuple #[fRow i, .bool (decide (i < 7))] = R := ⟨_, rfl⟩
  rw [hRES]
  have HRES := Lib.hid hRES
  have hB : Below w.heap.size w (w.alloc (.cells #[.string { data := #[] }, .int .i64 0, .nilFunc, .nilFunc, .nilFunc, .nilFunc] 55)) := (Below.refl _ _).alloc (Nat.le_refl _) _
  have bR := Blk.new w 55 [.string { data := #[] }, .int .i64 0, .nilFunc, .nilFunc, .nilFunc, .nilFunc]
  have HBR := Lib.hid bR
  have HB := Lib.hid hB
  clear hRES bR hB
  go_enter Try.func31, Try.ntmps31
  go_wp2_with fail
  refine (numbers_any _).mono ?_
  rintro e w1 ⟨rfl, hw1⟩
  generalize hV : World.alloc _ _ = V at HBR HB hw1 ⊢
  have hVs : w.heap.size < V.heap.size := by rw [← hV]; simp
  clear hV
  have hB1 : Below V.heap.size V w1 := by rw [hw1]; exact (Below.refl _ _).alloc (Nat.le_refl _) _
  have hcell : ∀ j u, fd7[j]? = some u → w1.cell? ⟨V.heap.size, j, none⟩ = some u := fun j u hj => by
    rw [hw1]
    exact cellNew _ _ _ j u (by simpa using hj)
  have hg : V.heap.size < w1.heap.size := by rw [hw1]; simp
  have hBW := HB.out.trans (hB1.mono HB.out.size)
  have bR1 := HBR.out.below hB1
  have HBR1 := Lib.hid bR1
  have HBW := Lib.hid hBW
  have HC := Lib.hid hcell
  obtain ⟨g, hgg⟩ : ∃ g, V.heap.size = g := ⟨_, rfl⟩
  rw [hgg] at hg HC hVs ⊢
  clear hw1 hB1 hcell hBW bR1 HBR HB hgg
  go_wp2
  go_loopw [5, 8] (fun _ x wr => ∃ k : Nat, x = .int .i64 k ∧ k ≤ 7 ∧ k ≤ i ∧ Below w1.heap.size w1 wr) (fun _ x _ => 7 - (intOf x).toNat)
  case atStart => exact ⟨0, by simp, by omega, by omega, Below.refl _ _⟩
  case round =>
    obtain ⟨k, rfl, hk, hki, hBr⟩ := hrel
    have w1' : IntKind.i64.wrap ((k : Int) + 1) = (k : Int) + 1 := IntWalk.i64_in _ (by omega)
    by_cases hlt : k < 7
    · have g1 : decide (k < 7) = true := by simpa using hlt
      have g1' : decide ((k : Int) < 7) = true := by simp; omega
      obtain ⟨r0, r1, r2, r3, r4, r5⟩ := fd7_get k hlt
      have z0 := (hBr.cell (p := ⟨g, k * 6, none⟩) hg).trans (HC.out (k * 6) _ r0)
      have z1 := (hBr.cell (p := ⟨g, k * 6 + 1, none⟩) hg).trans (HC.out (k * 6 + 1) _ r1)
      have z2 := (hBr.cell (p := ⟨g, k * 6 + 2, none⟩) hg).trans (HC.out (k * 6 + 2) _ r2)
      have z3 := (hBr.cell (p := ⟨g, k * 6 + 3, none⟩) hg).trans (HC.out (k * 6 + 3) _ r3)
      have z4 := (hBr.cell (p := ⟨g, k * 6 + 4, none⟩) hg).trans (HC.out (k * 6 + 4) _ r4)
      have z5 := (hBr.cell (p := ⟨g, k * 6 + 5, none⟩) hg).trans (HC.out (k * 6 + 5) _ r5)
      clear r0 r1 r2 r3 r4 r5
      have hq := le_inj k i hlt hi
      have f1 := strB_beqL [le k] [le i] (by intro x hx; simp only [List.mem_singleton] at hx; subst hx; exact le_256 k (by omega)) (by intro x hx; simp only [List.mem_singleton] at hx; subst hx; exact le_256 i hi)
      have f2 := strB_beq [le k] [le i] (by intro x hx; simp only [List.mem_singleton] at hx; subst hx; exact le_256 k (by omega)) (by intro x hx; simp only [List.mem_singleton] at hx; subst hx; exact le_256 i hi)
      rw [hq] at f1 f2
      have hBn := hBr.alloc hBr.size (.cells #[.string (strB [le k]), .int .i64 (si k : Nat), .func (.func (fz k)) #[] #[], .func (.func (fk k)) #[] #[], .func (.func (fg k)) #[] #[], .func (.func (ft k)) #[] #[]] 55)
      have hnew : Below wr.heap.size wr (wr.alloc (.cells #[.string (strB [le k]), .int .i64 (si k : Nat), .func (.func (fz k)) #[] #[], .func (.func (fk k)) #[] #[], .func (.func (fg k)) #[] #[], .func (.func (ft k)) #[] #[]] 55)) := (Below.refl _ _).alloc (Nat.le_refl _) _
      have bR := HBR1.out.below hBr
      have HBr := Lib.hid hBr
      have hwr : w.heap.size < wr.heap.size := Nat.lt_of_lt_of_le hVs (Nat.le_trans (Nat.le_of_lt hg) hBr.size)
      have HBn := Lib.hid hBn
      have HBR := Lib.hid bR
      clear hq hBn hnew hBr
      by_cases hke : k = i
      · have f1' : ((strB [le k]).toList == (strB [le i]).toList) = true := by rw [f1]; simpa using hke
        have f2' : (strB [le k] == strB [le i]) = true := by rw [f2]; simpa using hke
        clear f1 f2
        have hR : RES = .tuple #[.agg #[.string (strB [le k]), .int .i64 (si k : Nat), .func (.func (fz k)) #[] #[], .func (.func (fk k)) #[] #[], .func (.func (fg k)) #[] #[], .func (.func (ft k)) #[] #[]], .bool true] := by
          rw [← HRES.out, ← hke]
          unfold fRow
          rw [if_pos hlt]
          simp [hlt]
        subst hR
        have fr0 := bR.frozen 0
        have fr1 := bR.frozen 1
        have fr2 := bR.frozen 2
        have fr3 := bR.frozen 3
        have fr4 := bR.frozen 4
        have fr5 := bR.frozen 5
        have TR := bR.cells
        have hOpen := TR
        simp only [Cells, blk, List.cons_append, List.nil_append, and_true, Nat.reduceAdd, Nat.add_zero, Nat.zero_add] at hOpen
        obtain ⟨x0, x1, x2, x3, x4, x5⟩ := hOpen
        clear TR bR hke
        go_wp2
        have b3 := ((((((HBR.out.setAt (j := 0) (.string (strB [le k]))).setAt (j := 1) (.int .i64 (si k : Nat))).setAt (j := 2) (.func (.func (fz k)) #[] #[])).setAt (j := 3) (.func (.func (fk k)) #[] #[])).setAt (j := 4) (.func (.func (fg k)) #[] #[])).setAt (j := 5) (.func (.func (ft k)) #[] #[])).alloc (.cells #[.string (strB [le k]), .int .i64 (si k : Nat), .func (.func (fz k)) #[] #[], .func (.func (fk k)) #[] #[], .func (.func (fg k)) #[] #[], .func (.func (ft k)) #[] #[]] 55)
        obtain ⟨v0, v1, v2, v3, v4, v5, _⟩ := b3.cells
        simp only [Nat.zero_add, Nat.add_zero, List.set_cons_zero, List.set_cons_succ] at v0 v1 v2 v3 v4 v5
        refine bodyPost_ret (v := .tuple #[.agg #[.string (strB [le k]), .int .i64 (si k : Nat), .func (.func (fz k)) #[] #[], .func (.func (fk k)) #[] #[], .func (.func (fg k)) #[] #[], .func (.func (ft k)) #[] #[]], .bool true]) (by simp [results, Try.results31, go_sem, v0, v1, v2, v3, v4, v5]) rfl ?_
        have hbw := HBW.out.trans (HBr.out.mono HBW.out.size)
        have hs6 := (((((hbw.setCell (p := ⟨w.heap.size, 0, none⟩) (Nat.le_refl _) (.string (strB [le k]))).setCell (p := ⟨w.heap.size, 1, none⟩) (Nat.le_refl _) (.int .i64 (si k : Nat))).setCell (p := ⟨w.heap.size, 2, none⟩) (Nat.le_refl _) (.func (.func (fz k)) #[] #[])).setCell (p := ⟨w.heap.size, 3, none⟩) (Nat.le_refl _) (.func (.func (fk k)) #[] #[])).setCell (p := ⟨w.heap.size, 4, none⟩) (Nat.le_refl _) (.func (.func (fg k)) #[] #[])).setCell (p := ⟨w.heap.size, 5, none⟩) (Nat.le_refl _) (.func (.func (ft k)) #[] #[])
        exact ⟨rfl, hs6.alloc hs6.size _⟩
      · have f1' : ((strB [le k]).toList == (strB [le i]).toList) = false := by rw [f1]; simpa using hke
        have f2' : (strB [le k] == strB [le i]) = false := by rw [f2]; simpa using hke
        clear f1 f2 bR
        have hki2 : k + 1 ≤ i := by omega
        clear hke
        go_wp2
        refine ⟨⟨k + 1, by simp, hlt, hki2, HBn.out⟩, ?_⟩
        simp [intOf]
        omega
    · obtain rfl : k = 7 := by omega
      have g1 : decide (7 < 7) = false := by decide
      have g1' : decide (((7 : Nat) : Int) < 7) = false := by decide
      have hR : RES = .tuple #[.agg #[.string { data := #[] }, .int .i64 0, .nilFunc, .nilFunc, .nilFunc, .nilFunc], .bool false] := by
        rw [← HRES.out]
        unfold fRow
        rw [if_neg (by omega)]
        simp only [show ¬ i < 7 by omega, decide_false]
      subst hR
      have bR := HBR1.out.below hBr
      have fr0 := bR.frozen 0
      have fr1 := bR.frozen 1
      have fr2 := bR.frozen 2
      have fr3 := bR.frozen 3
      have fr4 := bR.frozen 4
      have fr5 := bR.frozen 5
      have TR := bR.cells
      have hOpen := TR
      simp only [Cells, blk, List.cons_append, List.nil_append, and_true, Nat.reduceAdd, Nat.add_zero, Nat.zero_add] at hOpen
      obtain ⟨x0, x1, x2, x3, x4, x5⟩ := hOpen
      clear TR
      go_wp2
      have hbw := HBW.out.trans (hBr.mono HBW.out.size)
      have bR := HBR1.out.below hBr
      have b3 := (((((bR.setAt (j := 0) (.string { data := #[] })).setAt (j := 1) (.int .i64 0)).setAt (j := 2) .nilFunc).setAt (j := 3) .nilFunc).setAt (j := 4) .nilFunc).setAt (j := 5) .nilFunc
      obtain ⟨v0, v1, v2, v3, v4, v5, _⟩ := b3.cells
      simp only [Nat.zero_add, Nat.add_zero, List.set_cons_zero, List.set_cons_succ] at v0 v1 v2 v3 v4 v5
      refine bodyPost_ret (v := .tuple #[.agg #[.string { data := #[] }, .int .i64 0, .nilFunc, .nilFunc, .nilFunc, .nilFunc], .bool false]) (by simp [results, Try.results31, go_sem, v0, v1, v2, v3, v4, v5]) rfl ?_
      exact ⟨rfl, (((((hbw.setCell (p := ⟨w.heap.size, 0, none⟩) (Nat.le_refl _) _).setCell (p := ⟨w.heap.size, 1, none⟩) (Nat.le_refl _) _).setCell (p := ⟨w.heap.size, 2, none⟩) (Nat.le_refl _) _).setCell (p := ⟨w.heap.size, 3, none⟩) (Nat.le_refl _) _).setCell (p := ⟨w.heap.size, 4, none⟩) (Nat.le_refl _) _).setCell (p := ⟨w.heap.size, 5, none⟩) (Nat.le_refl _) _⟩
end Go.Proofs.Ythnffdlnhfhabaa
