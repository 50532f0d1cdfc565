/- attpdu: what a field's number is set to. -/
import Derived.Test.YthnffdlnhfhabaaAtL
import Derived.RegionTactic
import Derived.BigRegion
namespace Go.Proofs.Ythnffdlnhfhabaa
open Go.RowKit

/-- the cell of field i -/
def fo (i : Nat) : Nat := [1, 2, 3, 6, 7, 8, 9].getD i 0
/-- what lies in it, of a number -/
def fv (i : Nat) (x : Int) : Value := [.int .i64 x, .int .u16 (IntKind.u16.wrap x), .int .u16 (IntKind.u16.wrap x), .int .i64 x, .int .i64 x, .int .i64 x, .bool (x == 1)].getD i (.int .i64 x)
theorem ent_t (i : Nat) (hi7 : i < 7) (args : Array Value) (W : World) : (callFunc (ft i) args).run Try.prog W = .ok (.enter (ft i) args) W := by
  rcases (show i = 0 ∨ i = 1 ∨ i = 2 ∨ i = 3 ∨ i = 4 ∨ i = 5 ∨ i = 6 by omega) with rfl | rfl | rfl | rfl | rfl | rfl | rfl
  · exact enters_of Try.func68 (by kernel_rfl) rfl args W
  · exact enters_of Try.func72 (by kernel_rfl) rfl args W
  · exact enters_of Try.func76 (by kernel_rfl) rfl args W
  · exact enters_of Try.func80 (by kernel_rfl) rfl args W
  · exact enters_of Try.func84 (by kernel_rfl) rfl args W
  · exact enters_of Try.func88 (by kernel_rfl) rfl args W
  · exact enters_of Try.func91 (by kernel_rfl) rfl args W
set_option linter.unusedSimpArgs false in
set_option linter.unusedVariables false in
set_option maxRecDepth 100000 in
theorem setA (B : Nat) (c0 c1 c2 c3 c4 c5 c6 c7 c8 c9 cA cB : Value) (x : Int) (w : World) (h : Blk w B 29 [c0, c1, c2, c3, c4, c5, c6, c7, c8, c9, cA, cB]) : Calls Try.prog 68 #[.pointer (some ⟨B, 0, none⟩), .int .i64 x] w fun e w' => e = .returned (.tuple #[]) ∧ w' = w.setCell ⟨B, 1, none⟩ (.int .i64 x) := by
  have TO := h.cells
  have hOpen := TO
  simp only [Cells, blk, List.cons_append, List.nil_append, and_true, Nat.reduceAdd, Nat.add_zero, Nat.zero_add] at hOpen
  obtain ⟨y0, y1, y2, y3, y4, y5, y6, y7, y8, y9, yA, yB⟩ := hOpen
  have f1 := h.frozen 1
  have hl := h.lt
  clear TO
  go_enter Try.func68, Try.ntmps68
  go_wp2
  refine bodyPost_end (v := .tuple #[]) (by kernel_rfl) rfl ?_
  exact ⟨rfl, rfl⟩
set_option linter.unusedSimpArgs false in
set_option linter.unusedVariables false in
set_option maxRecDepth 100000 in
theorem setH (B : Nat) (c0 c1 c2 c3 c4 c5 c6 c7 c8 c9 cA cB : Value) (x : Int) (w : World) (h : Blk w B 29 [c0, c1, c2, c3, c4, c5, c6, c7, c8, c9, cA, cB]) : Calls Try.prog 72 #[.pointer (some ⟨B, 0, none⟩), .int .i64 x] w fun e w' => e = .returned (.tuple #[]) ∧ w' = w.setCell ⟨B, 2, none⟩ (.int .u16 (IntKind.u16.wrap x)) := by
  have TO := h.cells
  have hOpen := TO
  simp only [Cells, blk, List.cons_append, List.nil_append, and_true, Nat.reduceAdd, Nat.add_zero, Nat.zero_add] at hOpen
  obtain ⟨y0, y1, y2, y3, y4, y5, y6, y7, y8, y9, yA, yB⟩ := hOpen
  have f2 := h.frozen 2
  have hl := h.lt
  clear TO
  go_enter Try.func72, Try.ntmps72
  go_wp2
  refine bodyPost_end (v := .tuple #[]) (by kernel_rfl) rfl ?_
  exact ⟨rfl, rfl⟩
set_option linter.unusedSimpArgs false in
set_option linter.unusedVariables false in
set_option maxRecDepth 100000 in
theorem setL (B : Nat) (c0 c1 c2 c3 c4 c5 c6 c7 c8 c9 cA cB : Value) (x : Int) (w : World) (h : Blk w B 29 [c0, c1, c2, c3, c4, c5, c6, c7, c8, c9, cA, cB]) : Calls Try.prog 76 #[.pointer (some ⟨B, 0, none⟩), .int .i64 x] w fun e w' => e = .returned (.tuple #[]) ∧ w' = w.setCell ⟨B, 3, none⟩ (.int .u16 (IntKind.u16.wrap x)) := by
  have TO := h.cells
  have hOpen := TO
  simp only [Cells, blk, List.cons_append, List.nil_append, and_true, Nat.reduceAdd, Nat.add_zero, Nat.zero_add] at hOpen
  obtain ⟨y0, y1, y2, y3, y4, y5, y6, y7, y8, y9, yA, yB⟩ := hOpen
  have f3 := h.frozen 3
  have hl := h.lt
  clear TO
  go_enter Try.func76, Try.ntmps76
  go_wp2
  refine bodyPost_end (v := .tuple #[]) (by kernel_rfl) rfl ?_
  exact ⟨rfl, rfl⟩
set_option linter.unusedSimpArgs false in
set_option linter.unusedVariables false in
set_option maxRecDepth 100000 in
theorem setO (B : Nat) (c0 c1 c2 c3 c4 c5 c6 c7 c8 c9 cA cB : Value) (x : Int) (w : World) (h : Blk w B 29 [c0, c1, c2, c3, c4, c5, c6, c7, c8, c9, cA, cB]) : Calls Try.prog 80 #[.pointer (some ⟨B, 0, none⟩), .int .i64 x] w fun e w' => e = .returned (.tuple #[]) ∧ w' = w.setCell ⟨B, 6, none⟩ (.int .i64 x) := by
  have TO := h.cells
  have hOpen := TO
  simp only [Cells, blk, List.cons_append, List.nil_append, and_true, Nat.reduceAdd, Nat.add_zero, Nat.zero_add] at hOpen
  obtain ⟨y0, y1, y2, y3, y4, y5, y6, y7, y8, y9, yA, yB⟩ := hOpen
  have f6 := h.frozen 6
  have hl := h.lt
  clear TO
  go_enter Try.func80, Try.ntmps80
  go_wp2
  refine bodyPost_end (v := .tuple #[]) (by kernel_rfl) rfl ?_
  exact ⟨rfl, rfl⟩
set_option linter.unusedSimpArgs false in
set_option linter.unusedVariables false in
set_option maxRecDepth 100000 in
theorem setM (B : Nat) (c0 c1 c2 c3 c4 c5 c6 c7 c8 c9 cA cB : Value) (x : Int) (w : World) (h : Blk w B 29 [c0, c1, c2, c3, c4, c5, c6, c7, c8, c9, cA, cB]) : Calls Try.prog 84 #[.pointer (some ⟨B, 0, none⟩), .int .i64 x] w fun e w' => e = .returned (.tuple #[]) ∧ w' = w.setCell ⟨B, 7, none⟩ (.int .i64 x) := by
  have TO := h.cells
  have hOpen := TO
  simp only [Cells, blk, List.cons_append, List.nil_append, and_true, Nat.reduceAdd, Nat.add_zero, Nat.zero_add] at hOpen
  obtain ⟨y0, y1, y2, y3, y4, y5, y6, y7, y8, y9, yA, yB⟩ := hOpen
  have f7 := h.frozen 7
  have hl := h.lt
  clear TO
  go_enter Try.func84, Try.ntmps84
  go_wp2
  refine bodyPost_end (v := .tuple #[]) (by kernel_rfl) rfl ?_
  exact ⟨rfl, rfl⟩
set_option linter.unusedSimpArgs false in
set_option linter.unusedVariables false in
set_option maxRecDepth 100000 in
theorem setC (B : Nat) (c0 c1 c2 c3 c4 c5 c6 c7 c8 c9 cA cB : Value) (x : Int) (w : World) (h : Blk w B 29 [c0, c1, c2, c3, c4, c5, c6, c7, c8, c9, cA, cB]) : Calls Try.prog 88 #[.pointer (some ⟨B, 0, none⟩), .int .i64 x] w fun e w' => e = .returned (.tuple #[]) ∧ w' = w.setCell ⟨B, 8, none⟩ (.int .i64 x) := by
  have TO := h.cells
  have hOpen := TO
  simp only [Cells, blk, List.cons_append, List.nil_append, and_true, Nat.reduceAdd, Nat.add_zero, Nat.zero_add] at hOpen
  obtain ⟨y0, y1, y2, y3, y4, y5, y6, y7, y8, y9, yA, yB⟩ := hOpen
  have f8 := h.frozen 8
  have hl := h.lt
  clear TO
  go_enter Try.func88, Try.ntmps88
  go_wp2
  refine bodyPost_end (v := .tuple #[]) (by kernel_rfl) rfl ?_
  exact ⟨rfl, rfl⟩
set_option linter.unusedSimpArgs false in
set_option linter.unusedVariables false in
set_option maxRecDepth 100000 in
theorem setX (B : Nat) (c0 c1 c2 c3 c4 c5 c6 c7 c8 c9 cA cB : Value) (x : Int) (w : World) (h : Blk w B 29 [c0, c1, c2, c3, c4, c5, c6, c7, c8, c9, cA, cB]) : Calls Try.prog 91 #[.pointer (some ⟨B, 0, none⟩), .int .i64 x] w fun e w' => e = .returned (.tuple #[]) ∧ w' = w.setCell ⟨B, 9, none⟩ (.bool (x == 1)) := by
  have TO := h.cells
  have hOpen := TO
  simp only [Cells, blk, List.cons_append, List.nil_append, and_true, Nat.reduceAdd, Nat.add_zero, Nat.zero_add] at hOpen
  obtain ⟨y0, y1, y2, y3, y4, y5, y6, y7, y8, y9, yA, yB⟩ := hOpen
  have f9 := h.frozen 9
  have hl := h.lt
  clear TO
  go_enter Try.func91, Try.ntmps91
  go_wp2
  refine bodyPost_end (v := .tuple #[]) (by kernel_rfl) rfl ?_
  exact ⟨rfl, rfl⟩
theorem set_k (i : Nat) (hi7 : i < 7) (B : Nat) (c0 c1 c2 c3 c4 c5 c6 c7 c8 c9 cA cB : Value) (x : Int) (w : World) (h : Blk w B 29 [c0, c1, c2, c3, c4, c5, c6, c7, c8, c9, cA, cB]) : Calls Try.prog (ft i) #[.pointer (some ⟨B, 0, none⟩), .int .i64 x] w fun e w' => e = .returned (.tuple #[]) ∧ w' = w.setCell ⟨B, fo i, none⟩ (fv i x) := by
  rcases (show i = 0 ∨ i = 1 ∨ i = 2 ∨ i = 3 ∨ i = 4 ∨ i = 5 ∨ i = 6 by omega) with rfl | rfl | rfl | rfl | rfl | rfl | rfl
  · exact setA B c0 c1 c2 c3 c4 c5 c6 c7 c8 c9 cA cB x w h
  · exact setH B c0 c1 c2 c3 c4 c5 c6 c7 c8 c9 cA cB x w h
  · exact setL B c0 c1 c2 c3 c4 c5 c6 c7 c8 c9 cA cB x w h
  · exact setO B c0 c1 c2 c3 c4 c5 c6 c7 c8 c9 cA cB x w h
  · exact setM B c0 c1 c2 c3 c4 c5 c6 c7 c8 c9 cA cB x w h
  · exact setC B c0 c1 c2 c3 c4 c5 c6 c7 c8 c9 cA cB x w h
  · exact setX B c0 c1 c2 c3 c4 c5 c6 c7 c8 c9 cA cB x w h

/-! ### item -/
/-- the element of bytes, and its error -/
def itD (k : Int) (bs : List Nat) (a : Option Addr) (c : Nat) : It :=
  ⟨vnum (bs.take 2), if k = 17 then vnum ((bs.drop 2).take 2) else 0, if k = 5 then (decR (bs.drop 2)).1 else 0, if k = 5 then (decR (bs.drop 2)).2.1 else 0, a, if k = 5 then 0 else if k = 17 then bs.length - 4 else bs.length - 2, c, if k = 5 then [] else if k = 17 then bs.drop 4 else bs.drop 2⟩
def erD (k : Int) (bs : List Nat) : Int := if k = 5 then (decR (bs.drop 2)).2.2 else 0
theorem addr_off (b o k : Nat) : ((⟨b, o, none⟩ : Addr).add k) = ⟨b, o + k, none⟩ := by unfold Addr.add; split <;> simp_all
/-- what 's[k:]' hands back -/
theorem bytes_from (w : World) (a : Option Addr) (n c k : Nat) (bs : List Nat) (h : BytesAt w (.slice a n c) bs) (hn : bs.length = n) (hc : n ≤ c) (hk : k ≤ n) :
    ∃ a' c', BytesAt w (.slice a' (n - k) c') (bs.drop k) ∧ n - k ≤ c' ∧ ∀ W, (Instr.slice 26 (.slice a n c) (some (.int .i64 k)) none none).run Try.prog W = .ok (.slice a' (n - k) c') W := by
  obtain ⟨⟨h1, h2, h3, ao, cap, e, hnil, hcell⟩, hr, hlt⟩ := h
  rw [hn] at h1 h2 hnil hcell e hr
  cases e
  have hl : (bs.drop k).length = n - k := by simp [hn]
  have hbc : bcells (bs.drop k) = (bcells bs).drop k := by simp [bcells, List.map_drop]
  refine ⟨if c = k then a else a.map (·.add k), c - k, ⟨⟨by rw [hl]; omega, by rw [hl, bcells_len, hl]; omega, bcells_one _, _, _, by rw [hl], ?_, ?_⟩, by rw [hl]; omega, fun x hx => hlt x (List.mem_of_mem_drop hx)⟩, by omega, fun W => ?_⟩
  · intro e
    have ha : a = none := by
      by_cases hck : c = k
      · rw [if_pos hck] at e; exact e
      · rw [if_neg hck] at e; simpa using e
    obtain ⟨h01, h02⟩ := hnil ha
    rw [hl]
    omega
  · intro h0
    rw [hl] at h0
    obtain ⟨b, off, rfl, hb, hcs⟩ := hcell (by omega)
    rw [if_neg (by omega)]
    refine ⟨b, off + k, by simp [addr_off], hb, fun j u hj => ?_⟩
    rw [hbc, List.getElem?_drop] at hj
    rw [Nat.add_assoc]
    exact hcs (k + j) u hj
  · have hu : Try.prog.underlying 26 = some (.slice (Try.prog.elem 26)) := by kernel_rfl
    rw [run_slice_l (ht := hu) (kl := .i64) (l := (k : Int)) (h0 := by omega) (h1 := by omega)]
    have hs : (sizeOf (Try.prog.elem 26)).run Try.prog W = .ok 1 W := by kernel_rfl
    rw [hs]
    simp [Result.andThen, sliced]
theorem build_item (V : Nat) (W : World) : (Instr.build 46 #[(0, .int .u16 (V : Nat))]).run Try.prog W = .ok (.agg #[.int .u16 (V : Nat), .int .u16 0, .int .u64 0, .int .u64 0, .slice none 0 0]) W := by kernel_rfl
theorem or16i (a b : Nat) (ha : a < 256) (hb : b < 256) : bits .or .u16 (a : Int) ((b : Int) * 256) = ((vnum [a, b] : Nat) : Int) := by
  rw [or16 a b ha hb]
  simp [vnum]
end Go.Proofs.Ythnffdlnhfhabaa
