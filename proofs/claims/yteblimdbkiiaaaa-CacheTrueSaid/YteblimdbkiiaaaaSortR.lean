/- a stable sort by exchanges: rows of elements of six cells. -/
import Derived.Test.YteblimdbkiiaaaaSortP
import Derived.Test.YteblimdbkiiaaaaCells
namespace Go.Proofs.Yteblimdbkiiaaaa
open Go.RowKit

/-- an element of six cells -/
structure El where
  c0 : Value
  c1 : Value
  c2 : Value
  c3 : Value
  c4 : Value
  c5 : Value
def El.val (e : El) : Value := .agg #[e.c0, e.c1, e.c2, e.c3, e.c4, e.c5]
/-- each cell holds one cell's value -/
def El.one (e : El) : Prop := e.c0.oneCell' = true ∧ e.c1.oneCell' = true ∧ e.c2.oneCell' = true ∧ e.c3.oneCell' = true ∧ e.c4.oneCell' = true ∧ e.c5.oneCell' = true
def El.cells (e : El) : List Value := [e.c0, e.c1, e.c2, e.c3, e.c4, e.c5]
/-- one block alone has turned, besides new ones -/
structure Sw (b : Nat) (w w' : World) : Prop where
  below : Below b w w'
  oth : ∀ k, k < w.heap.size → k ≠ b → w'.heap[k]? = w.heap[k]?
theorem Sw.refl (b : Nat) (w : World) : Sw b w w := ⟨Below.refl _ _, fun _ _ _ => rfl⟩
theorem Sw.trans {b : Nat} {x y z : World} (h1 : Sw b x y) (h2 : Sw b y z) : Sw b x z :=
  ⟨h1.below.trans h2.below, fun k hk hne => (h2.oth k (Nat.lt_of_lt_of_le hk h1.below.size) hne).trans (h1.oth k hk hne)⟩
theorem Sw.of_below {b : Nat} {w w' : World} (h : Below w.heap.size w w') (hb : b ≤ w.heap.size) : Sw b w w' := ⟨h.mono hb, fun k hk _ => h.block k hk⟩
theorem Sw.of_grown {b : Nat} {w w' : World} (h : w.grownBy w' (some b)) (hb : b ≤ w.heap.size) : Sw b w w' :=
  ⟨⟨h.os, h.tape, h.output, h.size, fun k hk => h.block k (by omega) (by simp; omega)⟩, fun k hk hne => h.block k hk (by simpa using hne)⟩
theorem Sw.drew {b : Nat} {w w' : World} (h : Sw b w w') : Sw b w w'.drew := ⟨h.below.drew, h.oth⟩

/-- a row of elements: number p k at place k -/
def Row6 (T : TypeId) (w : World) (b off : Nat) (es : Nat → El) (p : Nat → Nat) (n : Nat) : Prop :=
  ∃ cur : Array Value, w.heap[b]? = some (.cells cur T (0, 0)) ∧ off + n * 6 ≤ cur.size ∧ ∀ k, k < n → ∀ j, j < 6 → cur[off + k * 6 + j]? = (es (p k)).cells[j]?
theorem Row6.lt {T : TypeId} {w : World} {b off : Nat} {es : Nat → El} {p : Nat → Nat} {n : Nat} (h : Row6 T w b off es p n) : b < w.heap.size := by
  obtain ⟨cur, h1, _⟩ := h
  exact (Array.getElem?_eq_some_iff.1 h1).1
theorem Row6.below {T : TypeId} {w w' : World} {b off : Nat} {es : Nat → El} {p : Nat → Nat} {n : Nat} (h : Row6 T w b off es p n) (hB : Below w.heap.size w w') : Row6 T w' b off es p n := by
  have hl := h.lt
  obtain ⟨cur, h1, h2⟩ := h
  exact ⟨cur, (hB.block b hl).trans h1, h2⟩
theorem Row6.drew {T : TypeId} {w : World} {b off : Nat} {es : Nat → El} {p : Nat → Nat} {n : Nat} (h : Row6 T w b off es p n) : Row6 T w.drew b off es p n := h
theorem Row6.get {T : TypeId} {w : World} {b off : Nat} {es : Nat → El} {p : Nat → Nat} {n : Nat} (h : Row6 T w b off es p n) {k : Nat} (hk : k < n) :
    w.cell? ⟨b, off + k * 6, none⟩ = some (es (p k)).c0 ∧ w.cell? ⟨b, off + k * 6 + 1, none⟩ = some (es (p k)).c1 ∧ w.cell? ⟨b, off + k * 6 + 2, none⟩ = some (es (p k)).c2 ∧
    w.cell? ⟨b, off + k * 6 + 3, none⟩ = some (es (p k)).c3 ∧ w.cell? ⟨b, off + k * 6 + 4, none⟩ = some (es (p k)).c4 ∧ w.cell? ⟨b, off + k * 6 + 5, none⟩ = some (es (p k)).c5 := by
  obtain ⟨cur, h1, _, h3⟩ := h
  have key : ∀ j, j < 6 → w.cell? ⟨b, off + k * 6 + j, none⟩ = (es (p k)).cells[j]? := fun j hj => (cell_of_row w b _ cur T _ h1).trans (h3 k hk j hj)
  exact ⟨key 0 (by decide), key 1 (by decide), key 2 (by decide), key 3 (by decide), key 4 (by decide), key 5 (by decide)⟩
theorem Row6.cells {T : TypeId} {w : World} {b off : Nat} {es : Nat → El} {p : Nat → Nat} {n : Nat} (h : Row6 T w b off es p n) {k : Nat} (hk : k < n) :
    Cells w (blk b (off + k * 6) 0 [(es (p k)).c0, (es (p k)).c1, (es (p k)).c2, (es (p k)).c3, (es (p k)).c4, (es (p k)).c5]) := by
  obtain ⟨h0, h1, h2, h3, h4, h5⟩ := h.get hk
  exact ⟨h0, h1, h2, h3, h4, h5, trivial⟩
theorem Row6.fz {T : TypeId} {w : World} {b off : Nat} {es : Nat → El} {p : Nat → Nat} {n : Nat} (h : Row6 T w b off es p n) (o : Nat) : w.frozen? ⟨b, o, none⟩ = false := by
  obtain ⟨cur, h1, _⟩ := h
  exact frozen_of_row w b o cur T h1
/-- an element put into a place -/
def put6 (cur : Array Value) (o : Nat) (e : El) : Array Value := (((((cur.setIfInBounds o e.c0).setIfInBounds (o + 1) e.c1).setIfInBounds (o + 2) e.c2).setIfInBounds (o + 3) e.c3).setIfInBounds (o + 4) e.c4).setIfInBounds (o + 5) e.c5
theorem put6_size (cur : Array Value) (o : Nat) (e : El) : (put6 cur o e).size = cur.size := by simp [put6]
theorem put6_in {cur : Array Value} {o : Nat} {e : El} (h : o + 6 ≤ cur.size) {j : Nat} (hj : j < 6) : (put6 cur o e)[o + j]? = e.cells[j]? := by
  unfold put6 El.cells
  match j, hj with
  | 0, _ => simp [Array.getElem?_setIfInBounds]; omega
  | 1, _ => simp [Array.getElem?_setIfInBounds]; omega
  | 2, _ => simp [Array.getElem?_setIfInBounds]; omega
  | 3, _ => simp [Array.getElem?_setIfInBounds]; omega
  | 4, _ => simp [Array.getElem?_setIfInBounds]; omega
  | 5, _ => simp [Array.getElem?_setIfInBounds]; omega
theorem put6_out {cur : Array Value} {o : Nat} {e : El} {i : Nat} (h : i < o ∨ o + 6 ≤ i) : (put6 cur o e)[i]? = cur[i]? := by
  unfold put6
  simp only [Array.getElem?_setIfInBounds]
  rw [if_neg (by omega), if_neg (by omega), if_neg (by omega), if_neg (by omega), if_neg (by omega), if_neg (by omega)]
theorem one6 (W : World) (p : Addr) (u : Value) : W.grownBy (W.setCell p u) (some p.block) :=
  ⟨rfl, rfl, rfl, by simp [World.setCell], fun k _ hne => heap_setCell_other _ _ _ _ (fun e => hne (by rw [e]))⟩
theorem grown_trans {a b c : World} {r : Option Nat} (h1 : a.grownBy b r) (h2 : b.grownBy c r) : a.grownBy c r :=
  ⟨h2.os.trans h1.os, h2.tape.trans h1.tape, h2.output.trans h1.output, Nat.le_trans h1.size h2.size, fun k hk hne => (h2.block k (Nat.lt_of_lt_of_le hk h1.size) hne).trans (h1.block k hk hne)⟩
theorem set6at {W : World} {b o : Nat} {cur : Array Value} {T : TypeId} (e : El) (h : W.heap[b]? = some (.cells cur T (0, 0))) :
    ((((((W.setCell ⟨b, o, none⟩ e.c0).setCell ⟨b, o + 1, none⟩ e.c1).setCell ⟨b, o + 2, none⟩ e.c2).setCell ⟨b, o + 3, none⟩ e.c3).setCell ⟨b, o + 4, none⟩ e.c4).setCell ⟨b, o + 5, none⟩ e.c5).heap[b]? = some (.cells (put6 cur o e) T (0, 0)) ∧
    W.grownBy ((((((W.setCell ⟨b, o, none⟩ e.c0).setCell ⟨b, o + 1, none⟩ e.c1).setCell ⟨b, o + 2, none⟩ e.c2).setCell ⟨b, o + 3, none⟩ e.c3).setCell ⟨b, o + 4, none⟩ e.c4).setCell ⟨b, o + 5, none⟩ e.c5) (some b) := by
  refine ⟨?_, ?_⟩
  · have h0 := heap_setCell_same W b o _ T e.c0 h
    have h1 := heap_setCell_same _ b (o + 1) _ T e.c1 h0
    have h2 := heap_setCell_same _ b (o + 2) _ T e.c2 h1
    have h3 := heap_setCell_same _ b (o + 3) _ T e.c3 h2
    have h4 := heap_setCell_same _ b (o + 4) _ T e.c4 h3
    exact heap_setCell_same _ b (o + 5) _ T e.c5 h4
  · exact grown_trans (grown_trans (grown_trans (grown_trans (grown_trans (one6 _ ⟨b, o, none⟩ _) (one6 _ ⟨b, o + 1, none⟩ _)) (one6 _ ⟨b, o + 2, none⟩ _)) (one6 _ ⟨b, o + 3, none⟩ _)) (one6 _ ⟨b, o + 4, none⟩ _)) (one6 _ ⟨b, o + 5, none⟩ _)
def upd (p : Nat → Nat) (i x : Nat) : Nat → Nat := fun k => if k = i then x else p k
theorem Row6.put {T : TypeId} {w : World} {b off : Nat} {es : Nat → El} {p : Nat → Nat} {n : Nat} (h : Row6 T w b off es p n) {i : Nat} (hi : i < n) (x : Nat) :
    Row6 T ((((((w.setCell ⟨b, off + i * 6, none⟩ (es x).c0).setCell ⟨b, off + i * 6 + 1, none⟩ (es x).c1).setCell ⟨b, off + i * 6 + 2, none⟩ (es x).c2).setCell ⟨b, off + i * 6 + 3, none⟩ (es x).c3).setCell ⟨b, off + i * 6 + 4, none⟩ (es x).c4).setCell ⟨b, off + i * 6 + 5, none⟩ (es x).c5) b off es (upd p i x) n ∧
    Sw b w ((((((w.setCell ⟨b, off + i * 6, none⟩ (es x).c0).setCell ⟨b, off + i * 6 + 1, none⟩ (es x).c1).setCell ⟨b, off + i * 6 + 2, none⟩ (es x).c2).setCell ⟨b, off + i * 6 + 3, none⟩ (es x).c3).setCell ⟨b, off + i * 6 + 4, none⟩ (es x).c4).setCell ⟨b, off + i * 6 + 5, none⟩ (es x).c5) := by
  have hl := h.lt
  obtain ⟨cur, h1, h2, h3⟩ := h
  obtain ⟨k1, k2⟩ := set6at (o := off + i * 6) (es x) h1
  refine ⟨⟨_, k1, by rw [put6_size]; exact h2, fun k hk j hj => ?_⟩, Sw.of_grown k2 (by omega)⟩
  unfold upd
  by_cases hki : k = i
  · subst hki
    rw [if_pos rfl]
    exact put6_in (by omega) hj
  · rw [if_neg hki, put6_out (by omega)]
    exact h3 k hk j hj
theorem Row6.congr {T : TypeId} {w : World} {b off : Nat} {es : Nat → El} {p q : Nat → Nat} {n : Nat} (h : Row6 T w b off es p n) (e : ∀ k, q k = p k) : Row6 T w b off es q n := by
  rw [show q = p from funext e]
  exact h
theorem upd_swp {p : Nat → Nat} {i j : Nat} (hne : i ≠ j) : upd (upd p i (p j)) j (p i) = swp p i j := by
  funext k
  unfold upd swp
  by_cases h1 : k = j
  · subst h1; rw [if_pos rfl, if_neg (fun e => hne e.symm), if_pos rfl]
  · rw [if_neg h1]
    by_cases h2 : k = i
    · rw [if_pos h2, if_pos h2]
    · rw [if_neg h2, if_neg h2, if_neg h1]
theorem upd_swp' {p : Nat → Nat} {i j : Nat} : upd (upd p j (p i)) i (p j) = swp p i j := by
  funext k
  unfold upd swp
  rfl
/-- what a comparison says -/
def CmpOk (P : Program) (f : Nat) (lt : Nat → Nat → Prop) (es : Nat → El) (n : Nat) : Prop :=
  ∀ x y, x < n → y < n → ∃ c : Int, (c < 0 ↔ lt x y) ∧ ∀ w : World, Calls P f #[(es x).val, (es y).val] w fun e w' => e = .returned (.int .i64 c) ∧ Below w.heap.size w w'
end Go.Proofs.Yteblimdbkiiaaaa
