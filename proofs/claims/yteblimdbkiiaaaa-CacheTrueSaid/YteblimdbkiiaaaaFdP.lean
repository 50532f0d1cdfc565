/- cache: the reference's put. -/
import Derived.Test.YteblimdbkiiaaaaFdG
import Derived.Deep.DeepCutAuto
namespace Go.Proofs.Yteblimdbkiiaaaa
open Go.RowKit

/-- what put has laid when i elements are over, and whether x lies there -/
def putTo (l : List Fd) (x : Fd) : Nat → List Fd × Bool
  | 0 => ([], false)
  | i+1 => if !(putTo l x i).2 && decide (x.ha < (l.getD i default).ha) then ((putTo l x i).1 ++ [x, l.getD i default], true) else ((putTo l x i).1 ++ [l.getD i default], (putTo l x i).2)
def rput (l : List Fd) (x : Fd) : List Fd := if l.any (fun y => y.ha == x.ha) then l else if (putTo l x l.length).2 then (putTo l x l.length).1 else (putTo l x l.length).1 ++ [x]
theorem putTo_len (l : List Fd) (x : Fd) : ∀ i, (putTo l x i).1.length ≤ i + 1 ∧ ((putTo l x i).2 = false → (putTo l x i).1.length = i)
  | 0 => by simp [putTo]
  | i+1 => by
    have ih := putTo_len l x i
    unfold putTo
    by_cases h : (!(putTo l x i).2 && decide (x.ha < (l.getD i default).ha)) = true
    · rw [if_pos h]
      simp only [Bool.and_eq_true, Bool.not_eq_true'] at h
      have := ih.2 h.1
      simp
      omega
    · rw [if_neg h]
      simp
      refine ⟨ih.1, fun h2 => ih.2 h2⟩
theorem Cells.keepB {B : Nat} {W W' : World} : ∀ {l : List (Nat × Nat × Value)}, Cells W l → (∀ x ∈ l, x.1 < B) → Below B W W' → Cells W' l
  | [], _, _, _ => trivial
  | (b, o, v) :: l, h, hl, hb => ⟨(hb.cell (p := ⟨b, o, none⟩) (hl (b, o, v) (by simp))).trans h.1, Cells.keepB h.2 (fun x hx => hl x (by simp [hx])) hb⟩
theorem fcells_app (l l' : List Fd) : fcells (l ++ l') = fcells l ++ fcells l' := by simp [fcells]
theorem own_add {w : World} {base : Nat} {v : Value} {n : Nat} {l : List Fd} {x : Fd} (h : w.ownsRow base 53 6 v (n + 1) (fcells l ++ [.int .u16 x.ha, .int .u16 x.la, .int .u16 x.va, .int .i64 x.pr, .int .u64 x.hi, .int .u64 x.lo])) (hn : n = l.length) : w.ownsRow base 53 6 v (l ++ [x]).length (fcells (l ++ [x])) := by
  rw [fcells_app, List.length_append, List.length_singleton, ← hn]
  exact h

set_option linter.unusedSimpArgs false in
set_option linter.unusedVariables false in
set_option maxRecDepth 100000 in
set_option maxHeartbeats 4000000 in
theorem rput_any (v : Value) (l : List Fd) (x : Fd) (w : World) (h : SR w v l.length 6 (fcells l)) (hn : l.length ≤ 1000000) :
    Calls Try.prog 37 #[v, (elF x).val] w fun e w' => ∃ v', e = .returned v' ∧ SR w' v' (rput l x).length 6 (fcells (rput l x)) ∧ Below w.heap.size w w' := by
  obtain ⟨i6, hi, hz0, hz1, hz2⟩ := info_parts Try.info_fd
  have HS := Lib.hid h
  obtain ⟨n, hnn⟩ : ∃ n, l.length = n := ⟨_, rfl⟩
  have HN := Lib.hid hnn
  obtain ⟨_, _, _, ao, cap, rfl, _, hc⟩ := h
  have HC := Lib.hid hc
  rw [hnn] at HS hn ⊢
  obtain ⟨x0, x1, x2, x3, x4, x5⟩ := x
  simp only [El.val, elF]
  have hb0 : Below w.heap.size w (w.alloc (.cells #[.int .u16 x0, .int .u16 x1, .int .u16 x2, .int .i64 x3, .int .u64 x4, .int .u64 x5] 53)) := (Below.refl _ _).alloc (Nat.le_refl _) _
  have T0 := cells_new w [.int .u16 x0, .int .u16 x1, .int .u16 x2, .int .i64 x3, .int .u64 x4, .int .u64 x5] 53
  have hz0' : w.heap.size + 1 ≤ (w.alloc (.cells #[.int .u16 x0, .int .u16 x1, .int .u16 x2, .int .i64 x3, .int .u64 x4, .int .u64 x5] 53)).heap.size := by simp
  clear hc hnn
  go_enter Try.func37, Try.ntmps37
  go_wp2_with fail
  generalize hW : w.alloc (.cells _ 53) = W0 at hb0 T0 hz0' ⊢
  clear hW
  go_loopw [5, 6, 7] (fun out dn i wr => ∃ (k : Nat) (o : List Fd) (d : Bool), i = .int .i64 k ∧ dn = .bool d ∧ k ≤ n ∧ Hid (putTo l ⟨x0, x1, x2, x3, x4, x5⟩ k = (o, d)) ∧ Hid (∀ j, j < k → ((l.getD j default).ha == x0) = false) ∧ Hid (wr.ownsRow (w.heap.size + 1) 53 6 out o.length (fcells o)) ∧ Below (w.heap.size + 1) W0 wr) (fun _ _ i _ => n - (intOf i).toNat)
  case atStart => exact ⟨0, [], false, by simp, rfl, Nat.zero_le _, rfl, fun j h => by omega, World.ownsRow_nil _ _ _ _, Below.refl _ _⟩
  case round =>
    obtain ⟨k, o, d, rfl, rfl, hk, hp, hno, hown, hB⟩ := hrel
    have hB1 : Below w.heap.size w wr := hb0.trans (hB.mono (by omega))
    have hszr := Nat.le_trans hz0' hB.size
    have TX : Cells wr (blk w.heap.size 0 0 [.int .u16 x0, .int .u16 x1, .int .u16 x2, .int .i64 x3, .int .u64 x4, .int .u64 x5]) := ⟨(hB.cell (p := ⟨w.heap.size, 0, none⟩) (by simp)).trans T0.1, (hB.cell (p := ⟨w.heap.size, 1, none⟩) (by simp)).trans T0.2.1, (hB.cell (p := ⟨w.heap.size, 2, none⟩) (by simp)).trans T0.2.2.1, (hB.cell (p := ⟨w.heap.size, 3, none⟩) (by simp)).trans T0.2.2.2.1, (hB.cell (p := ⟨w.heap.size, 4, none⟩) (by simp)).trans T0.2.2.2.2.1, (hB.cell (p := ⟨w.heap.size, 5, none⟩) (by simp)).trans T0.2.2.2.2.2.1, trivial⟩
    by_cases hlt : k < n
    · have hkl : k < l.length := by rw [HN.out]; exact hlt
      obtain ⟨b, off, rfl, hb, hcell⟩ := HC.out (by omega)
      have key : ∀ j, j < 6 → wr.cell? ⟨b, off + k * 6 + j, none⟩ = (elF l[k]).cells[j]? := fun j hj => by
        have e := fcells_get l k hkl hj
        obtain ⟨u, hu⟩ : ∃ u, (elF l[k]).cells[j]? = some u := ⟨_, List.getElem?_eq_getElem (show j < (elF l[k]).cells.length from hj)⟩
        rw [hu] at e ⊢
        have := kc (hcell _ _ e) hB1
        rwa [← Nat.add_assoc] at this
      have hgd := getD_lt hkl
      have hps : putTo l ⟨x0, x1, x2, x3, x4, x5⟩ (k + 1) = if !d && decide (x0 < (l.getD k default).ha) then (o ++ [⟨x0, x1, x2, x3, x4, x5⟩, l.getD k default], true) else (o ++ [l.getD k default], d) := by
        have h := hp.out
        rw [putTo, h]
      rw [hgd] at hps
      obtain ⟨⟨e0, e1, e2, e3, e4, e5⟩, hx⟩ : ∃ x, l[k] = x := ⟨_, rfl⟩
      rw [hx] at key hps hgd
      have TE : Cells wr (blk b (off + k * 6) 0 [.int .u16 e0, .int .u16 e1, .int .u16 e2, .int .i64 e3, .int .u64 e4, .int .u64 e5]) := ⟨key 0 (by decide), key 1 (by decide), key 2 (by decide), key 3 (by decide), key 4 (by decide), key 5 (by decide), trivial⟩
      have T := TX.app TE
      have i1 : (k : Int) < (n : Int) := by omega
      have g1 : decide (k < n) = true := by simpa using hlt
      have w1 : IntKind.i64.wrap ((k : Int) + 1) = (k : Int) + 1 := IntWalk.i64_in _ (by omega)
      have HLO := Lib.hid (show o.length ≤ 1000001 by have := (putTo_len l ⟨x0, x1, x2, x3, x4, x5⟩ k).1; rw [hp.out] at this; simp at this; omega)
      obtain ⟨y1, hy1⟩ : ∃ y, (e0 == x0) = y := ⟨_, rfl⟩
      obtain ⟨y2, hy2⟩ : ∃ y, decide (x0 < e0) = y := ⟨_, rfl⟩
      simp only [hy2] at hps
      have HGD := Lib.hid hgd
      have HPS := Lib.hid hps
      have HY1 := Lib.hid hy1
      have HB1 := Lib.hid hB1
      have HB := Lib.hid hB
      clear key hcell hx hgd hps TX TE hB1 hB
      cases y1
      · cases d
        · cases y2
          · go_wp2_with fail
            refine wp_region_held_drew (S := (fun W' : World => Cells W' (blk w.heap.size 0 0 [.int .u16 x0, .int .u16 x1, .int .u16 x2, .int .i64 x3, .int .u64 x4, .int .u64 x5] ++ blk b (off + k * 6) 0 [.int .u16 e0, .int .u16 e1, .int .u16 e2, .int .i64 e3, .int .u64 e4, .int .u64 e5]))) (by kernel_rfl) (T.drew) (fun hHeld => ?_)
            refine wpAnyH_take (i := 0) (oi := _) (v := ?_) (by rw [List.getElem?_toArray]; rfl) (by kernel_rfl) (by kernel_rfl) (by kernel_rfl) (by exact fun _ _ _ h => h) (Or.inl ⟨by rfl, ?_⟩) (by assumption) ?_
            rotate_left
            · intro w hSw
              try simp only [Cells, blk, List.cons_append, List.nil_append, and_true, Nat.reduceAdd, Nat.add_zero, Nat.zero_add] at hSw
              go_simp
              try with_reducible rfl
            simp only [Act.put, List.setIfInBounds_toArray, List.set_cons_zero, List.set_cons_succ]
            refine wpAnyH_take (i := 1) (oi := _) (v := ?_) (by rw [List.getElem?_toArray]; rfl) (by kernel_rfl) (by kernel_rfl) (by kernel_rfl) (by exact fun _ _ _ h => h) (Or.inl ⟨by rfl, ?_⟩) (by assumption) ?_
            rotate_left
            · intro w hSw
              try simp only [Cells, blk, List.cons_append, List.nil_append, and_true, Nat.reduceAdd, Nat.add_zero, Nat.zero_add] at hSw
              go_simp
              try with_reducible rfl
            simp only [Act.put, List.setIfInBounds_toArray, List.set_cons_zero, List.set_cons_succ]
            refine wpAnyH_take (i := 2) (oi := _) (v := ?_) (by rw [List.getElem?_toArray]; rfl) (by kernel_rfl) (by kernel_rfl) (by kernel_rfl) (by exact fun _ _ _ h => h) (Or.inl ⟨by rfl, ?_⟩) (by assumption) ?_
            rotate_left
            · intro w hSw
              try simp only [Cells, blk, List.cons_append, List.nil_append, and_true, Nat.reduceAdd, Nat.add_zero, Nat.zero_add] at hSw
              go_simp
              try with_reducible rfl
            simp only [Act.put, List.setIfInBounds_toArray, List.set_cons_zero, List.set_cons_succ]
            refine wpAnyH_take (i := 3) (oi := _) (v := ?_) (by rw [List.getElem?_toArray]; rfl) (by kernel_rfl) (by kernel_rfl) (by kernel_rfl) (by exact fun _ _ _ h => h) (Or.inl ⟨by rfl, ?_⟩) (by assumption) ?_
            rotate_left
            · intro w hSw
              try simp only [Cells, blk, List.cons_append, List.nil_append, and_true, Nat.reduceAdd, Nat.add_zero, Nat.zero_add] at hSw
              go_simp
              try with_reducible rfl
            simp only [Act.put, List.setIfInBounds_toArray, List.set_cons_zero, List.set_cons_succ]
            refine wpAnyH_take (i := 4) (oi := _) (v := ?_) (by rw [List.getElem?_toArray]; rfl) (by kernel_rfl) (by kernel_rfl) (by kernel_rfl) (by exact fun _ _ _ h => h) (Or.inl ⟨by rfl, ?_⟩) (by assumption) ?_
            rotate_left
            · intro w hSw
              try simp only [Cells, blk, List.cons_append, List.nil_append, and_true, Nat.reduceAdd, Nat.add_zero, Nat.zero_add] at hSw
              go_simp
              try with_reducible rfl
            simp only [Act.put, List.setIfInBounds_toArray, List.set_cons_zero, List.set_cons_succ]
            refine wpAnyH_take (i := 5) (oi := _) (v := ?_) (by rw [List.getElem?_toArray]; rfl) (by kernel_rfl) (by kernel_rfl) (by kernel_rfl) (by exact fun _ _ _ h => h) (Or.inl ⟨by rfl, ?_⟩) (by assumption) ?_
            rotate_left
            · intro w hSw
              try simp only [Cells, blk, List.cons_append, List.nil_append, and_true, Nat.reduceAdd, Nat.add_zero, Nat.zero_add] at hSw
              go_simp
              try with_reducible rfl
            simp only [Act.put, List.setIfInBounds_toArray, List.set_cons_zero, List.set_cons_succ]
            refine wpAnyH_take (i := 6) (oi := _) (v := ?_) (by rw [List.getElem?_toArray]; rfl) (by kernel_rfl) (by kernel_rfl) (by kernel_rfl) (by exact fun _ _ _ h => h) (Or.inl ⟨by rfl, ?_⟩) (by assumption) ?_
            rotate_left
            · intro w hSw
              try simp only [Cells, blk, List.cons_append, List.nil_append, and_true, Nat.reduceAdd, Nat.add_zero, Nat.zero_add] at hSw
              go_simp
              try with_reducible rfl
            simp only [Act.put, List.setIfInBounds_toArray, List.set_cons_zero, List.set_cons_succ]
            refine wpAnyH_take (i := 7) (oi := _) (v := ?_) (by rw [List.getElem?_toArray]; rfl) (by kernel_rfl) (by kernel_rfl) (by kernel_rfl) (by exact fun _ _ _ h => h) (Or.inl ⟨by rfl, ?_⟩) (by assumption) ?_
            rotate_left
            · intro w hSw
              try simp only [Cells, blk, List.cons_append, List.nil_append, and_true, Nat.reduceAdd, Nat.add_zero, Nat.zero_add] at hSw
              go_simp
              try with_reducible rfl
            simp only [Act.put, List.setIfInBounds_toArray, List.set_cons_zero, List.set_cons_succ]
            refine wpAnyH_done (by kernel_rfl) ?_ _
            go_wp2_with fail
            refine wp_region_held_drew (S := (fun W' : World => Cells W' (blk w.heap.size 0 0 [.int .u16 x0, .int .u16 x1, .int .u16 x2, .int .i64 x3, .int .u64 x4, .int .u64 x5] ++ blk b (off + k * 6) 0 [.int .u16 e0, .int .u16 e1, .int .u16 e2, .int .i64 e3, .int .u64 e4, .int .u64 e5]))) (by kernel_rfl) (T.drew.drew) (fun hHeld => ?_)
            refine wpAnyH_take (i := 0) (oi := _) (v := ?_) (by rw [List.getElem?_toArray]; rfl) (by kernel_rfl) (by kernel_rfl) (by kernel_rfl) (by exact fun _ _ _ h => h) (Or.inl ⟨by rfl, ?_⟩) (by assumption) ?_
            rotate_left
            · intro w hSw
              try simp only [Cells, blk, List.cons_append, List.nil_append, and_true, Nat.reduceAdd, Nat.add_zero, Nat.zero_add] at hSw
              go_simp
              try with_reducible rfl
            simp only [Act.put, List.setIfInBounds_toArray, List.set_cons_zero, List.set_cons_succ]
            refine wpAnyH_take (i := 1) (oi := _) (v := ?_) (by rw [List.getElem?_toArray]; rfl) (by kernel_rfl) (by kernel_rfl) (by kernel_rfl) (by exact fun _ _ _ h => h) (Or.inl ⟨by rfl, ?_⟩) (by assumption) ?_
            rotate_left
            · intro w hSw
              try simp only [Cells, blk, List.cons_append, List.nil_append, and_true, Nat.reduceAdd, Nat.add_zero, Nat.zero_add] at hSw
              go_simp
              try with_reducible rfl
            simp only [Act.put, List.setIfInBounds_toArray, List.set_cons_zero, List.set_cons_succ]
            refine wpAnyH_take (i := 2) (oi := _) (v := ?_) (by rw [List.getElem?_toArray]; rfl) (by kernel_rfl) (by kernel_rfl) (by kernel_rfl) (by exact fun _ _ _ h => h) (Or.inl ⟨by rfl, ?_⟩) (by assumption) ?_
            rotate_left
            · intro w hSw
              try simp only [Cells, blk, List.cons_append, List.nil_append, and_true, Nat.reduceAdd, Nat.add_zero, Nat.zero_add] at hSw
              go_simp
              try with_reducible rfl
            simp only [Act.put, List.setIfInBounds_toArray, List.set_cons_zero, List.set_cons_succ]
            refine wpAnyH_take (i := 3) (oi := _) (v := ?_) (by rw [List.getElem?_toArray]; rfl) (by kernel_rfl) (by kernel_rfl) (by kernel_rfl) (by exact fun _ _ _ h => h) (Or.inl ⟨by rfl, ?_⟩) (by assumption) ?_
            rotate_left
            · intro w hSw
              try simp only [Cells, blk, List.cons_append, List.nil_append, and_true, Nat.reduceAdd, Nat.add_zero, Nat.zero_add] at hSw
              go_simp
              try with_reducible rfl
            simp only [Act.put, List.setIfInBounds_toArray, List.set_cons_zero, List.set_cons_succ]
            refine wpAnyH_take (i := 4) (oi := _) (v := ?_) (by rw [List.getElem?_toArray]; rfl) (by kernel_rfl) (by kernel_rfl) (by kernel_rfl) (by exact fun _ _ _ h => h) (Or.inl ⟨by rfl, ?_⟩) (by assumption) ?_
            rotate_left
            · intro w hSw
              try simp only [Cells, blk, List.cons_append, List.nil_append, and_true, Nat.reduceAdd, Nat.add_zero, Nat.zero_add] at hSw
              go_simp
              try with_reducible rfl
            simp only [Act.put, List.setIfInBounds_toArray, List.set_cons_zero, List.set_cons_succ]
            refine wpAnyH_take (i := 5) (oi := _) (v := ?_) (by rw [List.getElem?_toArray]; rfl) (by kernel_rfl) (by kernel_rfl) (by kernel_rfl) (by exact fun _ _ _ h => h) (Or.inl ⟨by rfl, ?_⟩) (by assumption) ?_
            rotate_left
            · intro w hSw
              try simp only [Cells, blk, List.cons_append, List.nil_append, and_true, Nat.reduceAdd, Nat.add_zero, Nat.zero_add] at hSw
              go_simp
              try with_reducible rfl
            simp only [Act.put, List.setIfInBounds_toArray, List.set_cons_zero, List.set_cons_succ]
            refine wpAnyH_take (i := 6) (oi := _) (v := ?_) (by rw [List.getElem?_toArray]; rfl) (by kernel_rfl) (by kernel_rfl) (by kernel_rfl) (by exact fun _ _ _ h => h) (Or.inl ⟨by rfl, ?_⟩) (by assumption) ?_
            rotate_left
            · intro w hSw
              try simp only [Cells, blk, List.cons_append, List.nil_append, and_true, Nat.reduceAdd, Nat.add_zero, Nat.zero_add] at hSw
              go_simp
              try with_reducible rfl
            simp only [Act.put, List.setIfInBounds_toArray, List.set_cons_zero, List.set_cons_succ]
            refine wpAnyH_take (i := 7) (oi := _) (v := ?_) (by rw [List.getElem?_toArray]; rfl) (by kernel_rfl) (by kernel_rfl) (by kernel_rfl) (by exact fun _ _ _ h => h) (Or.inl ⟨by rfl, ?_⟩) (by assumption) ?_
            rotate_left
            · intro w hSw
              try simp only [Cells, blk, List.cons_append, List.nil_append, and_true, Nat.reduceAdd, Nat.add_zero, Nat.zero_add] at hSw
              go_simp
              try with_reducible rfl
            simp only [Act.put, List.setIfInBounds_toArray, List.set_cons_zero, List.set_cons_succ]
            refine wpAnyH_take (i := 8) (oi := _) (v := ?_) (by rw [List.getElem?_toArray]; rfl) (by kernel_rfl) (by kernel_rfl) (by kernel_rfl) (by exact fun _ _ _ h => h) (Or.inl ⟨by rfl, ?_⟩) (by assumption) ?_
            rotate_left
            · intro w hSw
              try simp only [Cells, blk, List.cons_append, List.nil_append, and_true, Nat.reduceAdd, Nat.add_zero, Nat.zero_add] at hSw
              go_simp
              try with_reducible rfl
            simp only [Act.put, List.setIfInBounds_toArray, List.set_cons_zero, List.set_cons_succ]
            refine wpAnyH_take (i := 9) (oi := _) (v := ?_) (by rw [List.getElem?_toArray]; rfl) (by kernel_rfl) (by kernel_rfl) (by kernel_rfl) (by exact fun _ _ _ h => h) (Or.inl ⟨by rfl, ?_⟩) (by assumption) ?_
            rotate_left
            · intro w hSw
              try simp only [Cells, blk, List.cons_append, List.nil_append, and_true, Nat.reduceAdd, Nat.add_zero, Nat.zero_add] at hSw
              go_simp
              try with_reducible rfl
            simp only [Act.put, List.setIfInBounds_toArray, List.set_cons_zero, List.set_cons_succ]
            refine wpAnyH_take (i := 10) (oi := _) (v := ?_) (by rw [List.getElem?_toArray]; rfl) (by kernel_rfl) (by kernel_rfl) (by kernel_rfl) (by exact fun _ _ _ h => h) (Or.inl ⟨by rfl, ?_⟩) (by assumption) ?_
            rotate_left
            · intro w hSw
              try simp only [Cells, blk, List.cons_append, List.nil_append, and_true, Nat.reduceAdd, Nat.add_zero, Nat.zero_add] at hSw
              go_simp
              try with_reducible rfl
            simp only [Act.put, List.setIfInBounds_toArray, List.set_cons_zero, List.set_cons_succ]
            refine wpAnyH_take (i := 11) (oi := _) (v := ?_) (by rw [List.getElem?_toArray]; rfl) (by kernel_rfl) (by kernel_rfl) (by kernel_rfl) (by exact fun _ _ _ h => h) (Or.inl ⟨by rfl, ?_⟩) (by assumption) ?_
            rotate_left
            · intro w hSw
              try simp only [Cells, blk, List.cons_append, List.nil_append, and_true, Nat.reduceAdd, Nat.add_zero, Nat.zero_add] at hSw
              go_simp
              try with_reducible rfl
            simp only [Act.put, List.setIfInBounds_toArray, List.set_cons_zero, List.set_cons_succ]
            refine wpAnyH_done (by kernel_rfl) ?_ _
            have ownV := own_below hown.out (Below.refl _ wr).drew.drew
            have TV := T.drew.drew
            have hBV := HB.out.drew.drew
            generalize wr.drew.drew = V at ownV TV hBV ⊢
            clear T
            have hOpen := TV
            simp only [Cells, blk, List.cons_append, List.nil_append, and_true, Nat.reduceAdd, Nat.add_zero, Nat.zero_add] at hOpen
            obtain ⟨k0, k1, k2, k3, k4, k5, m0, m1, m2, m3, m4, m5⟩ := hOpen
            have hbx : Below V.heap.size V (V.alloc (.cells #[.int .u16 e0, .int .u16 e1, .int .u16 e2, .int .i64 e3, .int .u64 e4, .int .u64 e5] 53)) := (Below.refl _ _).alloc (Nat.le_refl _) _
            have HIN := Lib.hid (own_below ownV hbx)
            have hnew : ∀ j u, [Value.int .u16 e0, .int .u16 e1, .int .u16 e2, .int .i64 e3, .int .u64 e4, .int .u64 e5][j]? = some u → (V.alloc (.cells #[.int .u16 e0, .int .u16 e1, .int .u16 e2, .int .i64 e3, .int .u64 e4, .int .u64 e5] 53)).cell? ((⟨V.heap.size, 0, none⟩ : Addr).add j) = some u := fun j u hj => by
              rw [addr_add, Nat.zero_add]
              exact cellNew V #[.int .u16 e0, .int .u16 e1, .int .u16 e2, .int .i64 e3, .int .u64 e4, .int .u64 e5] 53 j u (by simpa using hj)
            have hbase : w.heap.size + 1 ≤ (V.alloc (.cells #[.int .u16 e0, .int .u16 e1, .int .u16 e2, .int .i64 e3, .int .u64 e4, .int .u64 e5] 53)).heap.size := by have := hBV.size; simp; omega
            have HBX := Lib.hid (hBV.trans (hbx.mono (by have := hBV.size; omega)))
            have hlo : (o).length ≤ 1000002 := by have := HLO.out; simp; omega
            clear hbx
            go_wp2_with (at_builtin; refine wpList_append_own_at _ rfl _ _ 24 rfl (w.heap.size + 1) 53 i6 _ 6 32 Try.underlying24 hi hz0 hz1 hz2 rfl (by decide) _ _ _ rfl HIN.out ⟨V.heap.size, 0, none⟩ 1 1 [Value.int .u16 e0, .int .u16 e1, .int .u16 e2, .int .i64 e3, .int .u64 e4, .int .u64 e5] rfl rfl hnew ?c6 (by unfold maxLen; omega) (by omega) hbase ?_)
            case c6 => intro u hu; simp at hu; rcases hu with rfl | rfl | rfl | rfl | rfl | rfl <;> rfl
            intro v6 w6 hown6 hg6 hnn6 hob6
            have own6 := own_add (x := (⟨e0, e1, e2, e3, e4, e5⟩ : Fd)) hown6 (by simp)
            have hB6 := HBX.out.grown hg6 hbase (fun q hq => (HIN.out.lt q hq).1)
            clear hown6 hg6 hnn6 hob6 hnew hbase HIN HBX hlo
            have HOW := Lib.hid own6
            have HBW := Lib.hid hB6
            clear own6 hB6
            go_wp2
            refine ⟨⟨k + 1, o ++ [(⟨e0, e1, e2, e3, e4, e5⟩ : Fd)], false, by simp, rfl, hlt, by show _ = _; have h := HPS.out; simpa using h, fun j hj => ?_, HOW.out, HBW.out⟩, ?_⟩
            · by_cases c : j = k
              · rw [c, HGD.out]; exact HY1.out
              · exact hno.out j (by omega)
            · simp [intOf]
              omega
          · go_wp2_with fail
            refine wp_region_held_drew (S := (fun W' : World => Cells W' (blk w.heap.size 0 0 [.int .u16 x0, .int .u16 x1, .int .u16 x2, .int .i64 x3, .int .u64 x4, .int .u64 x5] ++ blk b (off + k * 6) 0 [.int .u16 e0, .int .u16 e1, .int .u16 e2, .int .i64 e3, .int .u64 e4, .int .u64 e5]))) (by kernel_rfl) (T.drew) (fun hHeld => ?_)
            refine wpAnyH_take (i := 0) (oi := _) (v := ?_) (by rw [List.getElem?_toArray]; rfl) (by kernel_rfl) (by kernel_rfl) (by kernel_rfl) (by exact fun _ _ _ h => h) (Or.inl ⟨by rfl, ?_⟩) (by assumption) ?_
            rotate_left
            · intro w hSw
              try simp only [Cells, blk, List.cons_append, List.nil_append, and_true, Nat.reduceAdd, Nat.add_zero, Nat.zero_add] at hSw
              go_simp
              try with_reducible rfl
            simp only [Act.put, List.setIfInBounds_toArray, List.set_cons_zero, List.set_cons_succ]
            refine wpAnyH_take (i := 1) (oi := _) (v := ?_) (by rw [List.getElem?_toArray]; rfl) (by kernel_rfl) (by kernel_rfl) (by kernel_rfl) (by exact fun _ _ _ h => h) (Or.inl ⟨by rfl, ?_⟩) (by assumption) ?_
            rotate_left
            · intro w hSw
              try simp only [Cells, blk, List.cons_append, List.nil_append, and_true, Nat.reduceAdd, Nat.add_zero, Nat.zero_add] at hSw
              go_simp
              try with_reducible rfl
            simp only [Act.put, List.setIfInBounds_toArray, List.set_cons_zero, List.set_cons_succ]
            refine wpAnyH_take (i := 2) (oi := _) (v := ?_) (by rw [List.getElem?_toArray]; rfl) (by kernel_rfl) (by kernel_rfl) (by kernel_rfl) (by exact fun _ _ _ h => h) (Or.inl ⟨by rfl, ?_⟩) (by assumption) ?_
            rotate_left
            · intro w hSw
              try simp only [Cells, blk, List.cons_append, List.nil_append, and_true, Nat.reduceAdd, Nat.add_zero, Nat.zero_add] at hSw
              go_simp
              try with_reducible rfl
            simp only [Act.put, List.setIfInBounds_toArray, List.set_cons_zero, List.set_cons_succ]
            refine wpAnyH_take (i := 3) (oi := _) (v := ?_) (by rw [List.getElem?_toArray]; rfl) (by kernel_rfl) (by kernel_rfl) (by kernel_rfl) (by exact fun _ _ _ h => h) (Or.inl ⟨by rfl, ?_⟩) (by assumption) ?_
            rotate_left
            · intro w hSw
              try simp only [Cells, blk, List.cons_append, List.nil_append, and_true, Nat.reduceAdd, Nat.add_zero, Nat.zero_add] at hSw
              go_simp
              try with_reducible rfl
            simp only [Act.put, List.setIfInBounds_toArray, List.set_cons_zero, List.set_cons_succ]
            refine wpAnyH_take (i := 4) (oi := _) (v := ?_) (by rw [List.getElem?_toArray]; rfl) (by kernel_rfl) (by kernel_rfl) (by kernel_rfl) (by exact fun _ _ _ h => h) (Or.inl ⟨by rfl, ?_⟩) (by assumption) ?_
            rotate_left
            · intro w hSw
              try simp only [Cells, blk, List.cons_append, List.nil_append, and_true, Nat.reduceAdd, Nat.add_zero, Nat.zero_add] at hSw
              go_simp
              try with_reducible rfl
            simp only [Act.put, List.setIfInBounds_toArray, List.set_cons_zero, List.set_cons_succ]
            refine wpAnyH_take (i := 5) (oi := _) (v := ?_) (by rw [List.getElem?_toArray]; rfl) (by kernel_rfl) (by kernel_rfl) (by kernel_rfl) (by exact fun _ _ _ h => h) (Or.inl ⟨by rfl, ?_⟩) (by assumption) ?_
            rotate_left
            · intro w hSw
              try simp only [Cells, blk, List.cons_append, List.nil_append, and_true, Nat.reduceAdd, Nat.add_zero, Nat.zero_add] at hSw
              go_simp
              try with_reducible rfl
            simp only [Act.put, List.setIfInBounds_toArray, List.set_cons_zero, List.set_cons_succ]
            refine wpAnyH_take (i := 6) (oi := _) (v := ?_) (by rw [List.getElem?_toArray]; rfl) (by kernel_rfl) (by kernel_rfl) (by kernel_rfl) (by exact fun _ _ _ h => h) (Or.inl ⟨by rfl, ?_⟩) (by assumption) ?_
            rotate_left
            · intro w hSw
              try simp only [Cells, blk, List.cons_append, List.nil_append, and_true, Nat.reduceAdd, Nat.add_zero, Nat.zero_add] at hSw
              go_simp
              try with_reducible rfl
            simp only [Act.put, List.setIfInBounds_toArray, List.set_cons_zero, List.set_cons_succ]
            refine wpAnyH_take (i := 7) (oi := _) (v := ?_) (by rw [List.getElem?_toArray]; rfl) (by kernel_rfl) (by kernel_rfl) (by kernel_rfl) (by exact fun _ _ _ h => h) (Or.inl ⟨by rfl, ?_⟩) (by assumption) ?_
            rotate_left
            · intro w hSw
              try simp only [Cells, blk, List.cons_append, List.nil_append, and_true, Nat.reduceAdd, Nat.add_zero, Nat.zero_add] at hSw
              go_simp
              try with_reducible rfl
            simp only [Act.put, List.setIfInBounds_toArray, List.set_cons_zero, List.set_cons_succ]
            refine wpAnyH_done (by kernel_rfl) ?_ _
            go_wp2_with fail
            refine wp_region_held_drew (S := (fun W' : World => Cells W' (blk w.heap.size 0 0 [.int .u16 x0, .int .u16 x1, .int .u16 x2, .int .i64 x3, .int .u64 x4, .int .u64 x5] ++ blk b (off + k * 6) 0 [.int .u16 e0, .int .u16 e1, .int .u16 e2, .int .i64 e3, .int .u64 e4, .int .u64 e5]))) (by kernel_rfl) (T.drew.drew) (fun hHeld => ?_)
            refine wpAnyH_take (i := 0) (oi := _) (v := ?_) (by rw [List.getElem?_toArray]; rfl) (by kernel_rfl) (by kernel_rfl) (by kernel_rfl) (by exact fun _ _ _ h => h) (Or.inl ⟨by rfl, ?_⟩) (by assumption) ?_
            rotate_left
            · intro w hSw
              try simp only [Cells, blk, List.cons_append, List.nil_append, and_true, Nat.reduceAdd, Nat.add_zero, Nat.zero_add] at hSw
              go_simp
              try with_reducible rfl
            simp only [Act.put, List.setIfInBounds_toArray, List.set_cons_zero, List.set_cons_succ]
            refine wpAnyH_take (i := 1) (oi := _) (v := ?_) (by rw [List.getElem?_toArray]; rfl) (by kernel_rfl) (by kernel_rfl) (by kernel_rfl) (by exact fun _ _ _ h => h) (Or.inl ⟨by rfl, ?_⟩) (by assumption) ?_
            rotate_left
            · intro w hSw
              try simp only [Cells, blk, List.cons_append, List.nil_append, and_true, Nat.reduceAdd, Nat.add_zero, Nat.zero_add] at hSw
              go_simp
              try with_reducible rfl
            simp only [Act.put, List.setIfInBounds_toArray, List.set_cons_zero, List.set_cons_succ]
            refine wpAnyH_take (i := 2) (oi := _) (v := ?_) (by rw [List.getElem?_toArray]; rfl) (by kernel_rfl) (by kernel_rfl) (by kernel_rfl) (by exact fun _ _ _ h => h) (Or.inl ⟨by rfl, ?_⟩) (by assumption) ?_
            rotate_left
            · intro w hSw
              try simp only [Cells, blk, List.cons_append, List.nil_append, and_true, Nat.reduceAdd, Nat.add_zero, Nat.zero_add] at hSw
              go_simp
              try with_reducible rfl
            simp only [Act.put, List.setIfInBounds_toArray, List.set_cons_zero, List.set_cons_succ]
            refine wpAnyH_take (i := 3) (oi := _) (v := ?_) (by rw [List.getElem?_toArray]; rfl) (by kernel_rfl) (by kernel_rfl) (by kernel_rfl) (by exact fun _ _ _ h => h) (Or.inl ⟨by rfl, ?_⟩) (by assumption) ?_
            rotate_left
            · intro w hSw
              try simp only [Cells, blk, List.cons_append, List.nil_append, and_true, Nat.reduceAdd, Nat.add_zero, Nat.zero_add] at hSw
              go_simp
              try with_reducible rfl
            simp only [Act.put, List.setIfInBounds_toArray, List.set_cons_zero, List.set_cons_succ]
            refine wpAnyH_take (i := 4) (oi := _) (v := ?_) (by rw [List.getElem?_toArray]; rfl) (by kernel_rfl) (by kernel_rfl) (by kernel_rfl) (by exact fun _ _ _ h => h) (Or.inl ⟨by rfl, ?_⟩) (by assumption) ?_
            rotate_left
            · intro w hSw
              try simp only [Cells, blk, List.cons_append, List.nil_append, and_true, Nat.reduceAdd, Nat.add_zero, Nat.zero_add] at hSw
              go_simp
              try with_reducible rfl
            simp only [Act.put, List.setIfInBounds_toArray, List.set_cons_zero, List.set_cons_succ]
            refine wpAnyH_take (i := 5) (oi := _) (v := ?_) (by rw [List.getElem?_toArray]; rfl) (by kernel_rfl) (by kernel_rfl) (by kernel_rfl) (by exact fun _ _ _ h => h) (Or.inl ⟨by rfl, ?_⟩) (by assumption) ?_
            rotate_left
            · intro w hSw
              try simp only [Cells, blk, List.cons_append, List.nil_append, and_true, Nat.reduceAdd, Nat.add_zero, Nat.zero_add] at hSw
              go_simp
              try with_reducible rfl
            simp only [Act.put, List.setIfInBounds_toArray, List.set_cons_zero, List.set_cons_succ]
            refine wpAnyH_take (i := 6) (oi := _) (v := ?_) (by rw [List.getElem?_toArray]; rfl) (by kernel_rfl) (by kernel_rfl) (by kernel_rfl) (by exact fun _ _ _ h => h) (Or.inl ⟨by rfl, ?_⟩) (by assumption) ?_
            rotate_left
            · intro w hSw
              try simp only [Cells, blk, List.cons_append, List.nil_append, and_true, Nat.reduceAdd, Nat.add_zero, Nat.zero_add] at hSw
              go_simp
              try with_reducible rfl
            simp only [Act.put, List.setIfInBounds_toArray, List.set_cons_zero, List.set_cons_succ]
            refine wpAnyH_take (i := 7) (oi := _) (v := ?_) (by rw [List.getElem?_toArray]; rfl) (by kernel_rfl) (by kernel_rfl) (by kernel_rfl) (by exact fun _ _ _ h => h) (Or.inl ⟨by rfl, ?_⟩) (by assumption) ?_
            rotate_left
            · intro w hSw
              try simp only [Cells, blk, List.cons_append, List.nil_append, and_true, Nat.reduceAdd, Nat.add_zero, Nat.zero_add] at hSw
              go_simp
              try with_reducible rfl
            simp only [Act.put, List.setIfInBounds_toArray, List.set_cons_zero, List.set_cons_succ]
            refine wpAnyH_take (i := 8) (oi := _) (v := ?_) (by rw [List.getElem?_toArray]; rfl) (by kernel_rfl) (by kernel_rfl) (by kernel_rfl) (by exact fun _ _ _ h => h) (Or.inl ⟨by rfl, ?_⟩) (by assumption) ?_
            rotate_left
            · intro w hSw
              try simp only [Cells, blk, List.cons_append, List.nil_append, and_true, Nat.reduceAdd, Nat.add_zero, Nat.zero_add] at hSw
              go_simp
              try with_reducible rfl
            simp only [Act.put, List.setIfInBounds_toArray, List.set_cons_zero, List.set_cons_succ]
            refine wpAnyH_take (i := 9) (oi := _) (v := ?_) (by rw [List.getElem?_toArray]; rfl) (by kernel_rfl) (by kernel_rfl) (by kernel_rfl) (by exact fun _ _ _ h => h) (Or.inl ⟨by rfl, ?_⟩) (by assumption) ?_
            rotate_left
            · intro w hSw
              try simp only [Cells, blk, List.cons_append, List.nil_append, and_true, Nat.reduceAdd, Nat.add_zero, Nat.zero_add] at hSw
              go_simp
              try with_reducible rfl
            simp only [Act.put, List.setIfInBounds_toArray, List.set_cons_zero, List.set_cons_succ]
            refine wpAnyH_take (i := 10) (oi := _) (v := ?_) (by rw [List.getElem?_toArray]; rfl) (by kernel_rfl) (by kernel_rfl) (by kernel_rfl) (by exact fun _ _ _ h => h) (Or.inl ⟨by rfl, ?_⟩) (by assumption) ?_
            rotate_left
            · intro w hSw
              try simp only [Cells, blk, List.cons_append, List.nil_append, and_true, Nat.reduceAdd, Nat.add_zero, Nat.zero_add] at hSw
              go_simp
              try with_reducible rfl
            simp only [Act.put, List.setIfInBounds_toArray, List.set_cons_zero, List.set_cons_succ]
            refine wpAnyH_take (i := 11) (oi := _) (v := ?_) (by rw [List.getElem?_toArray]; rfl) (by kernel_rfl) (by kernel_rfl) (by kernel_rfl) (by exact fun _ _ _ h => h) (Or.inl ⟨by rfl, ?_⟩) (by assumption) ?_
            rotate_left
            · intro w hSw
              try simp only [Cells, blk, List.cons_append, List.nil_append, and_true, Nat.reduceAdd, Nat.add_zero, Nat.zero_add] at hSw
              go_simp
              try with_reducible rfl
            simp only [Act.put, List.setIfInBounds_toArray, List.set_cons_zero, List.set_cons_succ]
            refine wpAnyH_done (by kernel_rfl) ?_ _
            have ownV := own_below hown.out (Below.refl _ wr).drew.drew
            have TV := T.drew.drew
            have hBV := HB.out.drew.drew
            generalize wr.drew.drew = V at ownV TV hBV ⊢
            clear T
            have hOpen := TV
            simp only [Cells, blk, List.cons_append, List.nil_append, and_true, Nat.reduceAdd, Nat.add_zero, Nat.zero_add] at hOpen
            obtain ⟨k0, k1, k2, k3, k4, k5, m0, m1, m2, m3, m4, m5⟩ := hOpen
            have hbx : Below V.heap.size V (V.alloc (.cells #[.int .u16 x0, .int .u16 x1, .int .u16 x2, .int .i64 x3, .int .u64 x4, .int .u64 x5] 53)) := (Below.refl _ _).alloc (Nat.le_refl _) _
            have HIN := Lib.hid (own_below ownV hbx)
            have hnew : ∀ j u, [Value.int .u16 x0, .int .u16 x1, .int .u16 x2, .int .i64 x3, .int .u64 x4, .int .u64 x5][j]? = some u → (V.alloc (.cells #[.int .u16 x0, .int .u16 x1, .int .u16 x2, .int .i64 x3, .int .u64 x4, .int .u64 x5] 53)).cell? ((⟨V.heap.size, 0, none⟩ : Addr).add j) = some u := fun j u hj => by
              rw [addr_add, Nat.zero_add]
              exact cellNew V #[.int .u16 x0, .int .u16 x1, .int .u16 x2, .int .i64 x3, .int .u64 x4, .int .u64 x5] 53 j u (by simpa using hj)
            have hbase : w.heap.size + 1 ≤ (V.alloc (.cells #[.int .u16 x0, .int .u16 x1, .int .u16 x2, .int .i64 x3, .int .u64 x4, .int .u64 x5] 53)).heap.size := by have := hBV.size; simp; omega
            have HBX := Lib.hid (hBV.trans (hbx.mono (by have := hBV.size; omega)))
            have hlo : (o).length ≤ 1000002 := by have := HLO.out; simp; omega
            clear hbx
            go_wp2_with (at_builtin; refine wpList_append_own_at _ rfl _ _ 24 rfl (w.heap.size + 1) 53 i6 _ 6 32 Try.underlying24 hi hz0 hz1 hz2 rfl (by decide) _ _ _ rfl HIN.out ⟨V.heap.size, 0, none⟩ 1 1 [Value.int .u16 x0, .int .u16 x1, .int .u16 x2, .int .i64 x3, .int .u64 x4, .int .u64 x5] rfl rfl hnew ?c6 (by unfold maxLen; omega) (by omega) hbase ?_)
            case c6 => intro u hu; simp at hu; rcases hu with rfl | rfl | rfl | rfl | rfl | rfl <;> rfl
            intro v6 w6 hown6 hg6 hnn6 hob6
            have own6 := own_add (x := (⟨x0, x1, x2, x3, x4, x5⟩ : Fd)) hown6 (by simp)
            have hBX6 := ((Below.refl (w.heap.size + 1) V).alloc (by have := hBV.size; omega) (.cells #[.int .u16 x0, .int .u16 x1, .int .u16 x2, .int .i64 x3, .int .u64 x4, .int .u64 x5] 53)).grown hg6 hbase (fun q hq => (HIN.out.lt q hq).1)
            have hB6 := HBX.out.grown hg6 hbase (fun q hq => (HIN.out.lt q hq).1)
            have T6 := Cells.keepB TV (B := w.heap.size + 1) (fun x hx => by have := hb; simp [blk] at hx; rcases hx with rfl | rfl | rfl | rfl | rfl | rfl | rfl | rfl | rfl | rfl | rfl | rfl <;> (simp; try omega)) (hBX6)
            clear hown6 hg6 hnn6 hob6 hnew hbase HIN HBX hlo TV k0 k1 k2 k3 k4 k5 m0 m1 m2 m3 m4 m5
            have hOpen := T6
            simp only [Cells, blk, List.cons_append, List.nil_append, and_true, Nat.reduceAdd, Nat.add_zero, Nat.zero_add] at hOpen
            obtain ⟨k0, k1, k2, k3, k4, k5, m0, m1, m2, m3, m4, m5⟩ := hOpen
            have hbx : Below w6.heap.size w6 (w6.alloc (.cells #[.int .u16 e0, .int .u16 e1, .int .u16 e2, .int .i64 e3, .int .u64 e4, .int .u64 e5] 53)) := (Below.refl _ _).alloc (Nat.le_refl _) _
            have HIN := Lib.hid (own_below own6 hbx)
            have hnew : ∀ j u, [Value.int .u16 e0, .int .u16 e1, .int .u16 e2, .int .i64 e3, .int .u64 e4, .int .u64 e5][j]? = some u → (w6.alloc (.cells #[.int .u16 e0, .int .u16 e1, .int .u16 e2, .int .i64 e3, .int .u64 e4, .int .u64 e5] 53)).cell? ((⟨w6.heap.size, 0, none⟩ : Addr).add j) = some u := fun j u hj => by
              rw [addr_add, Nat.zero_add]
              exact cellNew w6 #[.int .u16 e0, .int .u16 e1, .int .u16 e2, .int .i64 e3, .int .u64 e4, .int .u64 e5] 53 j u (by simpa using hj)
            have hbase : w.heap.size + 1 ≤ (w6.alloc (.cells #[.int .u16 e0, .int .u16 e1, .int .u16 e2, .int .i64 e3, .int .u64 e4, .int .u64 e5] 53)).heap.size := by have := hB6.size; simp; omega
            have HBX := Lib.hid (hB6.trans (hbx.mono (by have := hB6.size; omega)))
            have hlo : (o ++ [(⟨x0, x1, x2, x3, x4, x5⟩ : Fd)]).length ≤ 1000002 := by have := HLO.out; simp; omega
            clear hbx
            go_wp2_with (at_builtin; refine wpList_append_own_at _ rfl _ _ 24 rfl (w.heap.size + 1) 53 i6 _ 6 32 Try.underlying24 hi hz0 hz1 hz2 rfl (by decide) _ _ _ rfl HIN.out ⟨w6.heap.size, 0, none⟩ 1 1 [Value.int .u16 e0, .int .u16 e1, .int .u16 e2, .int .i64 e3, .int .u64 e4, .int .u64 e5] rfl rfl hnew ?c7 (by unfold maxLen; omega) (by omega) hbase ?_)
            case c7 => intro u hu; simp at hu; rcases hu with rfl | rfl | rfl | rfl | rfl | rfl <;> rfl
            intro v7 w7 hown7 hg7 hnn7 hob7
            have own7 := own_add (x := (⟨e0, e1, e2, e3, e4, e5⟩ : Fd)) hown7 (by simp)
            have hB7 := HBX.out.grown hg7 hbase (fun q hq => (HIN.out.lt q hq).1)
            clear hown7 hg7 hnn7 hob7 hnew hbase HIN HBX hlo
            have HOW := Lib.hid own7
            have HBW := Lib.hid hB7
            clear own7 hB7
            go_wp2
            refine ⟨⟨k + 1, o ++ [(⟨x0, x1, x2, x3, x4, x5⟩ : Fd)] ++ [(⟨e0, e1, e2, e3, e4, e5⟩ : Fd)], true, by simp, rfl, hlt, by show _ = _; have h := HPS.out; simpa using h, fun j hj => ?_, HOW.out, HBW.out⟩, ?_⟩
            · by_cases c : j = k
              · rw [c, HGD.out]; exact HY1.out
              · exact hno.out j (by omega)
            · simp [intOf]
              omega
        · go_wp2_with fail
          refine wp_region_held_drew (S := (fun W' : World => Cells W' (blk w.heap.size 0 0 [.int .u16 x0, .int .u16 x1, .int .u16 x2, .int .i64 x3, .int .u64 x4, .int .u64 x5] ++ blk b (off + k * 6) 0 [.int .u16 e0, .int .u16 e1, .int .u16 e2, .int .i64 e3, .int .u64 e4, .int .u64 e5]))) (by kernel_rfl) (T.drew) (fun hHeld => ?_)
          refine wpAnyH_take (i := 0) (oi := _) (v := ?_) (by rw [List.getElem?_toArray]; rfl) (by kernel_rfl) (by kernel_rfl) (by kernel_rfl) (by exact fun _ _ _ h => h) (Or.inl ⟨by rfl, ?_⟩) (by assumption) ?_
          rotate_left
          · intro w hSw
            try simp only [Cells, blk, List.cons_append, List.nil_append, and_true, Nat.reduceAdd, Nat.add_zero, Nat.zero_add] at hSw
            go_simp
            try with_reducible rfl
          simp only [Act.put, List.setIfInBounds_toArray, List.set_cons_zero, List.set_cons_succ]
          refine wpAnyH_take (i := 1) (oi := _) (v := ?_) (by rw [List.getElem?_toArray]; rfl) (by kernel_rfl) (by kernel_rfl) (by kernel_rfl) (by exact fun _ _ _ h => h) (Or.inl ⟨by rfl, ?_⟩) (by assumption) ?_
          rotate_left
          · intro w hSw
            try simp only [Cells, blk, List.cons_append, List.nil_append, and_true, Nat.reduceAdd, Nat.add_zero, Nat.zero_add] at hSw
            go_simp
            try with_reducible rfl
          simp only [Act.put, List.setIfInBounds_toArray, List.set_cons_zero, List.set_cons_succ]
          refine wpAnyH_take (i := 2) (oi := _) (v := ?_) (by rw [List.getElem?_toArray]; rfl) (by kernel_rfl) (by kernel_rfl) (by kernel_rfl) (by exact fun _ _ _ h => h) (Or.inl ⟨by rfl, ?_⟩) (by assumption) ?_
          rotate_left
          · intro w hSw
            try simp only [Cells, blk, List.cons_append, List.nil_append, and_true, Nat.reduceAdd, Nat.add_zero, Nat.zero_add] at hSw
            go_simp
            try with_reducible rfl
          simp only [Act.put, List.setIfInBounds_toArray, List.set_cons_zero, List.set_cons_succ]
          refine wpAnyH_take (i := 3) (oi := _) (v := ?_) (by rw [List.getElem?_toArray]; rfl) (by kernel_rfl) (by kernel_rfl) (by kernel_rfl) (by exact fun _ _ _ h => h) (Or.inl ⟨by rfl, ?_⟩) (by assumption) ?_
          rotate_left
          · intro w hSw
            try simp only [Cells, blk, List.cons_append, List.nil_append, and_true, Nat.reduceAdd, Nat.add_zero, Nat.zero_add] at hSw
            go_simp
            try with_reducible rfl
          simp only [Act.put, List.setIfInBounds_toArray, List.set_cons_zero, List.set_cons_succ]
          refine wpAnyH_take (i := 4) (oi := _) (v := ?_) (by rw [List.getElem?_toArray]; rfl) (by kernel_rfl) (by kernel_rfl) (by kernel_rfl) (by exact fun _ _ _ h => h) (Or.inl ⟨by rfl, ?_⟩) (by assumption) ?_
          rotate_left
          · intro w hSw
            try simp only [Cells, blk, List.cons_append, List.nil_append, and_true, Nat.reduceAdd, Nat.add_zero, Nat.zero_add] at hSw
            go_simp
            try with_reducible rfl
          simp only [Act.put, List.setIfInBounds_toArray, List.set_cons_zero, List.set_cons_succ]
          refine wpAnyH_take (i := 5) (oi := _) (v := ?_) (by rw [List.getElem?_toArray]; rfl) (by kernel_rfl) (by kernel_rfl) (by kernel_rfl) (by exact fun _ _ _ h => h) (Or.inl ⟨by rfl, ?_⟩) (by assumption) ?_
          rotate_left
          · intro w hSw
            try simp only [Cells, blk, List.cons_append, List.nil_append, and_true, Nat.reduceAdd, Nat.add_zero, Nat.zero_add] at hSw
            go_simp
            try with_reducible rfl
          simp only [Act.put, List.setIfInBounds_toArray, List.set_cons_zero, List.set_cons_succ]
          refine wpAnyH_take (i := 6) (oi := _) (v := ?_) (by rw [List.getElem?_toArray]; rfl) (by kernel_rfl) (by kernel_rfl) (by kernel_rfl) (by exact fun _ _ _ h => h) (Or.inl ⟨by rfl, ?_⟩) (by assumption) ?_
          rotate_left
          · intro w hSw
            try simp only [Cells, blk, List.cons_append, List.nil_append, and_true, Nat.reduceAdd, Nat.add_zero, Nat.zero_add] at hSw
            go_simp
            try with_reducible rfl
          simp only [Act.put, List.setIfInBounds_toArray, List.set_cons_zero, List.set_cons_succ]
          refine wpAnyH_take (i := 7) (oi := _) (v := ?_) (by rw [List.getElem?_toArray]; rfl) (by kernel_rfl) (by kernel_rfl) (by kernel_rfl) (by exact fun _ _ _ h => h) (Or.inl ⟨by rfl, ?_⟩) (by assumption) ?_
          rotate_left
          · intro w hSw
            try simp only [Cells, blk, List.cons_append, List.nil_append, and_true, Nat.reduceAdd, Nat.add_zero, Nat.zero_add] at hSw
            go_simp
            try with_reducible rfl
          simp only [Act.put, List.setIfInBounds_toArray, List.set_cons_zero, List.set_cons_succ]
          refine wpAnyH_done (by kernel_rfl) ?_ _
          go_wp2_with fail
          refine wp_region_held_drew (S := (fun W' : World => Cells W' (blk w.heap.size 0 0 [.int .u16 x0, .int .u16 x1, .int .u16 x2, .int .i64 x3, .int .u64 x4, .int .u64 x5] ++ blk b (off + k * 6) 0 [.int .u16 e0, .int .u16 e1, .int .u16 e2, .int .i64 e3, .int .u64 e4, .int .u64 e5]))) (by kernel_rfl) (T.drew.drew) (fun hHeld => ?_)
          refine wpAnyH_take (i := 0) (oi := _) (v := ?_) (by rw [List.getElem?_toArray]; rfl) (by kernel_rfl) (by kernel_rfl) (by kernel_rfl) (by exact fun _ _ _ h => h) (Or.inl ⟨by rfl, ?_⟩) (by assumption) ?_
          rotate_left
          · intro w hSw
            try simp only [Cells, blk, List.cons_append, List.nil_append, and_true, Nat.reduceAdd, Nat.add_zero, Nat.zero_add] at hSw
            go_simp
            try with_reducible rfl
          simp only [Act.put, List.setIfInBounds_toArray, List.set_cons_zero, List.set_cons_succ]
          refine wpAnyH_take (i := 1) (oi := _) (v := ?_) (by rw [List.getElem?_toArray]; rfl) (by kernel_rfl) (by kernel_rfl) (by kernel_rfl) (by exact fun _ _ _ h => h) (Or.inl ⟨by rfl, ?_⟩) (by assumption) ?_
          rotate_left
          · intro w hSw
            try simp only [Cells, blk, List.cons_append, List.nil_append, and_true, Nat.reduceAdd, Nat.add_zero, Nat.zero_add] at hSw
            go_simp
            try with_reducible rfl
          simp only [Act.put, List.setIfInBounds_toArray, List.set_cons_zero, List.set_cons_succ]
          refine wpAnyH_take (i := 2) (oi := _) (v := ?_) (by rw [List.getElem?_toArray]; rfl) (by kernel_rfl) (by kernel_rfl) (by kernel_rfl) (by exact fun _ _ _ h => h) (Or.inl ⟨by rfl, ?_⟩) (by assumption) ?_
          rotate_left
          · intro w hSw
            try simp only [Cells, blk, List.cons_append, List.nil_append, and_true, Nat.reduceAdd, Nat.add_zero, Nat.zero_add] at hSw
            go_simp
            try with_reducible rfl
          simp only [Act.put, List.setIfInBounds_toArray, List.set_cons_zero, List.set_cons_succ]
          refine wpAnyH_take (i := 3) (oi := _) (v := undef) (by rw [List.getElem?_toArray]; rfl) (by kernel_rfl) (by kernel_rfl) (by kernel_rfl) (by exact fun _ _ _ h => h) (Or.inr ⟨by rfl, rfl⟩) (by assumption) ?_
          simp only [Act.put, List.setIfInBounds_toArray, List.set_cons_zero, List.set_cons_succ]
          refine wpAnyH_take (i := 4) (oi := _) (v := undef) (by rw [List.getElem?_toArray]; rfl) (by kernel_rfl) (by kernel_rfl) (by kernel_rfl) (by exact fun _ _ _ h => h) (Or.inr ⟨by rfl, rfl⟩) (by assumption) ?_
          simp only [Act.put, List.setIfInBounds_toArray, List.set_cons_zero, List.set_cons_succ]
          refine wpAnyH_take (i := 5) (oi := _) (v := undef) (by rw [List.getElem?_toArray]; rfl) (by kernel_rfl) (by kernel_rfl) (by kernel_rfl) (by exact fun _ _ _ h => h) (Or.inr ⟨by rfl, rfl⟩) (by assumption) ?_
          simp only [Act.put, List.setIfInBounds_toArray, List.set_cons_zero, List.set_cons_succ]
          refine wpAnyH_take (i := 6) (oi := _) (v := undef) (by rw [List.getElem?_toArray]; rfl) (by kernel_rfl) (by kernel_rfl) (by kernel_rfl) (by exact fun _ _ _ h => h) (Or.inr ⟨by rfl, rfl⟩) (by assumption) ?_
          simp only [Act.put, List.setIfInBounds_toArray, List.set_cons_zero, List.set_cons_succ]
          refine wpAnyH_take (i := 7) (oi := _) (v := undef) (by rw [List.getElem?_toArray]; rfl) (by kernel_rfl) (by kernel_rfl) (by kernel_rfl) (by exact fun _ _ _ h => h) (Or.inr ⟨by rfl, rfl⟩) (by assumption) ?_
          simp only [Act.put, List.setIfInBounds_toArray, List.set_cons_zero, List.set_cons_succ]
          refine wpAnyH_take (i := 8) (oi := _) (v := undef) (by rw [List.getElem?_toArray]; rfl) (by kernel_rfl) (by kernel_rfl) (by kernel_rfl) (by exact fun _ _ _ h => h) (Or.inr ⟨by rfl, rfl⟩) (by assumption) ?_
          simp only [Act.put, List.setIfInBounds_toArray, List.set_cons_zero, List.set_cons_succ]
          refine wpAnyH_take (i := 9) (oi := _) (v := undef) (by rw [List.getElem?_toArray]; rfl) (by kernel_rfl) (by kernel_rfl) (by kernel_rfl) (by exact fun _ _ _ h => h) (Or.inr ⟨by rfl, rfl⟩) (by assumption) ?_
          simp only [Act.put, List.setIfInBounds_toArray, List.set_cons_zero, List.set_cons_succ]
          refine wpAnyH_take (i := 10) (oi := _) (v := undef) (by rw [List.getElem?_toArray]; rfl) (by kernel_rfl) (by kernel_rfl) (by kernel_rfl) (by exact fun _ _ _ h => h) (Or.inr ⟨by rfl, rfl⟩) (by assumption) ?_
          simp only [Act.put, List.setIfInBounds_toArray, List.set_cons_zero, List.set_cons_succ]
          refine wpAnyH_take (i := 11) (oi := _) (v := ?_) (by rw [List.getElem?_toArray]; rfl) (by kernel_rfl) (by kernel_rfl) (by kernel_rfl) (by exact fun _ _ _ h => h) (Or.inl ⟨by rfl, ?_⟩) (by assumption) ?_
          rotate_left
          · intro w hSw
            try simp only [Cells, blk, List.cons_append, List.nil_append, and_true, Nat.reduceAdd, Nat.add_zero, Nat.zero_add] at hSw
            go_simp
            try with_reducible rfl
          simp only [Act.put, List.setIfInBounds_toArray, List.set_cons_zero, List.set_cons_succ]
          refine wpAnyH_done (by kernel_rfl) ?_ _
          have ownV := own_below hown.out (Below.refl _ wr).drew.drew
          have TV := T.drew.drew
          have hBV := HB.out.drew.drew
          generalize wr.drew.drew = V at ownV TV hBV ⊢
          clear T
          have hOpen := TV
          simp only [Cells, blk, List.cons_append, List.nil_append, and_true, Nat.reduceAdd, Nat.add_zero, Nat.zero_add] at hOpen
          obtain ⟨k0, k1, k2, k3, k4, k5, m0, m1, m2, m3, m4, m5⟩ := hOpen
          have hbx : Below V.heap.size V (V.alloc (.cells #[.int .u16 e0, .int .u16 e1, .int .u16 e2, .int .i64 e3, .int .u64 e4, .int .u64 e5] 53)) := (Below.refl _ _).alloc (Nat.le_refl _) _
          have HIN := Lib.hid (own_below ownV hbx)
          have hnew : ∀ j u, [Value.int .u16 e0, .int .u16 e1, .int .u16 e2, .int .i64 e3, .int .u64 e4, .int .u64 e5][j]? = some u → (V.alloc (.cells #[.int .u16 e0, .int .u16 e1, .int .u16 e2, .int .i64 e3, .int .u64 e4, .int .u64 e5] 53)).cell? ((⟨V.heap.size, 0, none⟩ : Addr).add j) = some u := fun j u hj => by
            rw [addr_add, Nat.zero_add]
            exact cellNew V #[.int .u16 e0, .int .u16 e1, .int .u16 e2, .int .i64 e3, .int .u64 e4, .int .u64 e5] 53 j u (by simpa using hj)
          have hbase : w.heap.size + 1 ≤ (V.alloc (.cells #[.int .u16 e0, .int .u16 e1, .int .u16 e2, .int .i64 e3, .int .u64 e4, .int .u64 e5] 53)).heap.size := by have := hBV.size; simp; omega
          have HBX := Lib.hid (hBV.trans (hbx.mono (by have := hBV.size; omega)))
          have hlo : (o).length ≤ 1000002 := by have := HLO.out; simp; omega
          clear hbx
          go_wp2_with (at_builtin; refine wpList_append_own_at _ rfl _ _ 24 rfl (w.heap.size + 1) 53 i6 _ 6 32 Try.underlying24 hi hz0 hz1 hz2 rfl (by decide) _ _ _ rfl HIN.out ⟨V.heap.size, 0, none⟩ 1 1 [Value.int .u16 e0, .int .u16 e1, .int .u16 e2, .int .i64 e3, .int .u64 e4, .int .u64 e5] rfl rfl hnew ?c6 (by unfold maxLen; omega) (by omega) hbase ?_)
          case c6 => intro u hu; simp at hu; rcases hu with rfl | rfl | rfl | rfl | rfl | rfl <;> rfl
          intro v6 w6 hown6 hg6 hnn6 hob6
          have own6 := own_add (x := (⟨e0, e1, e2, e3, e4, e5⟩ : Fd)) hown6 (by simp)
          have hB6 := HBX.out.grown hg6 hbase (fun q hq => (HIN.out.lt q hq).1)
          clear hown6 hg6 hnn6 hob6 hnew hbase HIN HBX hlo
          have HOW := Lib.hid own6
          have HBW := Lib.hid hB6
          clear own6 hB6
          go_wp2
          refine ⟨⟨k + 1, o ++ [(⟨e0, e1, e2, e3, e4, e5⟩ : Fd)], true, by simp, rfl, hlt, by show _ = _; have h := HPS.out; simpa using h, fun j hj => ?_, HOW.out, HBW.out⟩, ?_⟩
          · by_cases c : j = k
            · rw [c, HGD.out]; exact HY1.out
            · exact hno.out j (by omega)
          · simp [intOf]
            omega
      · have hany : rput l ⟨x0, x1, x2, x3, x4, x5⟩ = l := by
          unfold rput
          rw [if_pos]
          refine List.any_eq_true.2 ⟨l[k], List.getElem_mem hkl, ?_⟩
          have := HGD.out
          rw [getD_lt hkl] at this
          rw [this]
          exact HY1.out
        have HANY := Lib.hid hany
        clear hany
        go_wp2_with fail
        refine wp_region_held_drew (S := (fun W' : World => Cells W' (blk w.heap.size 0 0 [.int .u16 x0, .int .u16 x1, .int .u16 x2, .int .i64 x3, .int .u64 x4, .int .u64 x5] ++ blk b (off + k * 6) 0 [.int .u16 e0, .int .u16 e1, .int .u16 e2, .int .i64 e3, .int .u64 e4, .int .u64 e5]))) (by kernel_rfl) (T.drew) (fun hHeld => ?_)
        refine wpAnyH_take (i := 0) (oi := _) (v := ?_) (by rw [List.getElem?_toArray]; rfl) (by kernel_rfl) (by kernel_rfl) (by kernel_rfl) (by exact fun _ _ _ h => h) (Or.inl ⟨by rfl, ?_⟩) (by assumption) ?_
        rotate_left
        · intro w hSw
          try simp only [Cells, blk, List.cons_append, List.nil_append, and_true, Nat.reduceAdd, Nat.add_zero, Nat.zero_add] at hSw
          go_simp
          try with_reducible rfl
        simp only [Act.put, List.setIfInBounds_toArray, List.set_cons_zero, List.set_cons_succ]
        refine wpAnyH_take (i := 1) (oi := _) (v := ?_) (by rw [List.getElem?_toArray]; rfl) (by kernel_rfl) (by kernel_rfl) (by kernel_rfl) (by exact fun _ _ _ h => h) (Or.inl ⟨by rfl, ?_⟩) (by assumption) ?_
        rotate_left
        · intro w hSw
          try simp only [Cells, blk, List.cons_append, List.nil_append, and_true, Nat.reduceAdd, Nat.add_zero, Nat.zero_add] at hSw
          go_simp
          try with_reducible rfl
        simp only [Act.put, List.setIfInBounds_toArray, List.set_cons_zero, List.set_cons_succ]
        refine wpAnyH_take (i := 2) (oi := _) (v := ?_) (by rw [List.getElem?_toArray]; rfl) (by kernel_rfl) (by kernel_rfl) (by kernel_rfl) (by exact fun _ _ _ h => h) (Or.inl ⟨by rfl, ?_⟩) (by assumption) ?_
        rotate_left
        · intro w hSw
          try simp only [Cells, blk, List.cons_append, List.nil_append, and_true, Nat.reduceAdd, Nat.add_zero, Nat.zero_add] at hSw
          go_simp
          try with_reducible rfl
        simp only [Act.put, List.setIfInBounds_toArray, List.set_cons_zero, List.set_cons_succ]
        refine wpAnyH_take (i := 3) (oi := _) (v := ?_) (by rw [List.getElem?_toArray]; rfl) (by kernel_rfl) (by kernel_rfl) (by kernel_rfl) (by exact fun _ _ _ h => h) (Or.inl ⟨by rfl, ?_⟩) (by assumption) ?_
        rotate_left
        · intro w hSw
          try simp only [Cells, blk, List.cons_append, List.nil_append, and_true, Nat.reduceAdd, Nat.add_zero, Nat.zero_add] at hSw
          go_simp
          try with_reducible rfl
        simp only [Act.put, List.setIfInBounds_toArray, List.set_cons_zero, List.set_cons_succ]
        refine wpAnyH_take (i := 4) (oi := _) (v := ?_) (by rw [List.getElem?_toArray]; rfl) (by kernel_rfl) (by kernel_rfl) (by kernel_rfl) (by exact fun _ _ _ h => h) (Or.inl ⟨by rfl, ?_⟩) (by assumption) ?_
        rotate_left
        · intro w hSw
          try simp only [Cells, blk, List.cons_append, List.nil_append, and_true, Nat.reduceAdd, Nat.add_zero, Nat.zero_add] at hSw
          go_simp
          try with_reducible rfl
        simp only [Act.put, List.setIfInBounds_toArray, List.set_cons_zero, List.set_cons_succ]
        refine wpAnyH_take (i := 5) (oi := _) (v := ?_) (by rw [List.getElem?_toArray]; rfl) (by kernel_rfl) (by kernel_rfl) (by kernel_rfl) (by exact fun _ _ _ h => h) (Or.inl ⟨by rfl, ?_⟩) (by assumption) ?_
        rotate_left
        · intro w hSw
          try simp only [Cells, blk, List.cons_append, List.nil_append, and_true, Nat.reduceAdd, Nat.add_zero, Nat.zero_add] at hSw
          go_simp
          try with_reducible rfl
        simp only [Act.put, List.setIfInBounds_toArray, List.set_cons_zero, List.set_cons_succ]
        refine wpAnyH_take (i := 6) (oi := _) (v := ?_) (by rw [List.getElem?_toArray]; rfl) (by kernel_rfl) (by kernel_rfl) (by kernel_rfl) (by exact fun _ _ _ h => h) (Or.inl ⟨by rfl, ?_⟩) (by assumption) ?_
        rotate_left
        · intro w hSw
          try simp only [Cells, blk, List.cons_append, List.nil_append, and_true, Nat.reduceAdd, Nat.add_zero, Nat.zero_add] at hSw
          go_simp
          try with_reducible rfl
        simp only [Act.put, List.setIfInBounds_toArray, List.set_cons_zero, List.set_cons_succ]
        refine wpAnyH_take (i := 7) (oi := _) (v := ?_) (by rw [List.getElem?_toArray]; rfl) (by kernel_rfl) (by kernel_rfl) (by kernel_rfl) (by exact fun _ _ _ h => h) (Or.inl ⟨by rfl, ?_⟩) (by assumption) ?_
        rotate_left
        · intro w hSw
          try simp only [Cells, blk, List.cons_append, List.nil_append, and_true, Nat.reduceAdd, Nat.add_zero, Nat.zero_add] at hSw
          go_simp
          try with_reducible rfl
        simp only [Act.put, List.setIfInBounds_toArray, List.set_cons_zero, List.set_cons_succ]
        refine wpAnyH_done (by kernel_rfl) ?_ _
        go_wp2
        go_ret
        refine ⟨_, rfl, ?_, HB1.out.drew⟩
        rw [HANY.out, HN.out]
        exact (HS.out.below HB1.out).below (Below.refl _ _).drew
    · have e1 : k = n := by omega
      subst e1
      have g1 : decide (k < k) = false := by simp
      have hno2 : l.any (fun y => y.ha == x0) = false := by
        rw [List.any_eq_false]
        intro y hy
        obtain ⟨j, hj, rfl⟩ := List.getElem_of_mem hy
        have := hno.out j (by rw [← HN.out]; exact hj)
        rw [getD_lt hj] at this
        simpa using this
      have hfin : rput l ⟨x0, x1, x2, x3, x4, x5⟩ = if d then o else o ++ [⟨x0, x1, x2, x3, x4, x5⟩] := by
        unfold rput
        rw [if_neg (by simp only [hno2]; decide), HN.out, hp.out]
      have HLO := Lib.hid (show o.length ≤ 1000001 by have := (putTo_len l ⟨x0, x1, x2, x3, x4, x5⟩ k).1; rw [hp.out] at this; simp at this; omega)
      have HFIN := Lib.hid hfin
      have HB1 := Lib.hid hB1
      clear hno2 hfin hB1
      cases d
      · have hr : rput l ⟨x0, x1, x2, x3, x4, x5⟩ = o ++ [⟨x0, x1, x2, x3, x4, x5⟩] := by simpa using HFIN.out
        have HR := Lib.hid hr
        have ownV := hown.out
        clear hr
        have hOpen := TX
        simp only [Cells, blk, List.cons_append, List.nil_append, and_true, Nat.reduceAdd, Nat.add_zero, Nat.zero_add] at hOpen
        obtain ⟨k0, k1, k2, k3, k4, k5⟩ := hOpen
        have hbx : Below wr.heap.size wr (wr.alloc (.cells #[.int .u16 x0, .int .u16 x1, .int .u16 x2, .int .i64 x3, .int .u64 x4, .int .u64 x5] 53)) := (Below.refl _ _).alloc (Nat.le_refl _) _
        have HIN := Lib.hid (own_below ownV hbx)
        have hnew : ∀ j u, [Value.int .u16 x0, .int .u16 x1, .int .u16 x2, .int .i64 x3, .int .u64 x4, .int .u64 x5][j]? = some u → (wr.alloc (.cells #[.int .u16 x0, .int .u16 x1, .int .u16 x2, .int .i64 x3, .int .u64 x4, .int .u64 x5] 53)).cell? ((⟨wr.heap.size, 0, none⟩ : Addr).add j) = some u := fun j u hj => by
          rw [addr_add, Nat.zero_add]
          exact cellNew wr #[.int .u16 x0, .int .u16 x1, .int .u16 x2, .int .i64 x3, .int .u64 x4, .int .u64 x5] 53 j u (by simpa using hj)
        have hbase : w.heap.size + 1 ≤ (wr.alloc (.cells #[.int .u16 x0, .int .u16 x1, .int .u16 x2, .int .i64 x3, .int .u64 x4, .int .u64 x5] 53)).heap.size := by have := hB.size; simp; omega
        have HBX := Lib.hid (hB.trans (hbx.mono (by have := hB.size; omega)))
        have hlo : (o).length ≤ 1000002 := by have := HLO.out; simp; omega
        clear hbx
        go_wp2_with (at_builtin; refine wpList_append_own_at _ rfl _ _ 24 rfl (w.heap.size + 1) 53 i6 _ 6 32 Try.underlying24 hi hz0 hz1 hz2 rfl (by decide) _ _ _ rfl HIN.out ⟨wr.heap.size, 0, none⟩ 1 1 [Value.int .u16 x0, .int .u16 x1, .int .u16 x2, .int .i64 x3, .int .u64 x4, .int .u64 x5] rfl rfl hnew ?c6 (by unfold maxLen; omega) (by omega) hbase ?_)
        case c6 => intro u hu; simp at hu; rcases hu with rfl | rfl | rfl | rfl | rfl | rfl <;> rfl
        intro v6 w6 hown6 hg6 hnn6 hob6
        have own6 := own_add (x := (⟨x0, x1, x2, x3, x4, x5⟩ : Fd)) hown6 (by simp)
        have hB6 := HBX.out.grown hg6 hbase (fun q hq => (HIN.out.lt q hq).1)
        clear hown6 hg6 hnn6 hob6 hnew hbase HIN HBX hlo
        have hs6 := SR.of_own own6 (fcells_one _) (cap_of own6)
        have HS6 := Lib.hid hs6
        have HB6 := Lib.hid (hb0.trans (hB6.mono (by omega)))
        clear own6 hs6 hB6
        go_wp2
        go_ret
        refine ⟨_, rfl, ?_, HB6.out⟩
        rw [HR.out]
        exact HS6.out
      · have hr : rput l ⟨x0, x1, x2, x3, x4, x5⟩ = o := by simpa using HFIN.out
        have HR := Lib.hid hr
        have hs6 := SR.of_own hown.out (fcells_one _) (cap_of hown.out)
        have HS6 := Lib.hid hs6
        clear hr hs6
        go_wp2
        go_ret
        refine ⟨_, rfl, ?_, HB1.out⟩
        rw [HR.out]
        exact HS6.out
end Go.Proofs.Yteblimdbkiiaaaa
