/- Walks of air: lives. -/
import Derived.Test.YthemdbgcamkecaaAirQ
import Derived.Deep.DeepCutAuto
import Derived.Deep.CutRange
namespace Go.Proofs.Ythemdbgcamkecaa
open Go.RowKit

def tx0 : Tr := ⟨4, 0, 5, 100, [1, 2, 3, 4, 5, 6, 7, 8, 9, 10]⟩
theorem fits0 : ∀ x ∈ [tx0], Fits x := by
  intro x hx
  rw [List.mem_singleton.1 hx]
  unfold Fits tx0
  simp
theorem sr_nil (w : World) (size : Nat) : SR w (.slice none 0 0) 0 size [] := ⟨Nat.zero_le _, by simp, by simp, none, 0, rfl, fun _ => ⟨rfl, rfl⟩, fun h => absurd h (by simp)⟩
theorem txs_nil (w : World) : Txs w (.slice none 0 0) [] := ⟨Nat.zero_le _, none, 0, rfl, fun h => absurd h (by simp)⟩
theorem txs_one {W : World} {i : Nat} {t : Tr} {a : Option Addr} {c : Nat} {ty : TypeId} (h : W.heap[i]? = some (.cells #[.int .i64 t.id, .int .i64 t.fr, .int .i64 t.ch, .int .i64 t.st, .slice a t.bs.length c] ty (0, 0)))
    (hb : BytesAt W (.slice a t.bs.length c) t.bs) : Txs W (.slice (some ⟨i, 0, none⟩) 1 1) [t] := by
  refine ⟨by unfold maxLen; simp, some ⟨i, 0, none⟩, 1, rfl, fun _ => ⟨i, 0, rfl, (Array.getElem?_eq_some_iff.1 h).1, fun k hk => ?_⟩⟩
  simp at hk
  subst hk
  exact ⟨a, c, cell_of_row _ _ 0 _ _ _ h, cell_of_row _ _ 1 _ _ _ h, cell_of_row _ _ 2 _ _ _ h, cell_of_row _ _ 3 _ _ _ h, cell_of_row _ _ 4 _ _ _ h, hb⟩

theorem hearX1 : hearR [(0, 1)] [] [] [tx0] 1 (bestE (okK [(0, 1)] 1 5 100 101 [tx0]) (ltE [tx0]) [tx0].length) = ⟨4, 1, 1, 100, 260, [1, 2, 3, 4, 5, 6, 7, 8, 9, 10]⟩ := by rfl
theorem hearX2 : bestE (okK [(0, 1)] 1 5 0 100 [tx0]) (ltE [tx0]) [tx0].length = -1 := by rfl
theorem hear_one (lv sv : Value) (w : World) (h1 : SR w lv 1 2 (tcells [(0, 1)])) (h4 : Txs w sv [tx0]) :
    Calls Try.prog 26 #[.agg #[.int .i64 2, lv, .slice none 0 0, .slice none 0 0], sv, .agg #[.int .i64 1, .int .i64 5, .int .i64 100, .int .i64 101]] w
      fun e w' => ∃ xa xc, e = .returned (.tuple #[.agg #[.int .i64 4, .int .i64 1, .int .i64 1, .int .i64 100, .int .i64 260, .slice xa 10 xc], .bool true]) ∧ Below w.heap.size w w' := by
  refine (hear_any 2 lv (.slice none 0 0) (.slice none 0 0) sv [(0, 1)] [] [] [tx0] 1 5 100 101 w fits0 h1 (sr_nil _ _) (sr_nil _ _) h4).mono ?_
  rintro e w' ⟨va, rfl, hva, hB⟩
  rw [hearX1] at hva ⊢
  obtain ⟨xa, xc, rfl⟩ := hva.1.1.val
  exact ⟨xa, xc, rfl, hB⟩
theorem hear_none (lv sv : Value) (w : World) (h1 : SR w lv 1 2 (tcells [(0, 1)])) (h4 : Txs w sv [tx0]) :
    Calls Try.prog 26 #[.agg #[.int .i64 2, lv, .slice none 0 0, .slice none 0 0], sv, .agg #[.int .i64 1, .int .i64 5, .int .i64 0, .int .i64 100]] w
      fun e w' => ∃ xa xc, e = .returned (.tuple #[.agg #[.int .i64 0, .int .i64 0, .int .i64 0, .int .i64 0, .int .i64 0, .slice xa 0 xc], .bool false]) ∧ Below w.heap.size w w' := by
  refine (hear_any 2 lv (.slice none 0 0) (.slice none 0 0) sv [(0, 1)] [] [] [tx0] 1 5 0 100 w fits0 h1 (sr_nil _ _) (sr_nil _ _) h4).mono ?_
  rintro e w' ⟨va, rfl, hva, hB⟩
  rw [hearX2] at hva ⊢
  obtain ⟨xa, xc, rfl⟩ := hva.1.1.val
  exact ⟨xa, xc, rfl, hB⟩

set_option linter.unusedSimpArgs false in
set_option linter.unusedVariables false in
set_option maxRecDepth 100000 in
set_option maxHeartbeats 4000000 in
theorem lives_any (w : World) : Calls Try.prog 10 #[] w fun e w' => e = .returned (.bool true) ∧ Below w.heap.size w w' := by
  have hby : BytesAt ((w.alloc (.cells #[.int .u8 1, .int .u8 2, .int .u8 3, .int .u8 4, .int .u8 5, .int .u8 6, .int .u8 7, .int .u8 8, .int .u8 9, .int .u8 10] 5)).alloc (.cells #[.int .i64 4, .int .i64 0, .int .i64 5, .int .i64 100, .slice (some ⟨w.heap.size, 0, none⟩) 10 10] 24)) (.slice (some ⟨w.heap.size, 0, none⟩) 10 10) [1, 2, 3, 4, 5, 6, 7, 8, 9, 10] := by
    refine BytesAt.below ?_ ((Below.refl _ _).alloc (Nat.le_refl _) _)
    refine ⟨⟨by unfold maxLen; simp, by simp [bcells], bcells_one _, some ⟨w.heap.size, 0, none⟩, 10, rfl, fun h => (by cases h), fun _ => ⟨w.heap.size, 0, rfl, by simp, fun j u hj => ?_⟩⟩, by decide, by decide⟩
    rw [Nat.zero_add]
    exact cellNew w _ _ j u (by simpa [bcells] using hj)
  have T0 := cells_new (w.alloc (.cells #[.int .u8 1, .int .u8 2, .int .u8 3, .int .u8 4, .int .u8 5, .int .u8 6, .int .u8 7, .int .u8 8, .int .u8 9, .int .u8 10] 5)) [.int .i64 4, .int .i64 0, .int .i64 5, .int .i64 100, .slice (some ⟨w.heap.size, 0, none⟩) 10 10] 24
  have e1 : (w.alloc (.cells #[.int .u8 1, .int .u8 2, .int .u8 3, .int .u8 4, .int .u8 5, .int .u8 6, .int .u8 7, .int .u8 8, .int .u8 9, .int .u8 10] 5)).heap.size = w.heap.size + 1 := by simp
  rw [e1] at T0
  have hBW : Below w.heap.size w ((w.alloc (.cells #[.int .u8 1, .int .u8 2, .int .u8 3, .int .u8 4, .int .u8 5, .int .u8 6, .int .u8 7, .int .u8 8, .int .u8 9, .int .u8 10] 5)).alloc (.cells #[.int .i64 4, .int .i64 0, .int .i64 5, .int .i64 100, .slice (some ⟨w.heap.size, 0, none⟩) 10 10] 24)) := ((Below.refl _ _).alloc (Nat.le_refl _) _).alloc (by simp) _
  have hsz : w.heap.size + 2 ≤ ((w.alloc (.cells #[.int .u8 1, .int .u8 2, .int .u8 3, .int .u8 4, .int .u8 5, .int .u8 6, .int .u8 7, .int .u8 8, .int .u8 9, .int .u8 10] 5)).alloc (.cells #[.int .i64 4, .int .i64 0, .int .i64 5, .int .i64 100, .slice (some ⟨w.heap.size, 0, none⟩) 10 10] 24)).heap.size := by simp
  have HBY' := Lib.hid hby
  clear hby e1
  go_enter Try.func10, Try.ntmps10
  go_upto_region 2 with fail
  generalize hW : (w.alloc (.cells _ 5)).alloc (.cells _ 24) = W at T0 hBW hsz HBY' ⊢
  have HBY : Hid (BytesAt W (.slice (some ⟨w.heap.size, 0, none⟩) tx0.bs.length 10) tx0.bs) := HBY'
  clear hW HBY'
  go_upto_region 2 with fail
  go_cut [2, 3] (fun p ok wx => ∃ i xa xc, p = .pointer (some ⟨i, 0, none⟩) ∧ ok = .bool true ∧ wx.heap[i]? = some (.cells #[.int .i64 4, .int .i64 1, .int .i64 1, .int .i64 100, .int .i64 260, .slice xa 10 xc] 47 (0, 0)) ∧ Below W.heap.size W wx)
  case first =>
    refine wp_region_held_drew (S := (fun W' : World => Below W.heap.size W W' ∧ W.heap.size ≤ W'.heap.size ∧ Cells W' (blk (w.heap.size + 1) 0 0 [.int .i64 4, .int .i64 0, .int .i64 5, .int .i64 100, .slice (some ⟨w.heap.size, 0, none⟩) 10 10]))) (by kernel_rfl) (⟨(Below.refl _ _).drew, Nat.le_refl _, T0.drew⟩) (fun hHeld => ?_)
    generalize World.drew _ = wd at hHeld ⊢
    have hz := hHeld.2.1
    refine wpAnyH_take (i := 1) (oi := _) (v := ?_) (by rw [List.getElem?_toArray]; rfl) (by kernel_rfl) (by kernel_rfl) (by kernel_rfl) (by exact fun _ _ _ h => h) (Or.inl ⟨by rfl, ?_⟩) (by assumption) ?_
    rotate_left
    · intro w hSw
      try simp only [Cells, blk, List.cons_append, List.nil_append, and_true, Nat.reduceAdd, Nat.add_zero, Nat.zero_add] at hSw
      go_simp
      try with_reducible rfl
    simp only [Act.put, List.setIfInBounds_toArray, List.set_cons_zero, List.set_cons_succ]
    refine wpAnyH_take (i := 3) (oi := _) (v := ?_) (by rw [List.getElem?_toArray]; rfl) (by kernel_rfl) (by kernel_rfl) (by kernel_rfl) (by exact fun _ _ _ h => h) (Or.inl ⟨by rfl, ?_⟩) (by assumption) ?_
    rotate_left
    · intro w hSw
      try simp only [Cells, blk, List.cons_append, List.nil_append, and_true, Nat.reduceAdd, Nat.add_zero, Nat.zero_add] at hSw
      go_simp
      try with_reducible rfl
    simp only [Act.put, List.setIfInBounds_toArray, List.set_cons_zero, List.set_cons_succ]
    refine wpAnyH_ready (rs := [0, 2, 8]) (by kernel_rfl) (by simp) (AllReadyH.cons (o := _) (by rw [List.getElem?_toArray]; rfl) (fun K hK => ?_) (AllReadyH.cons (o := _) (by rw [List.getElem?_toArray]; rfl) (fun K hK => ?_) (AllReadyH.cons (o := _) (by rw [List.getElem?_toArray]; rfl) (fun K hK => ?_) AllReadyH.nil)))
    · go_simp
      go_at_call 32
      refine (pair_any _).mono ?_
      rintro e w0 ⟨lv, rfl, hlv, hB0⟩
      refine hK.out _ _ (⟨hHeld.1.trans (hB0.mono (by have := hHeld.2.1; omega)), Nat.le_trans hHeld.2.1 hB0.size, hHeld.2.2.keep hB0⟩) (fun hHeld2 => ?_)
      replace hHeld := hHeld2
      clear hK K hHeld2
      try simp only [Act.put, List.setIfInBounds_toArray, List.set_cons_zero, List.set_cons_succ]
      have hz := hHeld.2.1
      try replace htx := htx.below hB0
      try replace h8 := (hB0.block _ (by have := h8s; omega)).trans h8
      try replace h8s := Nat.le_trans h8s hB0.size
      refine wpAnyH_ready (rs := [2, 8]) (by kernel_rfl) (by simp) (AllReadyH.cons (o := _) (by rw [List.getElem?_toArray]; rfl) (fun K hK => ?_) (AllReadyH.cons (o := _) (by rw [List.getElem?_toArray]; rfl) (fun K hK => ?_) AllReadyH.nil))
      · go_simp
        generalize hX : World.alloc _ (.cells _ 24) = w2
        obtain ⟨h2, hB2, h2z⟩ := alloc_named hX
        clear hX h2z
        have htx := txs_one h2 (HBY.out.below (hHeld.1.trans (hB2.mono (by have := hHeld.2.1; omega))))
        refine hK.out _ _ (⟨hHeld.1.trans (hB2.mono (by have := hHeld.2.1; omega)), Nat.le_trans hHeld.2.1 hB2.size, hHeld.2.2.keep hB2⟩) (fun hHeld2 => ?_)
        replace hHeld := hHeld2
        clear hK K hHeld2
        try simp only [Act.put, List.setIfInBounds_toArray, List.set_cons_zero, List.set_cons_succ]
        have hz := hHeld.2.1
        try replace hlv := hlv.below hB2
        try replace h8 := (hB2.block _ (by have := h8s; omega)).trans h8
        try replace h8s := Nat.le_trans h8s hB2.size
        refine wpAnyH_ready (rs := [4, 8]) (by kernel_rfl) (by simp) (AllReadyH.cons (o := _) (by rw [List.getElem?_toArray]; rfl) (fun K hK => ?_) (AllReadyH.cons (o := _) (by rw [List.getElem?_toArray]; rfl) (fun K hK => ?_) AllReadyH.nil))
        · go_simp
          go_at_call 26
          refine (hear_one lv _ _ hlv htx).mono ?_
          rintro e w4 ⟨xa, xc, rfl, hB4⟩
          try replace h8 := (hB4.block _ (by have := h8s; omega)).trans h8
          try replace h8s := Nat.le_trans h8s hB4.size
          refine hK.out _ _ (⟨hHeld.1.trans (hB4.mono (by have := hHeld.2.1; omega)), Nat.le_trans hHeld.2.1 hB4.size, hHeld.2.2.keep hB4⟩) (fun hHeld2 => ?_)
          replace hHeld := hHeld2
          clear hK K hHeld2
          try simp only [Act.put, List.setIfInBounds_toArray, List.set_cons_zero, List.set_cons_succ]
          have hz := hHeld.2.1
          try have f0 := cell_of_row _ _ 0 _ _ _ h8
          try have f1 := cell_of_row _ _ 1 _ _ _ h8
          try have f2 := cell_of_row _ _ 2 _ _ _ h8
          try have f3 := cell_of_row _ _ 3 _ _ _ h8
          try have f4 := cell_of_row _ _ 4 _ _ _ h8
          try have f5 := cell_of_row _ _ 5 _ _ _ h8
          try have z0 := frozen_of_row _ _ 0 _ _ h8
          try have z1 := frozen_of_row _ _ 1 _ _ h8
          try have z2 := frozen_of_row _ _ 2 _ _ h8
          try have z3 := frozen_of_row _ _ 3 _ _ h8
          try have z4 := frozen_of_row _ _ 4 _ _ h8
          try have z5 := frozen_of_row _ _ 5 _ _ h8
          try simp at f0 f1 f2 f3 f4 f5
          refine wpAnyH_take (i := 5) (oi := _) (v := ?_) (by rw [List.getElem?_toArray]; rfl) (by kernel_rfl) (by kernel_rfl) (by kernel_rfl) (by exact fun _ _ _ h => h) (Or.inl ⟨by rfl, ?_⟩) (by assumption) ?_
          rotate_left
          · intro w hSw
            try simp only [Cells, blk, List.cons_append, List.nil_append, and_true, Nat.reduceAdd, Nat.add_zero, Nat.zero_add] at hSw
            go_simp
            try with_reducible rfl
          simp only [Act.put, List.setIfInBounds_toArray, List.set_cons_zero, List.set_cons_succ]
          refine wpAnyH_take (i := 6) (oi := _) (v := ?_) (by rw [List.getElem?_toArray]; rfl) (by kernel_rfl) (by kernel_rfl) (by kernel_rfl) (by exact fun _ _ _ h => h) (Or.inl ⟨by rfl, ?_⟩) (by assumption) ?_
          rotate_left
          · intro w hSw
            try simp only [Cells, blk, List.cons_append, List.nil_append, and_true, Nat.reduceAdd, Nat.add_zero, Nat.zero_add] at hSw
            go_simp
            try with_reducible rfl
          simp only [Act.put, List.setIfInBounds_toArray, List.set_cons_zero, List.set_cons_succ]
          refine wpAnyH_take (i := 7) (oi := _) (v := ?_) (by rw [List.getElem?_toArray]; rfl) (by kernel_rfl) (by kernel_rfl) (by kernel_rfl) (by exact fun _ _ _ h => h) (Or.inl ⟨by rfl, ?_⟩) (by assumption) ?_
          rotate_left
          · intro w hSw
            try simp only [Cells, blk, List.cons_append, List.nil_append, and_true, Nat.reduceAdd, Nat.add_zero, Nat.zero_add] at hSw
            go_simp
            try with_reducible rfl
          simp only [Act.put, List.setIfInBounds_toArray, List.set_cons_zero, List.set_cons_succ]
          refine wpAnyH_ready (rs := [8]) (by kernel_rfl) (by simp) (AllReadyH.cons (o := _) (by rw [List.getElem?_toArray]; rfl) (fun K hK => ?_) AllReadyH.nil)
          go_simp
          generalize hX : World.alloc _ (.cells _ 47) = w8
          obtain ⟨h8, hB8, h8z⟩ := alloc_named hX
          clear hX
          refine hK.out _ _ (⟨hHeld.1.trans (hB8.mono (by have := hHeld.2.1; omega)), Nat.le_trans hHeld.2.1 hB8.size, hHeld.2.2.keep hB8⟩) (fun hHeld2 => ?_)
          replace hHeld := hHeld2
          clear hK K hHeld2
          try simp only [Act.put, List.setIfInBounds_toArray, List.set_cons_zero, List.set_cons_succ]
          have h8s := Nat.le_of_eq h8z.symm
          clear h8z
          have hi8 := hz
          have hz := hHeld.2.1
          try replace hlv := hlv.below hB8
          try replace htx := htx.below hB8
          try have f0 := cell_of_row _ _ 0 _ _ _ h8
          try have f1 := cell_of_row _ _ 1 _ _ _ h8
          try have f2 := cell_of_row _ _ 2 _ _ _ h8
          try have f3 := cell_of_row _ _ 3 _ _ _ h8
          try have f4 := cell_of_row _ _ 4 _ _ _ h8
          try have f5 := cell_of_row _ _ 5 _ _ _ h8
          try have z0 := frozen_of_row _ _ 0 _ _ h8
          try have z1 := frozen_of_row _ _ 1 _ _ h8
          try have z2 := frozen_of_row _ _ 2 _ _ h8
          try have z3 := frozen_of_row _ _ 3 _ _ h8
          try have z4 := frozen_of_row _ _ 4 _ _ h8
          try have z5 := frozen_of_row _ _ 5 _ _ h8
          try simp at f0 f1 f2 f3 f4 f5
          refine wpAnyH_ready (rs := [9]) (by kernel_rfl) (by simp) (AllReadyH.cons (o := _) (by rw [List.getElem?_toArray]; rfl) (fun K hK => ?_) AllReadyH.nil)
          go_simp
          generalize hX : World.setCell _ _ _ = w9
          obtain ⟨h9, hg9⟩ := set6 h8 hX
          clear hX
          refine hK.out _ _ (⟨hHeld.1.grown hg9 (by have := hHeld.2.1; omega) (fun q hq => by have := hi8; simp at hq; omega), Nat.le_trans hHeld.2.1 hg9.size, hHeld.2.2.grown hg9 (fun x hx => by have := hi8; simp [blk] at hx; rcases hx with rfl | rfl | rfl | rfl | rfl <;> (simp; omega))⟩) (fun hHeld2 => ?_)
          replace hHeld := hHeld2
          clear hK K hHeld2
          try simp only [Act.put, List.setIfInBounds_toArray, List.set_cons_zero, List.set_cons_succ]
          have hz := hHeld.2.1
          refine wpAnyH_take (i := 10) (oi := _) (v := ?_) (by rw [List.getElem?_toArray]; rfl) (by kernel_rfl) (by kernel_rfl) (by kernel_rfl) (by exact fun _ _ _ h => h) (Or.inl ⟨by rfl, ?_⟩) (by assumption) ?_
          rotate_left
          · intro w hSw
            try simp only [Cells, blk, List.cons_append, List.nil_append, and_true, Nat.reduceAdd, Nat.add_zero, Nat.zero_add] at hSw
            go_simp
            try with_reducible rfl
          simp only [Act.put, List.setIfInBounds_toArray, List.set_cons_zero, List.set_cons_succ]
          refine wpAnyH_done (by kernel_rfl) ?_ _
          go_wp2_with fail
          go_meet
          exact ⟨_, _, _, rfl, rfl, h9, hHeld.1⟩
        · go_simp
          generalize hX : World.alloc _ (.cells _ 47) = w8
          obtain ⟨h8, hB8, h8z⟩ := alloc_named hX
          clear hX
          refine hK.out _ _ (⟨hHeld.1.trans (hB8.mono (by have := hHeld.2.1; omega)), Nat.le_trans hHeld.2.1 hB8.size, hHeld.2.2.keep hB8⟩) (fun hHeld2 => ?_)
          replace hHeld := hHeld2
          clear hK K hHeld2
          try simp only [Act.put, List.setIfInBounds_toArray, List.set_cons_zero, List.set_cons_succ]
          have h8s := Nat.le_of_eq h8z.symm
          clear h8z
          have hi8 := hz
          have hz := hHeld.2.1
          try replace hlv := hlv.below hB8
          try replace htx := htx.below hB8
          try have f0 := cell_of_row _ _ 0 _ _ _ h8
          try have f1 := cell_of_row _ _ 1 _ _ _ h8
          try have f2 := cell_of_row _ _ 2 _ _ _ h8
          try have f3 := cell_of_row _ _ 3 _ _ _ h8
          try have f4 := cell_of_row _ _ 4 _ _ _ h8
          try have f5 := cell_of_row _ _ 5 _ _ _ h8
          try have z0 := frozen_of_row _ _ 0 _ _ h8
          try have z1 := frozen_of_row _ _ 1 _ _ h8
          try have z2 := frozen_of_row _ _ 2 _ _ h8
          try have z3 := frozen_of_row _ _ 3 _ _ h8
          try have z4 := frozen_of_row _ _ 4 _ _ h8
          try have z5 := frozen_of_row _ _ 5 _ _ h8
          try simp at f0 f1 f2 f3 f4 f5
          refine wpAnyH_ready (rs := [4]) (by kernel_rfl) (by simp) (AllReadyH.cons (o := _) (by rw [List.getElem?_toArray]; rfl) (fun K hK => ?_) AllReadyH.nil)
          go_simp
          go_at_call 26
          refine (hear_one lv _ _ hlv htx).mono ?_
          rintro e w4 ⟨xa, xc, rfl, hB4⟩
          try replace h8 := (hB4.block _ (by have := h8s; omega)).trans h8
          try replace h8s := Nat.le_trans h8s hB4.size
          refine hK.out _ _ (⟨hHeld.1.trans (hB4.mono (by have := hHeld.2.1; omega)), Nat.le_trans hHeld.2.1 hB4.size, hHeld.2.2.keep hB4⟩) (fun hHeld2 => ?_)
          replace hHeld := hHeld2
          clear hK K hHeld2
          try simp only [Act.put, List.setIfInBounds_toArray, List.set_cons_zero, List.set_cons_succ]
          have hz := hHeld.2.1
          try have f0 := cell_of_row _ _ 0 _ _ _ h8
          try have f1 := cell_of_row _ _ 1 _ _ _ h8
          try have f2 := cell_of_row _ _ 2 _ _ _ h8
          try have f3 := cell_of_row _ _ 3 _ _ _ h8
          try have f4 := cell_of_row _ _ 4 _ _ _ h8
          try have f5 := cell_of_row _ _ 5 _ _ _ h8
          try have z0 := frozen_of_row _ _ 0 _ _ h8
          try have z1 := frozen_of_row _ _ 1 _ _ h8
          try have z2 := frozen_of_row _ _ 2 _ _ h8
          try have z3 := frozen_of_row _ _ 3 _ _ h8
          try have z4 := frozen_of_row _ _ 4 _ _ h8
          try have z5 := frozen_of_row _ _ 5 _ _ h8
          try simp at f0 f1 f2 f3 f4 f5
          refine wpAnyH_take (i := 5) (oi := _) (v := ?_) (by rw [List.getElem?_toArray]; rfl) (by kernel_rfl) (by kernel_rfl) (by kernel_rfl) (by exact fun _ _ _ h => h) (Or.inl ⟨by rfl, ?_⟩) (by assumption) ?_
          rotate_left
          · intro w hSw
            try simp only [Cells, blk, List.cons_append, List.nil_append, and_true, Nat.reduceAdd, Nat.add_zero, Nat.zero_add] at hSw
            go_simp
            try with_reducible rfl
          simp only [Act.put, List.setIfInBounds_toArray, List.set_cons_zero, List.set_cons_succ]
          refine wpAnyH_take (i := 6) (oi := _) (v := ?_) (by rw [List.getElem?_toArray]; rfl) (by kernel_rfl) (by kernel_rfl) (by kernel_rfl) (by exact fun _ _ _ h => h) (Or.inl ⟨by rfl, ?_⟩) (by assumption) ?_
          rotate_left
          · intro w hSw
            try simp only [Cells, blk, List.cons_append, List.nil_append, and_true, Nat.reduceAdd, Nat.add_zero, Nat.zero_add] at hSw
            go_simp
            try with_reducible rfl
          simp only [Act.put, List.setIfInBounds_toArray, List.set_cons_zero, List.set_cons_succ]
          refine wpAnyH_take (i := 7) (oi := _) (v := ?_) (by rw [List.getElem?_toArray]; rfl) (by kernel_rfl) (by kernel_rfl) (by kernel_rfl) (by exact fun _ _ _ h => h) (Or.inl ⟨by rfl, ?_⟩) (by assumption) ?_
          rotate_left
          · intro w hSw
            try simp only [Cells, blk, List.cons_append, List.nil_append, and_true, Nat.reduceAdd, Nat.add_zero, Nat.zero_add] at hSw
            go_simp
            try with_reducible rfl
          simp only [Act.put, List.setIfInBounds_toArray, List.set_cons_zero, List.set_cons_succ]
          refine wpAnyH_ready (rs := [9]) (by kernel_rfl) (by simp) (AllReadyH.cons (o := _) (by rw [List.getElem?_toArray]; rfl) (fun K hK => ?_) AllReadyH.nil)
          go_simp
          generalize hX : World.setCell _ _ _ = w9
          obtain ⟨h9, hg9⟩ := set6 h8 hX
          clear hX
          refine hK.out _ _ (⟨hHeld.1.grown hg9 (by have := hHeld.2.1; omega) (fun q hq => by have := hi8; simp at hq; omega), Nat.le_trans hHeld.2.1 hg9.size, hHeld.2.2.grown hg9 (fun x hx => by have := hi8; simp [blk] at hx; rcases hx with rfl | rfl | rfl | rfl | rfl <;> (simp; omega))⟩) (fun hHeld2 => ?_)
          replace hHeld := hHeld2
          clear hK K hHeld2
          try simp only [Act.put, List.setIfInBounds_toArray, List.set_cons_zero, List.set_cons_succ]
          have hz := hHeld.2.1
          refine wpAnyH_take (i := 10) (oi := _) (v := ?_) (by rw [List.getElem?_toArray]; rfl) (by kernel_rfl) (by kernel_rfl) (by kernel_rfl) (by exact fun _ _ _ h => h) (Or.inl ⟨by rfl, ?_⟩) (by assumption) ?_
          rotate_left
          · intro w hSw
            try simp only [Cells, blk, List.cons_append, List.nil_append, and_true, Nat.reduceAdd, Nat.add_zero, Nat.zero_add] at hSw
            go_simp
            try with_reducible rfl
          simp only [Act.put, List.setIfInBounds_toArray, List.set_cons_zero, List.set_cons_succ]
          refine wpAnyH_done (by kernel_rfl) ?_ _
          go_wp2_with fail
          go_meet
          exact ⟨_, _, _, rfl, rfl, h9, hHeld.1⟩
      · go_simp
        generalize hX : World.alloc _ (.cells _ 47) = w8
        obtain ⟨h8, hB8, h8z⟩ := alloc_named hX
        clear hX
        refine hK.out _ _ (⟨hHeld.1.trans (hB8.mono (by have := hHeld.2.1; omega)), Nat.le_trans hHeld.2.1 hB8.size, hHeld.2.2.keep hB8⟩) (fun hHeld2 => ?_)
        replace hHeld := hHeld2
        clear hK K hHeld2
        try simp only [Act.put, List.setIfInBounds_toArray, List.set_cons_zero, List.set_cons_succ]
        have h8s := Nat.le_of_eq h8z.symm
        clear h8z
        have hi8 := hz
        have hz := hHeld.2.1
        try replace hlv := hlv.below hB8
        try replace htx := htx.below hB8
        try have f0 := cell_of_row _ _ 0 _ _ _ h8
        try have f1 := cell_of_row _ _ 1 _ _ _ h8
        try have f2 := cell_of_row _ _ 2 _ _ _ h8
        try have f3 := cell_of_row _ _ 3 _ _ _ h8
        try have f4 := cell_of_row _ _ 4 _ _ _ h8
        try have f5 := cell_of_row _ _ 5 _ _ _ h8
        try have z0 := frozen_of_row _ _ 0 _ _ h8
        try have z1 := frozen_of_row _ _ 1 _ _ h8
        try have z2 := frozen_of_row _ _ 2 _ _ h8
        try have z3 := frozen_of_row _ _ 3 _ _ h8
        try have z4 := frozen_of_row _ _ 4 _ _ h8
        try have z5 := frozen_of_row _ _ 5 _ _ h8
        try simp at f0 f1 f2 f3 f4 f5
        refine wpAnyH_ready (rs := [2]) (by kernel_rfl) (by simp) (AllReadyH.cons (o := _) (by rw [List.getElem?_toArray]; rfl) (fun K hK => ?_) AllReadyH.nil)
        go_simp
        generalize hX : World.alloc _ (.cells _ 24) = w2
        obtain ⟨h2, hB2, h2z⟩ := alloc_named hX
        clear hX h2z
        have htx := txs_one h2 (HBY.out.below (hHeld.1.trans (hB2.mono (by have := hHeld.2.1; omega))))
        refine hK.out _ _ (⟨hHeld.1.trans (hB2.mono (by have := hHeld.2.1; omega)), Nat.le_trans hHeld.2.1 hB2.size, hHeld.2.2.keep hB2⟩) (fun hHeld2 => ?_)
        replace hHeld := hHeld2
        clear hK K hHeld2
        try simp only [Act.put, List.setIfInBounds_toArray, List.set_cons_zero, List.set_cons_succ]
        have hz := hHeld.2.1
        try replace hlv := hlv.below hB2
        try replace h8 := (hB2.block _ (by have := h8s; omega)).trans h8
        try replace h8s := Nat.le_trans h8s hB2.size
        refine wpAnyH_ready (rs := [4]) (by kernel_rfl) (by simp) (AllReadyH.cons (o := _) (by rw [List.getElem?_toArray]; rfl) (fun K hK => ?_) AllReadyH.nil)
        go_simp
        go_at_call 26
        refine (hear_one lv _ _ hlv htx).mono ?_
        rintro e w4 ⟨xa, xc, rfl, hB4⟩
        try replace h8 := (hB4.block _ (by have := h8s; omega)).trans h8
        try replace h8s := Nat.le_trans h8s hB4.size
        refine hK.out _ _ (⟨hHeld.1.trans (hB4.mono (by have := hHeld.2.1; omega)), Nat.le_trans hHeld.2.1 hB4.size, hHeld.2.2.keep hB4⟩) (fun hHeld2 => ?_)
        replace hHeld := hHeld2
        clear hK K hHeld2
        try simp only [Act.put, List.setIfInBounds_toArray, List.set_cons_zero, List.set_cons_succ]
        have hz := hHeld.2.1
        try have f0 := cell_of_row _ _ 0 _ _ _ h8
        try have f1 := cell_of_row _ _ 1 _ _ _ h8
        try have f2 := cell_of_row _ _ 2 _ _ _ h8
        try have f3 := cell_of_row _ _ 3 _ _ _ h8
        try have f4 := cell_of_row _ _ 4 _ _ _ h8
        try have f5 := cell_of_row _ _ 5 _ _ _ h8
        try have z0 := frozen_of_row _ _ 0 _ _ h8
        try have z1 := frozen_of_row _ _ 1 _ _ h8
        try have z2 := frozen_of_row _ _ 2 _ _ h8
        try have z3 := frozen_of_row _ _ 3 _ _ h8
        try have z4 := frozen_of_row _ _ 4 _ _ h8
        try have z5 := frozen_of_row _ _ 5 _ _ h8
        try simp at f0 f1 f2 f3 f4 f5
        refine wpAnyH_take (i := 5) (oi := _) (v := ?_) (by rw [List.getElem?_toArray]; rfl) (by kernel_rfl) (by kernel_rfl) (by kernel_rfl) (by exact fun _ _ _ h => h) (Or.inl ⟨by rfl, ?_⟩) (by assumption) ?_
        rotate_left
        · intro w hSw
          try simp only [Cells, blk, List.cons_append, List.nil_append, and_true, Nat.reduceAdd, Nat.add_zero, Nat.zero_add] at hSw
          go_simp
          try with_reducible rfl
        simp only [Act.put, List.setIfInBounds_toArray, List.set_cons_zero, List.set_cons_succ]
        refine wpAnyH_take (i := 6) (oi := _) (v := ?_) (by rw [List.getElem?_toArray]; rfl) (by kernel_rfl) (by kernel_rfl) (by kernel_rfl) (by exact fun _ _ _ h => h) (Or.inl ⟨by rfl, ?_⟩) (by assumption) ?_
        rotate_left
        · intro w hSw
          try simp only [Cells, blk, List.cons_append, List.nil_append, and_true, Nat.reduceAdd, Nat.add_zero, Nat.zero_add] at hSw
          go_simp
          try with_reducible rfl
        simp only [Act.put, List.setIfInBounds_toArray, List.set_cons_zero, List.set_cons_succ]
        refine wpAnyH_take (i := 7) (oi := _) (v := ?_) (by rw [List.getElem?_toArray]; rfl) (by kernel_rfl) (by kernel_rfl) (by kernel_rfl) (by exact fun _ _ _ h => h) (Or.inl ⟨by rfl, ?_⟩) (by assumption) ?_
        rotate_left
        · intro w hSw
          try simp only [Cells, blk, List.cons_append, List.nil_append, and_true, Nat.reduceAdd, Nat.add_zero, Nat.zero_add] at hSw
          go_simp
          try with_reducible rfl
        simp only [Act.put, List.setIfInBounds_toArray, List.set_cons_zero, List.set_cons_succ]
        refine wpAnyH_ready (rs := [9]) (by kernel_rfl) (by simp) (AllReadyH.cons (o := _) (by rw [List.getElem?_toArray]; rfl) (fun K hK => ?_) AllReadyH.nil)
        go_simp
        generalize hX : World.setCell _ _ _ = w9
        obtain ⟨h9, hg9⟩ := set6 h8 hX
        clear hX
        refine hK.out _ _ (⟨hHeld.1.grown hg9 (by have := hHeld.2.1; omega) (fun q hq => by have := hi8; simp at hq; omega), Nat.le_trans hHeld.2.1 hg9.size, hHeld.2.2.grown hg9 (fun x hx => by have := hi8; simp [blk] at hx; rcases hx with rfl | rfl | rfl | rfl | rfl <;> (simp; omega))⟩) (fun hHeld2 => ?_)
        replace hHeld := hHeld2
        clear hK K hHeld2
        try simp only [Act.put, List.setIfInBounds_toArray, List.set_cons_zero, List.set_cons_succ]
        have hz := hHeld.2.1
        refine wpAnyH_take (i := 10) (oi := _) (v := ?_) (by rw [List.getElem?_toArray]; rfl) (by kernel_rfl) (by kernel_rfl) (by kernel_rfl) (by exact fun _ _ _ h => h) (Or.inl ⟨by rfl, ?_⟩) (by assumption) ?_
        rotate_left
        · intro w hSw
          try simp only [Cells, blk, List.cons_append, List.nil_append, and_true, Nat.reduceAdd, Nat.add_zero, Nat.zero_add] at hSw
          go_simp
          try with_reducible rfl
        simp only [Act.put, List.setIfInBounds_toArray, List.set_cons_zero, List.set_cons_succ]
        refine wpAnyH_done (by kernel_rfl) ?_ _
        go_wp2_with fail
        go_meet
        exact ⟨_, _, _, rfl, rfl, h9, hHeld.1⟩
    · go_simp
      generalize hX : World.alloc _ (.cells _ 24) = w2
      obtain ⟨h2, hB2, h2z⟩ := alloc_named hX
      clear hX h2z
      have htx := txs_one h2 (HBY.out.below (hHeld.1.trans (hB2.mono (by have := hHeld.2.1; omega))))
      refine hK.out _ _ (⟨hHeld.1.trans (hB2.mono (by have := hHeld.2.1; omega)), Nat.le_trans hHeld.2.1 hB2.size, hHeld.2.2.keep hB2⟩) (fun hHeld2 => ?_)
      replace hHeld := hHeld2
      clear hK K hHeld2
      try simp only [Act.put, List.setIfInBounds_toArray, List.set_cons_zero, List.set_cons_succ]
      have hz := hHeld.2.1
      try replace hlv := hlv.below hB2
      try replace h8 := (hB2.block _ (by have := h8s; omega)).trans h8
      try replace h8s := Nat.le_trans h8s hB2.size
      refine wpAnyH_ready (rs := [0, 8]) (by kernel_rfl) (by simp) (AllReadyH.cons (o := _) (by rw [List.getElem?_toArray]; rfl) (fun K hK => ?_) (AllReadyH.cons (o := _) (by rw [List.getElem?_toArray]; rfl) (fun K hK => ?_) AllReadyH.nil))
      · go_simp
        go_at_call 32
        refine (pair_any _).mono ?_
        rintro e w0 ⟨lv, rfl, hlv, hB0⟩
        refine hK.out _ _ (⟨hHeld.1.trans (hB0.mono (by have := hHeld.2.1; omega)), Nat.le_trans hHeld.2.1 hB0.size, hHeld.2.2.keep hB0⟩) (fun hHeld2 => ?_)
        replace hHeld := hHeld2
        clear hK K hHeld2
        try simp only [Act.put, List.setIfInBounds_toArray, List.set_cons_zero, List.set_cons_succ]
        have hz := hHeld.2.1
        try replace htx := htx.below hB0
        try replace h8 := (hB0.block _ (by have := h8s; omega)).trans h8
        try replace h8s := Nat.le_trans h8s hB0.size
        refine wpAnyH_ready (rs := [4, 8]) (by kernel_rfl) (by simp) (AllReadyH.cons (o := _) (by rw [List.getElem?_toArray]; rfl) (fun K hK => ?_) (AllReadyH.cons (o := _) (by rw [List.getElem?_toArray]; rfl) (fun K hK => ?_) AllReadyH.nil))
        · go_simp
          go_at_call 26
          refine (hear_one lv _ _ hlv htx).mono ?_
          rintro e w4 ⟨xa, xc, rfl, hB4⟩
          try replace h8 := (hB4.block _ (by have := h8s; omega)).trans h8
          try replace h8s := Nat.le_trans h8s hB4.size
          refine hK.out _ _ (⟨hHeld.1.trans (hB4.mono (by have := hHeld.2.1; omega)), Nat.le_trans hHeld.2.1 hB4.size, hHeld.2.2.keep hB4⟩) (fun hHeld2 => ?_)
          replace hHeld := hHeld2
          clear hK K hHeld2
          try simp only [Act.put, List.setIfInBounds_toArray, List.set_cons_zero, List.set_cons_succ]
          have hz := hHeld.2.1
          try have f0 := cell_of_row _ _ 0 _ _ _ h8
          try have f1 := cell_of_row _ _ 1 _ _ _ h8
          try have f2 := cell_of_row _ _ 2 _ _ _ h8
          try have f3 := cell_of_row _ _ 3 _ _ _ h8
          try have f4 := cell_of_row _ _ 4 _ _ _ h8
          try have f5 := cell_of_row _ _ 5 _ _ _ h8
          try have z0 := frozen_of_row _ _ 0 _ _ h8
          try have z1 := frozen_of_row _ _ 1 _ _ h8
          try have z2 := frozen_of_row _ _ 2 _ _ h8
          try have z3 := frozen_of_row _ _ 3 _ _ h8
          try have z4 := frozen_of_row _ _ 4 _ _ h8
          try have z5 := frozen_of_row _ _ 5 _ _ h8
          try simp at f0 f1 f2 f3 f4 f5
          refine wpAnyH_take (i := 5) (oi := _) (v := ?_) (by rw [List.getElem?_toArray]; rfl) (by kernel_rfl) (by kernel_rfl) (by kernel_rfl) (by exact fun _ _ _ h => h) (Or.inl ⟨by rfl, ?_⟩) (by assumption) ?_
          rotate_left
          · intro w hSw
            try simp only [Cells, blk, List.cons_append, List.nil_append, and_true, Nat.reduceAdd, Nat.add_zero, Nat.zero_add] at hSw
            go_simp
            try with_reducible rfl
          simp only [Act.put, List.setIfInBounds_toArray, List.set_cons_zero, List.set_cons_succ]
          refine wpAnyH_take (i := 6) (oi := _) (v := ?_) (by rw [List.getElem?_toArray]; rfl) (by kernel_rfl) (by kernel_rfl) (by kernel_rfl) (by exact fun _ _ _ h => h) (Or.inl ⟨by rfl, ?_⟩) (by assumption) ?_
          rotate_left
          · intro w hSw
            try simp only [Cells, blk, List.cons_append, List.nil_append, and_true, Nat.reduceAdd, Nat.add_zero, Nat.zero_add] at hSw
            go_simp
            try with_reducible rfl
          simp only [Act.put, List.setIfInBounds_toArray, List.set_cons_zero, List.set_cons_succ]
          refine wpAnyH_take (i := 7) (oi := _) (v := ?_) (by rw [List.getElem?_toArray]; rfl) (by kernel_rfl) (by kernel_rfl) (by kernel_rfl) (by exact fun _ _ _ h => h) (Or.inl ⟨by rfl, ?_⟩) (by assumption) ?_
          rotate_left
          · intro w hSw
            try simp only [Cells, blk, List.cons_append, List.nil_append, and_true, Nat.reduceAdd, Nat.add_zero, Nat.zero_add] at hSw
            go_simp
            try with_reducible rfl
          simp only [Act.put, List.setIfInBounds_toArray, List.set_cons_zero, List.set_cons_succ]
          refine wpAnyH_ready (rs := [8]) (by kernel_rfl) (by simp) (AllReadyH.cons (o := _) (by rw [List.getElem?_toArray]; rfl) (fun K hK => ?_) AllReadyH.nil)
          go_simp
          generalize hX : World.alloc _ (.cells _ 47) = w8
          obtain ⟨h8, hB8, h8z⟩ := alloc_named hX
          clear hX
          refine hK.out _ _ (⟨hHeld.1.trans (hB8.mono (by have := hHeld.2.1; omega)), Nat.le_trans hHeld.2.1 hB8.size, hHeld.2.2.keep hB8⟩) (fun hHeld2 => ?_)
          replace hHeld := hHeld2
          clear hK K hHeld2
          try simp only [Act.put, List.setIfInBounds_toArray, List.set_cons_zero, List.set_cons_succ]
          have h8s := Nat.le_of_eq h8z.symm
          clear h8z
          have hi8 := hz
          have hz := hHeld.2.1
          try replace hlv := hlv.below hB8
          try replace htx := htx.below hB8
          try have f0 := cell_of_row _ _ 0 _ _ _ h8
          try have f1 := cell_of_row _ _ 1 _ _ _ h8
          try have f2 := cell_of_row _ _ 2 _ _ _ h8
          try have f3 := cell_of_row _ _ 3 _ _ _ h8
          try have f4 := cell_of_row _ _ 4 _ _ _ h8
          try have f5 := cell_of_row _ _ 5 _ _ _ h8
          try have z0 := frozen_of_row _ _ 0 _ _ h8
          try have z1 := frozen_of_row _ _ 1 _ _ h8
          try have z2 := frozen_of_row _ _ 2 _ _ h8
          try have z3 := frozen_of_row _ _ 3 _ _ h8
          try have z4 := frozen_of_row _ _ 4 _ _ h8
          try have z5 := frozen_of_row _ _ 5 _ _ h8
          try simp at f0 f1 f2 f3 f4 f5
          refine wpAnyH_ready (rs := [9]) (by kernel_rfl) (by simp) (AllReadyH.cons (o := _) (by rw [List.getElem?_toArray]; rfl) (fun K hK => ?_) AllReadyH.nil)
          go_simp
          generalize hX : World.setCell _ _ _ = w9
          obtain ⟨h9, hg9⟩ := set6 h8 hX
          clear hX
          refine hK.out _ _ (⟨hHeld.1.grown hg9 (by have := hHeld.2.1; omega) (fun q hq => by have := hi8; simp at hq; omega), Nat.le_trans hHeld.2.1 hg9.size, hHeld.2.2.grown hg9 (fun x hx => by have := hi8; simp [blk] at hx; rcases hx with rfl | rfl | rfl | rfl | rfl <;> (simp; omega))⟩) (fun hHeld2 => ?_)
          replace hHeld := hHeld2
          clear hK K hHeld2
          try simp only [Act.put, List.setIfInBounds_toArray, List.set_cons_zero, List.set_cons_succ]
          have hz := hHeld.2.1
          refine wpAnyH_take (i := 10) (oi := _) (v := ?_) (by rw [List.getElem?_toArray]; rfl) (by kernel_rfl) (by kernel_rfl) (by kernel_rfl) (by exact fun _ _ _ h => h) (Or.inl ⟨by rfl, ?_⟩) (by assumption) ?_
          rotate_left
          · intro w hSw
            try simp only [Cells, blk, List.cons_append, List.nil_append, and_true, Nat.reduceAdd, Nat.add_zero, Nat.zero_add] at hSw
            go_simp
            try with_reducible rfl
          simp only [Act.put, List.setIfInBounds_toArray, List.set_cons_zero, List.set_cons_succ]
          refine wpAnyH_done (by kernel_rfl) ?_ _
          go_wp2_with fail
          go_meet
          exact ⟨_, _, _, rfl, rfl, h9, hHeld.1⟩
        · go_simp
          generalize hX : World.alloc _ (.cells _ 47) = w8
          obtain ⟨h8, hB8, h8z⟩ := alloc_named hX
          clear hX
          refine hK.out _ _ (⟨hHeld.1.trans (hB8.mono (by have := hHeld.2.1; omega)), Nat.le_trans hHeld.2.1 hB8.size, hHeld.2.2.keep hB8⟩) (fun hHeld2 => ?_)
          replace hHeld := hHeld2
          clear hK K hHeld2
          try simp only [Act.put, List.setIfInBounds_toArray, List.set_cons_zero, List.set_cons_succ]
          have h8s := Nat.le_of_eq h8z.symm
          clear h8z
          have hi8 := hz
          have hz := hHeld.2.1
          try replace hlv := hlv.below hB8
          try replace htx := htx.below hB8
          try have f0 := cell_of_row _ _ 0 _ _ _ h8
          try have f1 := cell_of_row _ _ 1 _ _ _ h8
          try have f2 := cell_of_row _ _ 2 _ _ _ h8
          try have f3 := cell_of_row _ _ 3 _ _ _ h8
          try have f4 := cell_of_row _ _ 4 _ _ _ h8
          try have f5 := cell_of_row _ _ 5 _ _ _ h8
          try have z0 := frozen_of_row _ _ 0 _ _ h8
          try have z1 := frozen_of_row _ _ 1 _ _ h8
          try have z2 := frozen_of_row _ _ 2 _ _ h8
          try have z3 := frozen_of_row _ _ 3 _ _ h8
          try have z4 := frozen_of_row _ _ 4 _ _ h8
          try have z5 := frozen_of_row _ _ 5 _ _ h8
          try simp at f0 f1 f2 f3 f4 f5
          refine wpAnyH_ready (rs := [4]) (by kernel_rfl) (by simp) (AllReadyH.cons (o := _) (by rw [List.getElem?_toArray]; rfl) (fun K hK => ?_) AllReadyH.nil)
          go_simp
          go_at_call 26
          refine (hear_one lv _ _ hlv htx).mono ?_
          rintro e w4 ⟨xa, xc, rfl, hB4⟩
          try replace h8 := (hB4.block _ (by have := h8s; omega)).trans h8
          try replace h8s := Nat.le_trans h8s hB4.size
          refine hK.out _ _ (⟨hHeld.1.trans (hB4.mono (by have := hHeld.2.1; omega)), Nat.le_trans hHeld.2.1 hB4.size, hHeld.2.2.keep hB4⟩) (fun hHeld2 => ?_)
          replace hHeld := hHeld2
          clear hK K hHeld2
          try simp only [Act.put, List.setIfInBounds_toArray, List.set_cons_zero, List.set_cons_succ]
          have hz := hHeld.2.1
          try have f0 := cell_of_row _ _ 0 _ _ _ h8
          try have f1 := cell_of_row _ _ 1 _ _ _ h8
          try have f2 := cell_of_row _ _ 2 _ _ _ h8
          try have f3 := cell_of_row _ _ 3 _ _ _ h8
          try have f4 := cell_of_row _ _ 4 _ _ _ h8
          try have f5 := cell_of_row _ _ 5 _ _ _ h8
          try have z0 := frozen_of_row _ _ 0 _ _ h8
          try have z1 := frozen_of_row _ _ 1 _ _ h8
          try have z2 := frozen_of_row _ _ 2 _ _ h8
          try have z3 := frozen_of_row _ _ 3 _ _ h8
          try have z4 := frozen_of_row _ _ 4 _ _ h8
          try have z5 := frozen_of_row _ _ 5 _ _ h8
          try simp at f0 f1 f2 f3 f4 f5
          refine wpAnyH_take (i := 5) (oi := _) (v := ?_) (by rw [List.getElem?_toArray]; rfl) (by kernel_rfl) (by kernel_rfl) (by kernel_rfl) (by exact fun _ _ _ h => h) (Or.inl ⟨by rfl, ?_⟩) (by assumption) ?_
          rotate_left
          · intro w hSw
            try simp only [Cells, blk, List.cons_append, List.nil_append, and_true, Nat.reduceAdd, Nat.add_zero, Nat.zero_add] at hSw
            go_simp
            try with_reducible rfl
          simp only [Act.put, List.setIfInBounds_toArray, List.set_cons_zero, List.set_cons_succ]
          refine wpAnyH_take (i := 6) (oi := _) (v := ?_) (by rw [List.getElem?_toArray]; rfl) (by kernel_rfl) (by kernel_rfl) (by kernel_rfl) (by exact fun _ _ _ h => h) (Or.inl ⟨by rfl, ?_⟩) (by assumption) ?_
          rotate_left
          · intro w hSw
            try simp only [Cells, blk, List.cons_append, List.nil_append, and_true, Nat.reduceAdd, Nat.add_zero, Nat.zero_add] at hSw
            go_simp
            try with_reducible rfl
          simp only [Act.put, List.setIfInBounds_toArray, List.set_cons_zero, List.set_cons_succ]
          refine wpAnyH_take (i := 7) (oi := _) (v := ?_) (by rw [List.getElem?_toArray]; rfl) (by kernel_rfl) (by kernel_rfl) (by kernel_rfl) (by exact fun _ _ _ h => h) (Or.inl ⟨by rfl, ?_⟩) (by assumption) ?_
          rotate_left
          · intro w hSw
            try simp only [Cells, blk, List.cons_append, List.nil_append, and_true, Nat.reduceAdd, Nat.add_zero, Nat.zero_add] at hSw
            go_simp
            try with_reducible rfl
          simp only [Act.put, List.setIfInBounds_toArray, List.set_cons_zero, List.set_cons_succ]
          refine wpAnyH_ready (rs := [9]) (by kernel_rfl) (by simp) (AllReadyH.cons (o := _) (by rw [List.getElem?_toArray]; rfl) (fun K hK => ?_) AllReadyH.nil)
          go_simp
          generalize hX : World.setCell _ _ _ = w9
          obtain ⟨h9, hg9⟩ := set6 h8 hX
          clear hX
          refine hK.out _ _ (⟨hHeld.1.grown hg9 (by have := hHeld.2.1; omega) (fun q hq => by have := hi8; simp at hq; omega), Nat.le_trans hHeld.2.1 hg9.size, hHeld.2.2.grown hg9 (fun x hx => by have := hi8; simp [blk] at hx; rcases hx with rfl | rfl | rfl | rfl | rfl <;> (simp; omega))⟩) (fun hHeld2 => ?_)
          replace hHeld := hHeld2
          clear hK K hHeld2
          try simp only [Act.put, List.setIfInBounds_toArray, List.set_cons_zero, List.set_cons_succ]
          have hz := hHeld.2.1
          refine wpAnyH_take (i := 10) (oi := _) (v := ?_) (by rw [List.getElem?_toArray]; rfl) (by kernel_rfl) (by kernel_rfl) (by kernel_rfl) (by exact fun _ _ _ h => h) (Or.inl ⟨by rfl, ?_⟩) (by assumption) ?_
          rotate_left
          · intro w hSw
            try simp only [Cells, blk, List.cons_append, List.nil_append, and_true, Nat.reduceAdd, Nat.add_zero, Nat.zero_add] at hSw
            go_simp
            try with_reducible rfl
          simp only [Act.put, List.setIfInBounds_toArray, List.set_cons_zero, List.set_cons_succ]
          refine wpAnyH_done (by kernel_rfl) ?_ _
          go_wp2_with fail
          go_meet
          exact ⟨_, _, _, rfl, rfl, h9, hHeld.1⟩
      · go_simp
        generalize hX : World.alloc _ (.cells _ 47) = w8
        obtain ⟨h8, hB8, h8z⟩ := alloc_named hX
        clear hX
        refine hK.out _ _ (⟨hHeld.1.trans (hB8.mono (by have := hHeld.2.1; omega)), Nat.le_trans hHeld.2.1 hB8.size, hHeld.2.2.keep hB8⟩) (fun hHeld2 => ?_)
        replace hHeld := hHeld2
        clear hK K hHeld2
        try simp only [Act.put, List.setIfInBounds_toArray, List.set_cons_zero, List.set_cons_succ]
        have h8s := Nat.le_of_eq h8z.symm
        clear h8z
        have hi8 := hz
        have hz := hHeld.2.1
        try replace hlv := hlv.below hB8
        try replace htx := htx.below hB8
        try have f0 := cell_of_row _ _ 0 _ _ _ h8
        try have f1 := cell_of_row _ _ 1 _ _ _ h8
        try have f2 := cell_of_row _ _ 2 _ _ _ h8
        try have f3 := cell_of_row _ _ 3 _ _ _ h8
        try have f4 := cell_of_row _ _ 4 _ _ _ h8
        try have f5 := cell_of_row _ _ 5 _ _ _ h8
        try have z0 := frozen_of_row _ _ 0 _ _ h8
        try have z1 := frozen_of_row _ _ 1 _ _ h8
        try have z2 := frozen_of_row _ _ 2 _ _ h8
        try have z3 := frozen_of_row _ _ 3 _ _ h8
        try have z4 := frozen_of_row _ _ 4 _ _ h8
        try have z5 := frozen_of_row _ _ 5 _ _ h8
        try simp at f0 f1 f2 f3 f4 f5
        refine wpAnyH_ready (rs := [0]) (by kernel_rfl) (by simp) (AllReadyH.cons (o := _) (by rw [List.getElem?_toArray]; rfl) (fun K hK => ?_) AllReadyH.nil)
        go_simp
        go_at_call 32
        refine (pair_any _).mono ?_
        rintro e w0 ⟨lv, rfl, hlv, hB0⟩
        refine hK.out _ _ (⟨hHeld.1.trans (hB0.mono (by have := hHeld.2.1; omega)), Nat.le_trans hHeld.2.1 hB0.size, hHeld.2.2.keep hB0⟩) (fun hHeld2 => ?_)
        replace hHeld := hHeld2
        clear hK K hHeld2
        try simp only [Act.put, List.setIfInBounds_toArray, List.set_cons_zero, List.set_cons_succ]
        have hz := hHeld.2.1
        try replace htx := htx.below hB0
        try replace h8 := (hB0.block _ (by have := h8s; omega)).trans h8
        try replace h8s := Nat.le_trans h8s hB0.size
        refine wpAnyH_ready (rs := [4]) (by kernel_rfl) (by simp) (AllReadyH.cons (o := _) (by rw [List.getElem?_toArray]; rfl) (fun K hK => ?_) AllReadyH.nil)
        go_simp
        go_at_call 26
        refine (hear_one lv _ _ hlv htx).mono ?_
        rintro e w4 ⟨xa, xc, rfl, hB4⟩
        try replace h8 := (hB4.block _ (by have := h8s; omega)).trans h8
        try replace h8s := Nat.le_trans h8s hB4.size
        refine hK.out _ _ (⟨hHeld.1.trans (hB4.mono (by have := hHeld.2.1; omega)), Nat.le_trans hHeld.2.1 hB4.size, hHeld.2.2.keep hB4⟩) (fun hHeld2 => ?_)
        replace hHeld := hHeld2
        clear hK K hHeld2
        try simp only [Act.put, List.setIfInBounds_toArray, List.set_cons_zero, List.set_cons_succ]
        have hz := hHeld.2.1
        try have f0 := cell_of_row _ _ 0 _ _ _ h8
        try have f1 := cell_of_row _ _ 1 _ _ _ h8
        try have f2 := cell_of_row _ _ 2 _ _ _ h8
        try have f3 := cell_of_row _ _ 3 _ _ _ h8
        try have f4 := cell_of_row _ _ 4 _ _ _ h8
        try have f5 := cell_of_row _ _ 5 _ _ _ h8
        try have z0 := frozen_of_row _ _ 0 _ _ h8
        try have z1 := frozen_of_row _ _ 1 _ _ h8
        try have z2 := frozen_of_row _ _ 2 _ _ h8
        try have z3 := frozen_of_row _ _ 3 _ _ h8
        try have z4 := frozen_of_row _ _ 4 _ _ h8
        try have z5 := frozen_of_row _ _ 5 _ _ h8
        try simp at f0 f1 f2 f3 f4 f5
        refine wpAnyH_take (i := 5) (oi := _) (v := ?_) (by rw [List.getElem?_toArray]; rfl) (by kernel_rfl) (by kernel_rfl) (by kernel_rfl) (by exact fun _ _ _ h => h) (Or.inl ⟨by rfl, ?_⟩) (by assumption) ?_
        rotate_left
        · intro w hSw
          try simp only [Cells, blk, List.cons_append, List.nil_append, and_true, Nat.reduceAdd, Nat.add_zero, Nat.zero_add] at hSw
          go_simp
          try with_reducible rfl
        simp only [Act.put, List.setIfInBounds_toArray, List.set_cons_zero, List.set_cons_succ]
        refine wpAnyH_take (i := 6) (oi := _) (v := ?_) (by rw [List.getElem?_toArray]; rfl) (by kernel_rfl) (by kernel_rfl) (by kernel_rfl) (by exact fun _ _ _ h => h) (Or.inl ⟨by rfl, ?_⟩) (by assumption) ?_
        rotate_left
        · intro w hSw
          try simp only [Cells, blk, List.cons_append, List.nil_append, and_true, Nat.reduceAdd, Nat.add_zero, Nat.zero_add] at hSw
          go_simp
          try with_reducible rfl
        simp only [Act.put, List.setIfInBounds_toArray, List.set_cons_zero, List.set_cons_succ]
        refine wpAnyH_take (i := 7) (oi := _) (v := ?_) (by rw [List.getElem?_toArray]; rfl) (by kernel_rfl) (by kernel_rfl) (by kernel_rfl) (by exact fun _ _ _ h => h) (Or.inl ⟨by rfl, ?_⟩) (by assumption) ?_
        rotate_left
        · intro w hSw
          try simp only [Cells, blk, List.cons_append, List.nil_append, and_true, Nat.reduceAdd, Nat.add_zero, Nat.zero_add] at hSw
          go_simp
          try with_reducible rfl
        simp only [Act.put, List.setIfInBounds_toArray, List.set_cons_zero, List.set_cons_succ]
        refine wpAnyH_ready (rs := [9]) (by kernel_rfl) (by simp) (AllReadyH.cons (o := _) (by rw [List.getElem?_toArray]; rfl) (fun K hK => ?_) AllReadyH.nil)
        go_simp
        generalize hX : World.setCell _ _ _ = w9
        obtain ⟨h9, hg9⟩ := set6 h8 hX
        clear hX
        refine hK.out _ _ (⟨hHeld.1.grown hg9 (by have := hHeld.2.1; omega) (fun q hq => by have := hi8; simp at hq; omega), Nat.le_trans hHeld.2.1 hg9.size, hHeld.2.2.grown hg9 (fun x hx => by have := hi8; simp [blk] at hx; rcases hx with rfl | rfl | rfl | rfl | rfl <;> (simp; omega))⟩) (fun hHeld2 => ?_)
        replace hHeld := hHeld2
        clear hK K hHeld2
        try simp only [Act.put, List.setIfInBounds_toArray, List.set_cons_zero, List.set_cons_succ]
        have hz := hHeld.2.1
        refine wpAnyH_take (i := 10) (oi := _) (v := ?_) (by rw [List.getElem?_toArray]; rfl) (by kernel_rfl) (by kernel_rfl) (by kernel_rfl) (by exact fun _ _ _ h => h) (Or.inl ⟨by rfl, ?_⟩) (by assumption) ?_
        rotate_left
        · intro w hSw
          try simp only [Cells, blk, List.cons_append, List.nil_append, and_true, Nat.reduceAdd, Nat.add_zero, Nat.zero_add] at hSw
          go_simp
          try with_reducible rfl
        simp only [Act.put, List.setIfInBounds_toArray, List.set_cons_zero, List.set_cons_succ]
        refine wpAnyH_done (by kernel_rfl) ?_ _
        go_wp2_with fail
        go_meet
        exact ⟨_, _, _, rfl, rfl, h9, hHeld.1⟩
    · go_simp
      generalize hX : World.alloc _ (.cells _ 47) = w8
      obtain ⟨h8, hB8, h8z⟩ := alloc_named hX
      clear hX
      refine hK.out _ _ (⟨hHeld.1.trans (hB8.mono (by have := hHeld.2.1; omega)), Nat.le_trans hHeld.2.1 hB8.size, hHeld.2.2.keep hB8⟩) (fun hHeld2 => ?_)
      replace hHeld := hHeld2
      clear hK K hHeld2
      try simp only [Act.put, List.setIfInBounds_toArray, List.set_cons_zero, List.set_cons_succ]
      have h8s := Nat.le_of_eq h8z.symm
      clear h8z
      have hi8 := hz
      have hz := hHeld.2.1
      try replace hlv := hlv.below hB8
      try replace htx := htx.below hB8
      try have f0 := cell_of_row _ _ 0 _ _ _ h8
      try have f1 := cell_of_row _ _ 1 _ _ _ h8
      try have f2 := cell_of_row _ _ 2 _ _ _ h8
      try have f3 := cell_of_row _ _ 3 _ _ _ h8
      try have f4 := cell_of_row _ _ 4 _ _ _ h8
      try have f5 := cell_of_row _ _ 5 _ _ _ h8
      try have z0 := frozen_of_row _ _ 0 _ _ h8
      try have z1 := frozen_of_row _ _ 1 _ _ h8
      try have z2 := frozen_of_row _ _ 2 _ _ h8
      try have z3 := frozen_of_row _ _ 3 _ _ h8
      try have z4 := frozen_of_row _ _ 4 _ _ h8
      try have z5 := frozen_of_row _ _ 5 _ _ h8
      try simp at f0 f1 f2 f3 f4 f5
      refine wpAnyH_ready (rs := [0, 2]) (by kernel_rfl) (by simp) (AllReadyH.cons (o := _) (by rw [List.getElem?_toArray]; rfl) (fun K hK => ?_) (AllReadyH.cons (o := _) (by rw [List.getElem?_toArray]; rfl) (fun K hK => ?_) AllReadyH.nil))
      · go_simp
        go_at_call 32
        refine (pair_any _).mono ?_
        rintro e w0 ⟨lv, rfl, hlv, hB0⟩
        refine hK.out _ _ (⟨hHeld.1.trans (hB0.mono (by have := hHeld.2.1; omega)), Nat.le_trans hHeld.2.1 hB0.size, hHeld.2.2.keep hB0⟩) (fun hHeld2 => ?_)
        replace hHeld := hHeld2
        clear hK K hHeld2
        try simp only [Act.put, List.setIfInBounds_toArray, List.set_cons_zero, List.set_cons_succ]
        have hz := hHeld.2.1
        try replace htx := htx.below hB0
        try replace h8 := (hB0.block _ (by have := h8s; omega)).trans h8
        try replace h8s := Nat.le_trans h8s hB0.size
        refine wpAnyH_ready (rs := [2]) (by kernel_rfl) (by simp) (AllReadyH.cons (o := _) (by rw [List.getElem?_toArray]; rfl) (fun K hK => ?_) AllReadyH.nil)
        go_simp
        generalize hX : World.alloc _ (.cells _ 24) = w2
        obtain ⟨h2, hB2, h2z⟩ := alloc_named hX
        clear hX h2z
        have htx := txs_one h2 (HBY.out.below (hHeld.1.trans (hB2.mono (by have := hHeld.2.1; omega))))
        refine hK.out _ _ (⟨hHeld.1.trans (hB2.mono (by have := hHeld.2.1; omega)), Nat.le_trans hHeld.2.1 hB2.size, hHeld.2.2.keep hB2⟩) (fun hHeld2 => ?_)
        replace hHeld := hHeld2
        clear hK K hHeld2
        try simp only [Act.put, List.setIfInBounds_toArray, List.set_cons_zero, List.set_cons_succ]
        have hz := hHeld.2.1
        try replace hlv := hlv.below hB2
        try replace h8 := (hB2.block _ (by have := h8s; omega)).trans h8
        try replace h8s := Nat.le_trans h8s hB2.size
        refine wpAnyH_ready (rs := [4]) (by kernel_rfl) (by simp) (AllReadyH.cons (o := _) (by rw [List.getElem?_toArray]; rfl) (fun K hK => ?_) AllReadyH.nil)
        go_simp
        go_at_call 26
        refine (hear_one lv _ _ hlv htx).mono ?_
        rintro e w4 ⟨xa, xc, rfl, hB4⟩
        try replace h8 := (hB4.block _ (by have := h8s; omega)).trans h8
        try replace h8s := Nat.le_trans h8s hB4.size
        refine hK.out _ _ (⟨hHeld.1.trans (hB4.mono (by have := hHeld.2.1; omega)), Nat.le_trans hHeld.2.1 hB4.size, hHeld.2.2.keep hB4⟩) (fun hHeld2 => ?_)
        replace hHeld := hHeld2
        clear hK K hHeld2
        try simp only [Act.put, List.setIfInBounds_toArray, List.set_cons_zero, List.set_cons_succ]
        have hz := hHeld.2.1
        try have f0 := cell_of_row _ _ 0 _ _ _ h8
        try have f1 := cell_of_row _ _ 1 _ _ _ h8
        try have f2 := cell_of_row _ _ 2 _ _ _ h8
        try have f3 := cell_of_row _ _ 3 _ _ _ h8
        try have f4 := cell_of_row _ _ 4 _ _ _ h8
        try have f5 := cell_of_row _ _ 5 _ _ _ h8
        try have z0 := frozen_of_row _ _ 0 _ _ h8
        try have z1 := frozen_of_row _ _ 1 _ _ h8
        try have z2 := frozen_of_row _ _ 2 _ _ h8
        try have z3 := frozen_of_row _ _ 3 _ _ h8
        try have z4 := frozen_of_row _ _ 4 _ _ h8
        try have z5 := frozen_of_row _ _ 5 _ _ h8
        try simp at f0 f1 f2 f3 f4 f5
        refine wpAnyH_take (i := 5) (oi := _) (v := ?_) (by rw [List.getElem?_toArray]; rfl) (by kernel_rfl) (by kernel_rfl) (by kernel_rfl) (by exact fun _ _ _ h => h) (Or.inl ⟨by rfl, ?_⟩) (by assumption) ?_
        rotate_left
        · intro w hSw
          try simp only [Cells, blk, List.cons_append, List.nil_append, and_true, Nat.reduceAdd, Nat.add_zero, Nat.zero_add] at hSw
          go_simp
          try with_reducible rfl
        simp only [Act.put, List.setIfInBounds_toArray, List.set_cons_zero, List.set_cons_succ]
        refine wpAnyH_take (i := 6) (oi := _) (v := ?_) (by rw [List.getElem?_toArray]; rfl) (by kernel_rfl) (by kernel_rfl) (by kernel_rfl) (by exact fun _ _ _ h => h) (Or.inl ⟨by rfl, ?_⟩) (by assumption) ?_
        rotate_left
        · intro w hSw
          try simp only [Cells, blk, List.cons_append, List.nil_append, and_true, Nat.reduceAdd, Nat.add_zero, Nat.zero_add] at hSw
          go_simp
          try with_reducible rfl
        simp only [Act.put, List.setIfInBounds_toArray, List.set_cons_zero, List.set_cons_succ]
        refine wpAnyH_take (i := 7) (oi := _) (v := ?_) (by rw [List.getElem?_toArray]; rfl) (by kernel_rfl) (by kernel_rfl) (by kernel_rfl) (by exact fun _ _ _ h => h) (Or.inl ⟨by rfl, ?_⟩) (by assumption) ?_
        rotate_left
        · intro w hSw
          try simp only [Cells, blk, List.cons_append, List.nil_append, and_true, Nat.reduceAdd, Nat.add_zero, Nat.zero_add] at hSw
          go_simp
          try with_reducible rfl
        simp only [Act.put, List.setIfInBounds_toArray, List.set_cons_zero, List.set_cons_succ]
        refine wpAnyH_ready (rs := [9]) (by kernel_rfl) (by simp) (AllReadyH.cons (o := _) (by rw [List.getElem?_toArray]; rfl) (fun K hK => ?_) AllReadyH.nil)
        go_simp
        generalize hX : World.setCell _ _ _ = w9
        obtain ⟨h9, hg9⟩ := set6 h8 hX
        clear hX
        refine hK.out _ _ (⟨hHeld.1.grown hg9 (by have := hHeld.2.1; omega) (fun q hq => by have := hi8; simp at hq; omega), Nat.le_trans hHeld.2.1 hg9.size, hHeld.2.2.grown hg9 (fun x hx => by have := hi8; simp [blk] at hx; rcases hx with rfl | rfl | rfl | rfl | rfl <;> (simp; omega))⟩) (fun hHeld2 => ?_)
        replace hHeld := hHeld2
        clear hK K hHeld2
        try simp only [Act.put, List.setIfInBounds_toArray, List.set_cons_zero, List.set_cons_succ]
        have hz := hHeld.2.1
        refine wpAnyH_take (i := 10) (oi := _) (v := ?_) (by rw [List.getElem?_toArray]; rfl) (by kernel_rfl) (by kernel_rfl) (by kernel_rfl) (by exact fun _ _ _ h => h) (Or.inl ⟨by rfl, ?_⟩) (by assumption) ?_
        rotate_left
        · intro w hSw
          try simp only [Cells, blk, List.cons_append, List.nil_append, and_true, Nat.reduceAdd, Nat.add_zero, Nat.zero_add] at hSw
          go_simp
          try with_reducible rfl
        simp only [Act.put, List.setIfInBounds_toArray, List.set_cons_zero, List.set_cons_succ]
        refine wpAnyH_done (by kernel_rfl) ?_ _
        go_wp2_with fail
        go_meet
        exact ⟨_, _, _, rfl, rfl, h9, hHeld.1⟩
      · go_simp
        generalize hX : World.alloc _ (.cells _ 24) = w2
        obtain ⟨h2, hB2, h2z⟩ := alloc_named hX
        clear hX h2z
        have htx := txs_one h2 (HBY.out.below (hHeld.1.trans (hB2.mono (by have := hHeld.2.1; omega))))
        refine hK.out _ _ (⟨hHeld.1.trans (hB2.mono (by have := hHeld.2.1; omega)), Nat.le_trans hHeld.2.1 hB2.size, hHeld.2.2.keep hB2⟩) (fun hHeld2 => ?_)
        replace hHeld := hHeld2
        clear hK K hHeld2
        try simp only [Act.put, List.setIfInBounds_toArray, List.set_cons_zero, List.set_cons_succ]
        have hz := hHeld.2.1
        try replace hlv := hlv.below hB2
        try replace h8 := (hB2.block _ (by have := h8s; omega)).trans h8
        try replace h8s := Nat.le_trans h8s hB2.size
        refine wpAnyH_ready (rs := [0]) (by kernel_rfl) (by simp) (AllReadyH.cons (o := _) (by rw [List.getElem?_toArray]; rfl) (fun K hK => ?_) AllReadyH.nil)
        go_simp
        go_at_call 32
        refine (pair_any _).mono ?_
        rintro e w0 ⟨lv, rfl, hlv, hB0⟩
        refine hK.out _ _ (⟨hHeld.1.trans (hB0.mono (by have := hHeld.2.1; omega)), Nat.le_trans hHeld.2.1 hB0.size, hHeld.2.2.keep hB0⟩) (fun hHeld2 => ?_)
        replace hHeld := hHeld2
        clear hK K hHeld2
        try simp only [Act.put, List.setIfInBounds_toArray, List.set_cons_zero, List.set_cons_succ]
        have hz := hHeld.2.1
        try replace htx := htx.below hB0
        try replace h8 := (hB0.block _ (by have := h8s; omega)).trans h8
        try replace h8s := Nat.le_trans h8s hB0.size
        refine wpAnyH_ready (rs := [4]) (by kernel_rfl) (by simp) (AllReadyH.cons (o := _) (by rw [List.getElem?_toArray]; rfl) (fun K hK => ?_) AllReadyH.nil)
        go_simp
        go_at_call 26
        refine (hear_one lv _ _ hlv htx).mono ?_
        rintro e w4 ⟨xa, xc, rfl, hB4⟩
        try replace h8 := (hB4.block _ (by have := h8s; omega)).trans h8
        try replace h8s := Nat.le_trans h8s hB4.size
        refine hK.out _ _ (⟨hHeld.1.trans (hB4.mono (by have := hHeld.2.1; omega)), Nat.le_trans hHeld.2.1 hB4.size, hHeld.2.2.keep hB4⟩) (fun hHeld2 => ?_)
        replace hHeld := hHeld2
        clear hK K hHeld2
        try simp only [Act.put, List.setIfInBounds_toArray, List.set_cons_zero, List.set_cons_succ]
        have hz := hHeld.2.1
        try have f0 := cell_of_row _ _ 0 _ _ _ h8
        try have f1 := cell_of_row _ _ 1 _ _ _ h8
        try have f2 := cell_of_row _ _ 2 _ _ _ h8
        try have f3 := cell_of_row _ _ 3 _ _ _ h8
        try have f4 := cell_of_row _ _ 4 _ _ _ h8
        try have f5 := cell_of_row _ _ 5 _ _ _ h8
        try have z0 := frozen_of_row _ _ 0 _ _ h8
        try have z1 := frozen_of_row _ _ 1 _ _ h8
        try have z2 := frozen_of_row _ _ 2 _ _ h8
        try have z3 := frozen_of_row _ _ 3 _ _ h8
        try have z4 := frozen_of_row _ _ 4 _ _ h8
        try have z5 := frozen_of_row _ _ 5 _ _ h8
        try simp at f0 f1 f2 f3 f4 f5
        refine wpAnyH_take (i := 5) (oi := _) (v := ?_) (by rw [List.getElem?_toArray]; rfl) (by kernel_rfl) (by kernel_rfl) (by kernel_rfl) (by exact fun _ _ _ h => h) (Or.inl ⟨by rfl, ?_⟩) (by assumption) ?_
        rotate_left
        · intro w hSw
          try simp only [Cells, blk, List.cons_append, List.nil_append, and_true, Nat.reduceAdd, Nat.add_zero, Nat.zero_add] at hSw
          go_simp
          try with_reducible rfl
        simp only [Act.put, List.setIfInBounds_toArray, List.set_cons_zero, List.set_cons_succ]
        refine wpAnyH_take (i := 6) (oi := _) (v := ?_) (by rw [List.getElem?_toArray]; rfl) (by kernel_rfl) (by kernel_rfl) (by kernel_rfl) (by exact fun _ _ _ h => h) (Or.inl ⟨by rfl, ?_⟩) (by assumption) ?_
        rotate_left
        · intro w hSw
          try simp only [Cells, blk, List.cons_append, List.nil_append, and_true, Nat.reduceAdd, Nat.add_zero, Nat.zero_add] at hSw
          go_simp
          try with_reducible rfl
        simp only [Act.put, List.setIfInBounds_toArray, List.set_cons_zero, List.set_cons_succ]
        refine wpAnyH_take (i := 7) (oi := _) (v := ?_) (by rw [List.getElem?_toArray]; rfl) (by kernel_rfl) (by kernel_rfl) (by kernel_rfl) (by exact fun _ _ _ h => h) (Or.inl ⟨by rfl, ?_⟩) (by assumption) ?_
        rotate_left
        · intro w hSw
          try simp only [Cells, blk, List.cons_append, List.nil_append, and_true, Nat.reduceAdd, Nat.add_zero, Nat.zero_add] at hSw
          go_simp
          try with_reducible rfl
        simp only [Act.put, List.setIfInBounds_toArray, List.set_cons_zero, List.set_cons_succ]
        refine wpAnyH_ready (rs := [9]) (by kernel_rfl) (by simp) (AllReadyH.cons (o := _) (by rw [List.getElem?_toArray]; rfl) (fun K hK => ?_) AllReadyH.nil)
        go_simp
        generalize hX : World.setCell _ _ _ = w9
        obtain ⟨h9, hg9⟩ := set6 h8 hX
        clear hX
        refine hK.out _ _ (⟨hHeld.1.grown hg9 (by have := hHeld.2.1; omega) (fun q hq => by have := hi8; simp at hq; omega), Nat.le_trans hHeld.2.1 hg9.size, hHeld.2.2.grown hg9 (fun x hx => by have := hi8; simp [blk] at hx; rcases hx with rfl | rfl | rfl | rfl | rfl <;> (simp; omega))⟩) (fun hHeld2 => ?_)
        replace hHeld := hHeld2
        clear hK K hHeld2
        try simp only [Act.put, List.setIfInBounds_toArray, List.set_cons_zero, List.set_cons_succ]
        have hz := hHeld.2.1
        refine wpAnyH_take (i := 10) (oi := _) (v := ?_) (by rw [List.getElem?_toArray]; rfl) (by kernel_rfl) (by kernel_rfl) (by kernel_rfl) (by exact fun _ _ _ h => h) (Or.inl ⟨by rfl, ?_⟩) (by assumption) ?_
        rotate_left
        · intro w hSw
          try simp only [Cells, blk, List.cons_append, List.nil_append, and_true, Nat.reduceAdd, Nat.add_zero, Nat.zero_add] at hSw
          go_simp
          try with_reducible rfl
        simp only [Act.put, List.setIfInBounds_toArray, List.set_cons_zero, List.set_cons_succ]
        refine wpAnyH_done (by kernel_rfl) ?_ _
        go_wp2_with fail
        go_meet
        exact ⟨_, _, _, rfl, rfl, h9, hHeld.1⟩
  case rest =>
  obtain ⟨i, ya, yc, rfl, rfl, hi, hB1⟩ := hcut
  rename World => V
  have hsV : w.heap.size + 2 ≤ V.heap.size := Nat.le_trans hsz hB1.size
  have T1 := T0.keep hB1
  have HBV : Hid (BytesAt V (.slice (some ⟨w.heap.size, 0, none⟩) tx0.bs.length 10) tx0.bs) := HBY.out.below hB1
  go_upto_region 3 with fail
  go_cut [4, 5] (fun p ok wx => ok = .bool false ∧ Below V.heap.size V wx)
  case first =>
    refine wp_region_held_drew (S := (fun W' : World => Below V.heap.size V W' ∧ V.heap.size ≤ W'.heap.size ∧ Cells W' (blk (w.heap.size + 1) 0 0 [.int .i64 4, .int .i64 0, .int .i64 5, .int .i64 100, .slice (some ⟨w.heap.size, 0, none⟩) 10 10]))) (by kernel_rfl) (⟨(Below.refl _ _).drew, Nat.le_refl _, T1.drew⟩) (fun hHeld => ?_)
    generalize World.drew _ = wd at hHeld ⊢
    have hz := hHeld.2.1
    refine wpAnyH_take (i := 1) (oi := _) (v := ?_) (by rw [List.getElem?_toArray]; rfl) (by kernel_rfl) (by kernel_rfl) (by kernel_rfl) (by exact fun _ _ _ h => h) (Or.inl ⟨by rfl, ?_⟩) (by assumption) ?_
    rotate_left
    · intro w hSw
      try simp only [Cells, blk, List.cons_append, List.nil_append, and_true, Nat.reduceAdd, Nat.add_zero, Nat.zero_add] at hSw
      go_simp
      try with_reducible rfl
    simp only [Act.put, List.setIfInBounds_toArray, List.set_cons_zero, List.set_cons_succ]
    refine wpAnyH_take (i := 3) (oi := _) (v := ?_) (by rw [List.getElem?_toArray]; rfl) (by kernel_rfl) (by kernel_rfl) (by kernel_rfl) (by exact fun _ _ _ h => h) (Or.inl ⟨by rfl, ?_⟩) (by assumption) ?_
    rotate_left
    · intro w hSw
      try simp only [Cells, blk, List.cons_append, List.nil_append, and_true, Nat.reduceAdd, Nat.add_zero, Nat.zero_add] at hSw
      go_simp
      try with_reducible rfl
    simp only [Act.put, List.setIfInBounds_toArray, List.set_cons_zero, List.set_cons_succ]
    refine wpAnyH_ready (rs := [0, 2, 8]) (by kernel_rfl) (by simp) (AllReadyH.cons (o := _) (by rw [List.getElem?_toArray]; rfl) (fun K hK => ?_) (AllReadyH.cons (o := _) (by rw [List.getElem?_toArray]; rfl) (fun K hK => ?_) (AllReadyH.cons (o := _) (by rw [List.getElem?_toArray]; rfl) (fun K hK => ?_) AllReadyH.nil)))
    · go_simp
      go_at_call 32
      refine (pair_any _).mono ?_
      rintro e w0 ⟨lv, rfl, hlv, hB0⟩
      refine hK.out _ _ (⟨hHeld.1.trans (hB0.mono (by have := hHeld.2.1; omega)), Nat.le_trans hHeld.2.1 hB0.size, hHeld.2.2.keep hB0⟩) (fun hHeld2 => ?_)
      replace hHeld := hHeld2
      clear hK K hHeld2
      try simp only [Act.put, List.setIfInBounds_toArray, List.set_cons_zero, List.set_cons_succ]
      have hz := hHeld.2.1
      try replace htx := htx.below hB0
      try replace h8 := (hB0.block _ (by have := h8s; omega)).trans h8
      try replace h8s := Nat.le_trans h8s hB0.size
      refine wpAnyH_ready (rs := [2, 8]) (by kernel_rfl) (by simp) (AllReadyH.cons (o := _) (by rw [List.getElem?_toArray]; rfl) (fun K hK => ?_) (AllReadyH.cons (o := _) (by rw [List.getElem?_toArray]; rfl) (fun K hK => ?_) AllReadyH.nil))
      · go_simp
        generalize hX : World.alloc _ (.cells _ 24) = w2
        obtain ⟨h2, hB2, h2z⟩ := alloc_named hX
        clear hX h2z
        have htx := txs_one h2 (HBV.out.below (hHeld.1.trans (hB2.mono (by have := hHeld.2.1; omega))))
        refine hK.out _ _ (⟨hHeld.1.trans (hB2.mono (by have := hHeld.2.1; omega)), Nat.le_trans hHeld.2.1 hB2.size, hHeld.2.2.keep hB2⟩) (fun hHeld2 => ?_)
        replace hHeld := hHeld2
        clear hK K hHeld2
        try simp only [Act.put, List.setIfInBounds_toArray, List.set_cons_zero, List.set_cons_succ]
        have hz := hHeld.2.1
        try replace hlv := hlv.below hB2
        try replace h8 := (hB2.block _ (by have := h8s; omega)).trans h8
        try replace h8s := Nat.le_trans h8s hB2.size
        refine wpAnyH_ready (rs := [4, 8]) (by kernel_rfl) (by simp) (AllReadyH.cons (o := _) (by rw [List.getElem?_toArray]; rfl) (fun K hK => ?_) (AllReadyH.cons (o := _) (by rw [List.getElem?_toArray]; rfl) (fun K hK => ?_) AllReadyH.nil))
        · go_simp
          go_at_call 26
          refine (hear_none lv _ _ hlv htx).mono ?_
          rintro e w4 ⟨xa, xc, rfl, hB4⟩
          try replace h8 := (hB4.block _ (by have := h8s; omega)).trans h8
          try replace h8s := Nat.le_trans h8s hB4.size
          refine hK.out _ _ (⟨hHeld.1.trans (hB4.mono (by have := hHeld.2.1; omega)), Nat.le_trans hHeld.2.1 hB4.size, hHeld.2.2.keep hB4⟩) (fun hHeld2 => ?_)
          replace hHeld := hHeld2
          clear hK K hHeld2
          try simp only [Act.put, List.setIfInBounds_toArray, List.set_cons_zero, List.set_cons_succ]
          have hz := hHeld.2.1
          try have f0 := cell_of_row _ _ 0 _ _ _ h8
          try have f1 := cell_of_row _ _ 1 _ _ _ h8
          try have f2 := cell_of_row _ _ 2 _ _ _ h8
          try have f3 := cell_of_row _ _ 3 _ _ _ h8
          try have f4 := cell_of_row _ _ 4 _ _ _ h8
          try have f5 := cell_of_row _ _ 5 _ _ _ h8
          try have z0 := frozen_of_row _ _ 0 _ _ h8
          try have z1 := frozen_of_row _ _ 1 _ _ h8
          try have z2 := frozen_of_row _ _ 2 _ _ h8
          try have z3 := frozen_of_row _ _ 3 _ _ h8
          try have z4 := frozen_of_row _ _ 4 _ _ h8
          try have z5 := frozen_of_row _ _ 5 _ _ h8
          try simp at f0 f1 f2 f3 f4 f5
          refine wpAnyH_take (i := 5) (oi := _) (v := ?_) (by rw [List.getElem?_toArray]; rfl) (by kernel_rfl) (by kernel_rfl) (by kernel_rfl) (by exact fun _ _ _ h => h) (Or.inl ⟨by rfl, ?_⟩) (by assumption) ?_
          rotate_left
          · intro w hSw
            try simp only [Cells, blk, List.cons_append, List.nil_append, and_true, Nat.reduceAdd, Nat.add_zero, Nat.zero_add] at hSw
            go_simp
            try with_reducible rfl
          simp only [Act.put, List.setIfInBounds_toArray, List.set_cons_zero, List.set_cons_succ]
          refine wpAnyH_take (i := 6) (oi := _) (v := ?_) (by rw [List.getElem?_toArray]; rfl) (by kernel_rfl) (by kernel_rfl) (by kernel_rfl) (by exact fun _ _ _ h => h) (Or.inl ⟨by rfl, ?_⟩) (by assumption) ?_
          rotate_left
          · intro w hSw
            try simp only [Cells, blk, List.cons_append, List.nil_append, and_true, Nat.reduceAdd, Nat.add_zero, Nat.zero_add] at hSw
            go_simp
            try with_reducible rfl
          simp only [Act.put, List.setIfInBounds_toArray, List.set_cons_zero, List.set_cons_succ]
          refine wpAnyH_take (i := 7) (oi := _) (v := ?_) (by rw [List.getElem?_toArray]; rfl) (by kernel_rfl) (by kernel_rfl) (by kernel_rfl) (by exact fun _ _ _ h => h) (Or.inl ⟨by rfl, ?_⟩) (by assumption) ?_
          rotate_left
          · intro w hSw
            try simp only [Cells, blk, List.cons_append, List.nil_append, and_true, Nat.reduceAdd, Nat.add_zero, Nat.zero_add] at hSw
            go_simp
            try with_reducible rfl
          simp only [Act.put, List.setIfInBounds_toArray, List.set_cons_zero, List.set_cons_succ]
          refine wpAnyH_ready (rs := [8]) (by kernel_rfl) (by simp) (AllReadyH.cons (o := _) (by rw [List.getElem?_toArray]; rfl) (fun K hK => ?_) AllReadyH.nil)
          go_simp
          generalize hX : World.alloc _ (.cells _ 47) = w8
          obtain ⟨h8, hB8, h8z⟩ := alloc_named hX
          clear hX
          refine hK.out _ _ (⟨hHeld.1.trans (hB8.mono (by have := hHeld.2.1; omega)), Nat.le_trans hHeld.2.1 hB8.size, hHeld.2.2.keep hB8⟩) (fun hHeld2 => ?_)
          replace hHeld := hHeld2
          clear hK K hHeld2
          try simp only [Act.put, List.setIfInBounds_toArray, List.set_cons_zero, List.set_cons_succ]
          have h8s := Nat.le_of_eq h8z.symm
          clear h8z
          have hi8 := hz
          have hz := hHeld.2.1
          try replace hlv := hlv.below hB8
          try replace htx := htx.below hB8
          try have f0 := cell_of_row _ _ 0 _ _ _ h8
          try have f1 := cell_of_row _ _ 1 _ _ _ h8
          try have f2 := cell_of_row _ _ 2 _ _ _ h8
          try have f3 := cell_of_row _ _ 3 _ _ _ h8
          try have f4 := cell_of_row _ _ 4 _ _ _ h8
          try have f5 := cell_of_row _ _ 5 _ _ _ h8
          try have z0 := frozen_of_row _ _ 0 _ _ h8
          try have z1 := frozen_of_row _ _ 1 _ _ h8
          try have z2 := frozen_of_row _ _ 2 _ _ h8
          try have z3 := frozen_of_row _ _ 3 _ _ h8
          try have z4 := frozen_of_row _ _ 4 _ _ h8
          try have z5 := frozen_of_row _ _ 5 _ _ h8
          try simp at f0 f1 f2 f3 f4 f5
          refine wpAnyH_ready (rs := [9]) (by kernel_rfl) (by simp) (AllReadyH.cons (o := _) (by rw [List.getElem?_toArray]; rfl) (fun K hK => ?_) AllReadyH.nil)
          go_simp
          generalize hX : World.setCell _ _ _ = w9
          obtain ⟨h9, hg9⟩ := set6 h8 hX
          clear hX
          refine hK.out _ _ (⟨hHeld.1.grown hg9 (by have := hHeld.2.1; omega) (fun q hq => by have := hi8; simp at hq; omega), Nat.le_trans hHeld.2.1 hg9.size, hHeld.2.2.grown hg9 (fun x hx => by have := hi8; simp [blk] at hx; rcases hx with rfl | rfl | rfl | rfl | rfl <;> (simp; omega))⟩) (fun hHeld2 => ?_)
          replace hHeld := hHeld2
          clear hK K hHeld2
          try simp only [Act.put, List.setIfInBounds_toArray, List.set_cons_zero, List.set_cons_succ]
          have hz := hHeld.2.1
          refine wpAnyH_take (i := 10) (oi := _) (v := ?_) (by rw [List.getElem?_toArray]; rfl) (by kernel_rfl) (by kernel_rfl) (by kernel_rfl) (by exact fun _ _ _ h => h) (Or.inl ⟨by rfl, ?_⟩) (by assumption) ?_
          rotate_left
          · intro w hSw
            try simp only [Cells, blk, List.cons_append, List.nil_append, and_true, Nat.reduceAdd, Nat.add_zero, Nat.zero_add] at hSw
            go_simp
            try with_reducible rfl
          simp only [Act.put, List.setIfInBounds_toArray, List.set_cons_zero, List.set_cons_succ]
          refine wpAnyH_done (by kernel_rfl) ?_ _
          go_wp2_with fail
          go_meet
          exact ⟨rfl, hHeld.1⟩
        · go_simp
          generalize hX : World.alloc _ (.cells _ 47) = w8
          obtain ⟨h8, hB8, h8z⟩ := alloc_named hX
          clear hX
          refine hK.out _ _ (⟨hHeld.1.trans (hB8.mono (by have := hHeld.2.1; omega)), Nat.le_trans hHeld.2.1 hB8.size, hHeld.2.2.keep hB8⟩) (fun hHeld2 => ?_)
          replace hHeld := hHeld2
          clear hK K hHeld2
          try simp only [Act.put, List.setIfInBounds_toArray, List.set_cons_zero, List.set_cons_succ]
          have h8s := Nat.le_of_eq h8z.symm
          clear h8z
          have hi8 := hz
          have hz := hHeld.2.1
          try replace hlv := hlv.below hB8
          try replace htx := htx.below hB8
          try have f0 := cell_of_row _ _ 0 _ _ _ h8
          try have f1 := cell_of_row _ _ 1 _ _ _ h8
          try have f2 := cell_of_row _ _ 2 _ _ _ h8
          try have f3 := cell_of_row _ _ 3 _ _ _ h8
          try have f4 := cell_of_row _ _ 4 _ _ _ h8
          try have f5 := cell_of_row _ _ 5 _ _ _ h8
          try have z0 := frozen_of_row _ _ 0 _ _ h8
          try have z1 := frozen_of_row _ _ 1 _ _ h8
          try have z2 := frozen_of_row _ _ 2 _ _ h8
          try have z3 := frozen_of_row _ _ 3 _ _ h8
          try have z4 := frozen_of_row _ _ 4 _ _ h8
          try have z5 := frozen_of_row _ _ 5 _ _ h8
          try simp at f0 f1 f2 f3 f4 f5
          refine wpAnyH_ready (rs := [4]) (by kernel_rfl) (by simp) (AllReadyH.cons (o := _) (by rw [List.getElem?_toArray]; rfl) (fun K hK => ?_) AllReadyH.nil)
          go_simp
          go_at_call 26
          refine (hear_none lv _ _ hlv htx).mono ?_
          rintro e w4 ⟨xa, xc, rfl, hB4⟩
          try replace h8 := (hB4.block _ (by have := h8s; omega)).trans h8
          try replace h8s := Nat.le_trans h8s hB4.size
          refine hK.out _ _ (⟨hHeld.1.trans (hB4.mono (by have := hHeld.2.1; omega)), Nat.le_trans hHeld.2.1 hB4.size, hHeld.2.2.keep hB4⟩) (fun hHeld2 => ?_)
          replace hHeld := hHeld2
          clear hK K hHeld2
          try simp only [Act.put, List.setIfInBounds_toArray, List.set_cons_zero, List.set_cons_succ]
          have hz := hHeld.2.1
          try have f0 := cell_of_row _ _ 0 _ _ _ h8
          try have f1 := cell_of_row _ _ 1 _ _ _ h8
          try have f2 := cell_of_row _ _ 2 _ _ _ h8
          try have f3 := cell_of_row _ _ 3 _ _ _ h8
          try have f4 := cell_of_row _ _ 4 _ _ _ h8
          try have f5 := cell_of_row _ _ 5 _ _ _ h8
          try have z0 := frozen_of_row _ _ 0 _ _ h8
          try have z1 := frozen_of_row _ _ 1 _ _ h8
          try have z2 := frozen_of_row _ _ 2 _ _ h8
          try have z3 := frozen_of_row _ _ 3 _ _ h8
          try have z4 := frozen_of_row _ _ 4 _ _ h8
          try have z5 := frozen_of_row _ _ 5 _ _ h8
          try simp at f0 f1 f2 f3 f4 f5
          refine wpAnyH_take (i := 5) (oi := _) (v := ?_) (by rw [List.getElem?_toArray]; rfl) (by kernel_rfl) (by kernel_rfl) (by kernel_rfl) (by exact fun _ _ _ h => h) (Or.inl ⟨by rfl, ?_⟩) (by assumption) ?_
          rotate_left
          · intro w hSw
            try simp only [Cells, blk, List.cons_append, List.nil_append, and_true, Nat.reduceAdd, Nat.add_zero, Nat.zero_add] at hSw
            go_simp
            try with_reducible rfl
          simp only [Act.put, List.setIfInBounds_toArray, List.set_cons_zero, List.set_cons_succ]
          refine wpAnyH_take (i := 6) (oi := _) (v := ?_) (by rw [List.getElem?_toArray]; rfl) (by kernel_rfl) (by kernel_rfl) (by kernel_rfl) (by exact fun _ _ _ h => h) (Or.inl ⟨by rfl, ?_⟩) (by assumption) ?_
          rotate_left
          · intro w hSw
            try simp only [Cells, blk, List.cons_append, List.nil_append, and_true, Nat.reduceAdd, Nat.add_zero, Nat.zero_add] at hSw
            go_simp
            try with_reducible rfl
          simp only [Act.put, List.setIfInBounds_toArray, List.set_cons_zero, List.set_cons_succ]
          refine wpAnyH_take (i := 7) (oi := _) (v := ?_) (by rw [List.getElem?_toArray]; rfl) (by kernel_rfl) (by kernel_rfl) (by kernel_rfl) (by exact fun _ _ _ h => h) (Or.inl ⟨by rfl, ?_⟩) (by assumption) ?_
          rotate_left
          · intro w hSw
            try simp only [Cells, blk, List.cons_append, List.nil_append, and_true, Nat.reduceAdd, Nat.add_zero, Nat.zero_add] at hSw
            go_simp
            try with_reducible rfl
          simp only [Act.put, List.setIfInBounds_toArray, List.set_cons_zero, List.set_cons_succ]
          refine wpAnyH_ready (rs := [9]) (by kernel_rfl) (by simp) (AllReadyH.cons (o := _) (by rw [List.getElem?_toArray]; rfl) (fun K hK => ?_) AllReadyH.nil)
          go_simp
          generalize hX : World.setCell _ _ _ = w9
          obtain ⟨h9, hg9⟩ := set6 h8 hX
          clear hX
          refine hK.out _ _ (⟨hHeld.1.grown hg9 (by have := hHeld.2.1; omega) (fun q hq => by have := hi8; simp at hq; omega), Nat.le_trans hHeld.2.1 hg9.size, hHeld.2.2.grown hg9 (fun x hx => by have := hi8; simp [blk] at hx; rcases hx with rfl | rfl | rfl | rfl | rfl <;> (simp; omega))⟩) (fun hHeld2 => ?_)
          replace hHeld := hHeld2
          clear hK K hHeld2
          try simp only [Act.put, List.setIfInBounds_toArray, List.set_cons_zero, List.set_cons_succ]
          have hz := hHeld.2.1
          refine wpAnyH_take (i := 10) (oi := _) (v := ?_) (by rw [List.getElem?_toArray]; rfl) (by kernel_rfl) (by kernel_rfl) (by kernel_rfl) (by exact fun _ _ _ h => h) (Or.inl ⟨by rfl, ?_⟩) (by assumption) ?_
          rotate_left
          · intro w hSw
            try simp only [Cells, blk, List.cons_append, List.nil_append, and_true, Nat.reduceAdd, Nat.add_zero, Nat.zero_add] at hSw
            go_simp
            try with_reducible rfl
          simp only [Act.put, List.setIfInBounds_toArray, List.set_cons_zero, List.set_cons_succ]
          refine wpAnyH_done (by kernel_rfl) ?_ _
          go_wp2_with fail
          go_meet
          exact ⟨rfl, hHeld.1⟩
      · go_simp
        generalize hX : World.alloc _ (.cells _ 47) = w8
        obtain ⟨h8, hB8, h8z⟩ := alloc_named hX
        clear hX
        refine hK.out _ _ (⟨hHeld.1.trans (hB8.mono (by have := hHeld.2.1; omega)), Nat.le_trans hHeld.2.1 hB8.size, hHeld.2.2.keep hB8⟩) (fun hHeld2 => ?_)
        replace hHeld := hHeld2
        clear hK K hHeld2
        try simp only [Act.put, List.setIfInBounds_toArray, List.set_cons_zero, List.set_cons_succ]
        have h8s := Nat.le_of_eq h8z.symm
        clear h8z
        have hi8 := hz
        have hz := hHeld.2.1
        try replace hlv := hlv.below hB8
        try replace htx := htx.below hB8
        try have f0 := cell_of_row _ _ 0 _ _ _ h8
        try have f1 := cell_of_row _ _ 1 _ _ _ h8
        try have f2 := cell_of_row _ _ 2 _ _ _ h8
        try have f3 := cell_of_row _ _ 3 _ _ _ h8
        try have f4 := cell_of_row _ _ 4 _ _ _ h8
        try have f5 := cell_of_row _ _ 5 _ _ _ h8
        try have z0 := frozen_of_row _ _ 0 _ _ h8
        try have z1 := frozen_of_row _ _ 1 _ _ h8
        try have z2 := frozen_of_row _ _ 2 _ _ h8
        try have z3 := frozen_of_row _ _ 3 _ _ h8
        try have z4 := frozen_of_row _ _ 4 _ _ h8
        try have z5 := frozen_of_row _ _ 5 _ _ h8
        try simp at f0 f1 f2 f3 f4 f5
        refine wpAnyH_ready (rs := [2]) (by kernel_rfl) (by simp) (AllReadyH.cons (o := _) (by rw [List.getElem?_toArray]; rfl) (fun K hK => ?_) AllReadyH.nil)
        go_simp
        generalize hX : World.alloc _ (.cells _ 24) = w2
        obtain ⟨h2, hB2, h2z⟩ := alloc_named hX
        clear hX h2z
        have htx := txs_one h2 (HBV.out.below (hHeld.1.trans (hB2.mono (by have := hHeld.2.1; omega))))
        refine hK.out _ _ (⟨hHeld.1.trans (hB2.mono (by have := hHeld.2.1; omega)), Nat.le_trans hHeld.2.1 hB2.size, hHeld.2.2.keep hB2⟩) (fun hHeld2 => ?_)
        replace hHeld := hHeld2
        clear hK K hHeld2
        try simp only [Act.put, List.setIfInBounds_toArray, List.set_cons_zero, List.set_cons_succ]
        have hz := hHeld.2.1
        try replace hlv := hlv.below hB2
        try replace h8 := (hB2.block _ (by have := h8s; omega)).trans h8
        try replace h8s := Nat.le_trans h8s hB2.size
        refine wpAnyH_ready (rs := [4]) (by kernel_rfl) (by simp) (AllReadyH.cons (o := _) (by rw [List.getElem?_toArray]; rfl) (fun K hK => ?_) AllReadyH.nil)
        go_simp
        go_at_call 26
        refine (hear_none lv _ _ hlv htx).mono ?_
        rintro e w4 ⟨xa, xc, rfl, hB4⟩
        try replace h8 := (hB4.block _ (by have := h8s; omega)).trans h8
        try replace h8s := Nat.le_trans h8s hB4.size
        refine hK.out _ _ (⟨hHeld.1.trans (hB4.mono (by have := hHeld.2.1; omega)), Nat.le_trans hHeld.2.1 hB4.size, hHeld.2.2.keep hB4⟩) (fun hHeld2 => ?_)
        replace hHeld := hHeld2
        clear hK K hHeld2
        try simp only [Act.put, List.setIfInBounds_toArray, List.set_cons_zero, List.set_cons_succ]
        have hz := hHeld.2.1
        try have f0 := cell_of_row _ _ 0 _ _ _ h8
        try have f1 := cell_of_row _ _ 1 _ _ _ h8
        try have f2 := cell_of_row _ _ 2 _ _ _ h8
        try have f3 := cell_of_row _ _ 3 _ _ _ h8
        try have f4 := cell_of_row _ _ 4 _ _ _ h8
        try have f5 := cell_of_row _ _ 5 _ _ _ h8
        try have z0 := frozen_of_row _ _ 0 _ _ h8
        try have z1 := frozen_of_row _ _ 1 _ _ h8
        try have z2 := frozen_of_row _ _ 2 _ _ h8
        try have z3 := frozen_of_row _ _ 3 _ _ h8
        try have z4 := frozen_of_row _ _ 4 _ _ h8
        try have z5 := frozen_of_row _ _ 5 _ _ h8
        try simp at f0 f1 f2 f3 f4 f5
        refine wpAnyH_take (i := 5) (oi := _) (v := ?_) (by rw [List.getElem?_toArray]; rfl) (by kernel_rfl) (by kernel_rfl) (by kernel_rfl) (by exact fun _ _ _ h => h) (Or.inl ⟨by rfl, ?_⟩) (by assumption) ?_
        rotate_left
        · intro w hSw
          try simp only [Cells, blk, List.cons_append, List.nil_append, and_true, Nat.reduceAdd, Nat.add_zero, Nat.zero_add] at hSw
          go_simp
          try with_reducible rfl
        simp only [Act.put, List.setIfInBounds_toArray, List.set_cons_zero, List.set_cons_succ]
        refine wpAnyH_take (i := 6) (oi := _) (v := ?_) (by rw [List.getElem?_toArray]; rfl) (by kernel_rfl) (by kernel_rfl) (by kernel_rfl) (by exact fun _ _ _ h => h) (Or.inl ⟨by rfl, ?_⟩) (by assumption) ?_
        rotate_left
        · intro w hSw
          try simp only [Cells, blk, List.cons_append, List.nil_append, and_true, Nat.reduceAdd, Nat.add_zero, Nat.zero_add] at hSw
          go_simp
          try with_reducible rfl
        simp only [Act.put, List.setIfInBounds_toArray, List.set_cons_zero, List.set_cons_succ]
        refine wpAnyH_take (i := 7) (oi := _) (v := ?_) (by rw [List.getElem?_toArray]; rfl) (by kernel_rfl) (by kernel_rfl) (by kernel_rfl) (by exact fun _ _ _ h => h) (Or.inl ⟨by rfl, ?_⟩) (by assumption) ?_
        rotate_left
        · intro w hSw
          try simp only [Cells, blk, List.cons_append, List.nil_append, and_true, Nat.reduceAdd, Nat.add_zero, Nat.zero_add] at hSw
          go_simp
          try with_reducible rfl
        simp only [Act.put, List.setIfInBounds_toArray, List.set_cons_zero, List.set_cons_succ]
        refine wpAnyH_ready (rs := [9]) (by kernel_rfl) (by simp) (AllReadyH.cons (o := _) (by rw [List.getElem?_toArray]; rfl) (fun K hK => ?_) AllReadyH.nil)
        go_simp
        generalize hX : World.setCell _ _ _ = w9
        obtain ⟨h9, hg9⟩ := set6 h8 hX
        clear hX
        refine hK.out _ _ (⟨hHeld.1.grown hg9 (by have := hHeld.2.1; omega) (fun q hq => by have := hi8; simp at hq; omega), Nat.le_trans hHeld.2.1 hg9.size, hHeld.2.2.grown hg9 (fun x hx => by have := hi8; simp [blk] at hx; rcases hx with rfl | rfl | rfl | rfl | rfl <;> (simp; omega))⟩) (fun hHeld2 => ?_)
        replace hHeld := hHeld2
        clear hK K hHeld2
        try simp only [Act.put, List.setIfInBounds_toArray, List.set_cons_zero, List.set_cons_succ]
        have hz := hHeld.2.1
        refine wpAnyH_take (i := 10) (oi := _) (v := ?_) (by rw [List.getElem?_toArray]; rfl) (by kernel_rfl) (by kernel_rfl) (by kernel_rfl) (by exact fun _ _ _ h => h) (Or.inl ⟨by rfl, ?_⟩) (by assumption) ?_
        rotate_left
        · intro w hSw
          try simp only [Cells, blk, List.cons_append, List.nil_append, and_true, Nat.reduceAdd, Nat.add_zero, Nat.zero_add] at hSw
          go_simp
          try with_reducible rfl
        simp only [Act.put, List.setIfInBounds_toArray, List.set_cons_zero, List.set_cons_succ]
        refine wpAnyH_done (by kernel_rfl) ?_ _
        go_wp2_with fail
        go_meet
        exact ⟨rfl, hHeld.1⟩
    · go_simp
      generalize hX : World.alloc _ (.cells _ 24) = w2
      obtain ⟨h2, hB2, h2z⟩ := alloc_named hX
      clear hX h2z
      have htx := txs_one h2 (HBV.out.below (hHeld.1.trans (hB2.mono (by have := hHeld.2.1; omega))))
      refine hK.out _ _ (⟨hHeld.1.trans (hB2.mono (by have := hHeld.2.1; omega)), Nat.le_trans hHeld.2.1 hB2.size, hHeld.2.2.keep hB2⟩) (fun hHeld2 => ?_)
      replace hHeld := hHeld2
      clear hK K hHeld2
      try simp only [Act.put, List.setIfInBounds_toArray, List.set_cons_zero, List.set_cons_succ]
      have hz := hHeld.2.1
      try replace hlv := hlv.below hB2
      try replace h8 := (hB2.block _ (by have := h8s; omega)).trans h8
      try replace h8s := Nat.le_trans h8s hB2.size
      refine wpAnyH_ready (rs := [0, 8]) (by kernel_rfl) (by simp) (AllReadyH.cons (o := _) (by rw [List.getElem?_toArray]; rfl) (fun K hK => ?_) (AllReadyH.cons (o := _) (by rw [List.getElem?_toArray]; rfl) (fun K hK => ?_) AllReadyH.nil))
      · go_simp
        go_at_call 32
        refine (pair_any _).mono ?_
        rintro e w0 ⟨lv, rfl, hlv, hB0⟩
        refine hK.out _ _ (⟨hHeld.1.trans (hB0.mono (by have := hHeld.2.1; omega)), Nat.le_trans hHeld.2.1 hB0.size, hHeld.2.2.keep hB0⟩) (fun hHeld2 => ?_)
        replace hHeld := hHeld2
        clear hK K hHeld2
        try simp only [Act.put, List.setIfInBounds_toArray, List.set_cons_zero, List.set_cons_succ]
        have hz := hHeld.2.1
        try replace htx := htx.below hB0
        try replace h8 := (hB0.block _ (by have := h8s; omega)).trans h8
        try replace h8s := Nat.le_trans h8s hB0.size
        refine wpAnyH_ready (rs := [4, 8]) (by kernel_rfl) (by simp) (AllReadyH.cons (o := _) (by rw [List.getElem?_toArray]; rfl) (fun K hK => ?_) (AllReadyH.cons (o := _) (by rw [List.getElem?_toArray]; rfl) (fun K hK => ?_) AllReadyH.nil))
        · go_simp
          go_at_call 26
          refine (hear_none lv _ _ hlv htx).mono ?_
          rintro e w4 ⟨xa, xc, rfl, hB4⟩
          try replace h8 := (hB4.block _ (by have := h8s; omega)).trans h8
          try replace h8s := Nat.le_trans h8s hB4.size
          refine hK.out _ _ (⟨hHeld.1.trans (hB4.mono (by have := hHeld.2.1; omega)), Nat.le_trans hHeld.2.1 hB4.size, hHeld.2.2.keep hB4⟩) (fun hHeld2 => ?_)
          replace hHeld := hHeld2
          clear hK K hHeld2
          try simp only [Act.put, List.setIfInBounds_toArray, List.set_cons_zero, List.set_cons_succ]
          have hz := hHeld.2.1
          try have f0 := cell_of_row _ _ 0 _ _ _ h8
          try have f1 := cell_of_row _ _ 1 _ _ _ h8
          try have f2 := cell_of_row _ _ 2 _ _ _ h8
          try have f3 := cell_of_row _ _ 3 _ _ _ h8
          try have f4 := cell_of_row _ _ 4 _ _ _ h8
          try have f5 := cell_of_row _ _ 5 _ _ _ h8
          try have z0 := frozen_of_row _ _ 0 _ _ h8
          try have z1 := frozen_of_row _ _ 1 _ _ h8
          try have z2 := frozen_of_row _ _ 2 _ _ h8
          try have z3 := frozen_of_row _ _ 3 _ _ h8
          try have z4 := frozen_of_row _ _ 4 _ _ h8
          try have z5 := frozen_of_row _ _ 5 _ _ h8
          try simp at f0 f1 f2 f3 f4 f5
          refine wpAnyH_take (i := 5) (oi := _) (v := ?_) (by rw [List.getElem?_toArray]; rfl) (by kernel_rfl) (by kernel_rfl) (by kernel_rfl) (by exact fun _ _ _ h => h) (Or.inl ⟨by rfl, ?_⟩) (by assumption) ?_
          rotate_left
          · intro w hSw
            try simp only [Cells, blk, List.cons_append, List.nil_append, and_true, Nat.reduceAdd, Nat.add_zero, Nat.zero_add] at hSw
            go_simp
            try with_reducible rfl
          simp only [Act.put, List.setIfInBounds_toArray, List.set_cons_zero, List.set_cons_succ]
          refine wpAnyH_take (i := 6) (oi := _) (v := ?_) (by rw [List.getElem?_toArray]; rfl) (by kernel_rfl) (by kernel_rfl) (by kernel_rfl) (by exact fun _ _ _ h => h) (Or.inl ⟨by rfl, ?_⟩) (by assumption) ?_
          rotate_left
          · intro w hSw
            try simp only [Cells, blk, List.cons_append, List.nil_append, and_true, Nat.reduceAdd, Nat.add_zero, Nat.zero_add] at hSw
            go_simp
            try with_reducible rfl
          simp only [Act.put, List.setIfInBounds_toArray, List.set_cons_zero, List.set_cons_succ]
          refine wpAnyH_take (i := 7) (oi := _) (v := ?_) (by rw [List.getElem?_toArray]; rfl) (by kernel_rfl) (by kernel_rfl) (by kernel_rfl) (by exact fun _ _ _ h => h) (Or.inl ⟨by rfl, ?_⟩) (by assumption) ?_
          rotate_left
          · intro w hSw
            try simp only [Cells, blk, List.cons_append, List.nil_append, and_true, Nat.reduceAdd, Nat.add_zero, Nat.zero_add] at hSw
            go_simp
            try with_reducible rfl
          simp only [Act.put, List.setIfInBounds_toArray, List.set_cons_zero, List.set_cons_succ]
          refine wpAnyH_ready (rs := [8]) (by kernel_rfl) (by simp) (AllReadyH.cons (o := _) (by rw [List.getElem?_toArray]; rfl) (fun K hK => ?_) AllReadyH.nil)
          go_simp
          generalize hX : World.alloc _ (.cells _ 47) = w8
          obtain ⟨h8, hB8, h8z⟩ := alloc_named hX
          clear hX
          refine hK.out _ _ (⟨hHeld.1.trans (hB8.mono (by have := hHeld.2.1; omega)), Nat.le_trans hHeld.2.1 hB8.size, hHeld.2.2.keep hB8⟩) (fun hHeld2 => ?_)
          replace hHeld := hHeld2
          clear hK K hHeld2
          try simp only [Act.put, List.setIfInBounds_toArray, List.set_cons_zero, List.set_cons_succ]
          have h8s := Nat.le_of_eq h8z.symm
          clear h8z
          have hi8 := hz
          have hz := hHeld.2.1
          try replace hlv := hlv.below hB8
          try replace htx := htx.below hB8
          try have f0 := cell_of_row _ _ 0 _ _ _ h8
          try have f1 := cell_of_row _ _ 1 _ _ _ h8
          try have f2 := cell_of_row _ _ 2 _ _ _ h8
          try have f3 := cell_of_row _ _ 3 _ _ _ h8
          try have f4 := cell_of_row _ _ 4 _ _ _ h8
          try have f5 := cell_of_row _ _ 5 _ _ _ h8
          try have z0 := frozen_of_row _ _ 0 _ _ h8
          try have z1 := frozen_of_row _ _ 1 _ _ h8
          try have z2 := frozen_of_row _ _ 2 _ _ h8
          try have z3 := frozen_of_row _ _ 3 _ _ h8
          try have z4 := frozen_of_row _ _ 4 _ _ h8
          try have z5 := frozen_of_row _ _ 5 _ _ h8
          try simp at f0 f1 f2 f3 f4 f5
          refine wpAnyH_ready (rs := [9]) (by kernel_rfl) (by simp) (AllReadyH.cons (o := _) (by rw [List.getElem?_toArray]; rfl) (fun K hK => ?_) AllReadyH.nil)
          go_simp
          generalize hX : World.setCell _ _ _ = w9
          obtain ⟨h9, hg9⟩ := set6 h8 hX
          clear hX
          refine hK.out _ _ (⟨hHeld.1.grown hg9 (by have := hHeld.2.1; omega) (fun q hq => by have := hi8; simp at hq; omega), Nat.le_trans hHeld.2.1 hg9.size, hHeld.2.2.grown hg9 (fun x hx => by have := hi8; simp [blk] at hx; rcases hx with rfl | rfl | rfl | rfl | rfl <;> (simp; omega))⟩) (fun hHeld2 => ?_)
          replace hHeld := hHeld2
          clear hK K hHeld2
          try simp only [Act.put, List.setIfInBounds_toArray, List.set_cons_zero, List.set_cons_succ]
          have hz := hHeld.2.1
          refine wpAnyH_take (i := 10) (oi := _) (v := ?_) (by rw [List.getElem?_toArray]; rfl) (by kernel_rfl) (by kernel_rfl) (by kernel_rfl) (by exact fun _ _ _ h => h) (Or.inl ⟨by rfl, ?_⟩) (by assumption) ?_
          rotate_left
          · intro w hSw
            try simp only [Cells, blk, List.cons_append, List.nil_append, and_true, Nat.reduceAdd, Nat.add_zero, Nat.zero_add] at hSw
            go_simp
            try with_reducible rfl
          simp only [Act.put, List.setIfInBounds_toArray, List.set_cons_zero, List.set_cons_succ]
          refine wpAnyH_done (by kernel_rfl) ?_ _
          go_wp2_with fail
          go_meet
          exact ⟨rfl, hHeld.1⟩
        · go_simp
          generalize hX : World.alloc _ (.cells _ 47) = w8
          obtain ⟨h8, hB8, h8z⟩ := alloc_named hX
          clear hX
          refine hK.out _ _ (⟨hHeld.1.trans (hB8.mono (by have := hHeld.2.1; omega)), Nat.le_trans hHeld.2.1 hB8.size, hHeld.2.2.keep hB8⟩) (fun hHeld2 => ?_)
          replace hHeld := hHeld2
          clear hK K hHeld2
          try simp only [Act.put, List.setIfInBounds_toArray, List.set_cons_zero, List.set_cons_succ]
          have h8s := Nat.le_of_eq h8z.symm
          clear h8z
          have hi8 := hz
          have hz := hHeld.2.1
          try replace hlv := hlv.below hB8
          try replace htx := htx.below hB8
          try have f0 := cell_of_row _ _ 0 _ _ _ h8
          try have f1 := cell_of_row _ _ 1 _ _ _ h8
          try have f2 := cell_of_row _ _ 2 _ _ _ h8
          try have f3 := cell_of_row _ _ 3 _ _ _ h8
          try have f4 := cell_of_row _ _ 4 _ _ _ h8
          try have f5 := cell_of_row _ _ 5 _ _ _ h8
          try have z0 := frozen_of_row _ _ 0 _ _ h8
          try have z1 := frozen_of_row _ _ 1 _ _ h8
          try have z2 := frozen_of_row _ _ 2 _ _ h8
          try have z3 := frozen_of_row _ _ 3 _ _ h8
          try have z4 := frozen_of_row _ _ 4 _ _ h8
          try have z5 := frozen_of_row _ _ 5 _ _ h8
          try simp at f0 f1 f2 f3 f4 f5
          refine wpAnyH_ready (rs := [4]) (by kernel_rfl) (by simp) (AllReadyH.cons (o := _) (by rw [List.getElem?_toArray]; rfl) (fun K hK => ?_) AllReadyH.nil)
          go_simp
          go_at_call 26
          refine (hear_none lv _ _ hlv htx).mono ?_
          rintro e w4 ⟨xa, xc, rfl, hB4⟩
          try replace h8 := (hB4.block _ (by have := h8s; omega)).trans h8
          try replace h8s := Nat.le_trans h8s hB4.size
          refine hK.out _ _ (⟨hHeld.1.trans (hB4.mono (by have := hHeld.2.1; omega)), Nat.le_trans hHeld.2.1 hB4.size, hHeld.2.2.keep hB4⟩) (fun hHeld2 => ?_)
          replace hHeld := hHeld2
          clear hK K hHeld2
          try simp only [Act.put, List.setIfInBounds_toArray, List.set_cons_zero, List.set_cons_succ]
          have hz := hHeld.2.1
          try have f0 := cell_of_row _ _ 0 _ _ _ h8
          try have f1 := cell_of_row _ _ 1 _ _ _ h8
          try have f2 := cell_of_row _ _ 2 _ _ _ h8
          try have f3 := cell_of_row _ _ 3 _ _ _ h8
          try have f4 := cell_of_row _ _ 4 _ _ _ h8
          try have f5 := cell_of_row _ _ 5 _ _ _ h8
          try have z0 := frozen_of_row _ _ 0 _ _ h8
          try have z1 := frozen_of_row _ _ 1 _ _ h8
          try have z2 := frozen_of_row _ _ 2 _ _ h8
          try have z3 := frozen_of_row _ _ 3 _ _ h8
          try have z4 := frozen_of_row _ _ 4 _ _ h8
          try have z5 := frozen_of_row _ _ 5 _ _ h8
          try simp at f0 f1 f2 f3 f4 f5
          refine wpAnyH_take (i := 5) (oi := _) (v := ?_) (by rw [List.getElem?_toArray]; rfl) (by kernel_rfl) (by kernel_rfl) (by kernel_rfl) (by exact fun _ _ _ h => h) (Or.inl ⟨by rfl, ?_⟩) (by assumption) ?_
          rotate_left
          · intro w hSw
            try simp only [Cells, blk, List.cons_append, List.nil_append, and_true, Nat.reduceAdd, Nat.add_zero, Nat.zero_add] at hSw
            go_simp
            try with_reducible rfl
          simp only [Act.put, List.setIfInBounds_toArray, List.set_cons_zero, List.set_cons_succ]
          refine wpAnyH_take (i := 6) (oi := _) (v := ?_) (by rw [List.getElem?_toArray]; rfl) (by kernel_rfl) (by kernel_rfl) (by kernel_rfl) (by exact fun _ _ _ h => h) (Or.inl ⟨by rfl, ?_⟩) (by assumption) ?_
          rotate_left
          · intro w hSw
            try simp only [Cells, blk, List.cons_append, List.nil_append, and_true, Nat.reduceAdd, Nat.add_zero, Nat.zero_add] at hSw
            go_simp
            try with_reducible rfl
          simp only [Act.put, List.setIfInBounds_toArray, List.set_cons_zero, List.set_cons_succ]
          refine wpAnyH_take (i := 7) (oi := _) (v := ?_) (by rw [List.getElem?_toArray]; rfl) (by kernel_rfl) (by kernel_rfl) (by kernel_rfl) (by exact fun _ _ _ h => h) (Or.inl ⟨by rfl, ?_⟩) (by assumption) ?_
          rotate_left
          · intro w hSw
            try simp only [Cells, blk, List.cons_append, List.nil_append, and_true, Nat.reduceAdd, Nat.add_zero, Nat.zero_add] at hSw
            go_simp
            try with_reducible rfl
          simp only [Act.put, List.setIfInBounds_toArray, List.set_cons_zero, List.set_cons_succ]
          refine wpAnyH_ready (rs := [9]) (by kernel_rfl) (by simp) (AllReadyH.cons (o := _) (by rw [List.getElem?_toArray]; rfl) (fun K hK => ?_) AllReadyH.nil)
          go_simp
          generalize hX : World.setCell _ _ _ = w9
          obtain ⟨h9, hg9⟩ := set6 h8 hX
          clear hX
          refine hK.out _ _ (⟨hHeld.1.grown hg9 (by have := hHeld.2.1; omega) (fun q hq => by have := hi8; simp at hq; omega), Nat.le_trans hHeld.2.1 hg9.size, hHeld.2.2.grown hg9 (fun x hx => by have := hi8; simp [blk] at hx; rcases hx with rfl | rfl | rfl | rfl | rfl <;> (simp; omega))⟩) (fun hHeld2 => ?_)
          replace hHeld := hHeld2
          clear hK K hHeld2
          try simp only [Act.put, List.setIfInBounds_toArray, List.set_cons_zero, List.set_cons_succ]
          have hz := hHeld.2.1
          refine wpAnyH_take (i := 10) (oi := _) (v := ?_) (by rw [List.getElem?_toArray]; rfl) (by kernel_rfl) (by kernel_rfl) (by kernel_rfl) (by exact fun _ _ _ h => h) (Or.inl ⟨by rfl, ?_⟩) (by assumption) ?_
          rotate_left
          · intro w hSw
            try simp only [Cells, blk, List.cons_append, List.nil_append, and_true, Nat.reduceAdd, Nat.add_zero, Nat.zero_add] at hSw
            go_simp
            try with_reducible rfl
          simp only [Act.put, List.setIfInBounds_toArray, List.set_cons_zero, List.set_cons_succ]
          refine wpAnyH_done (by kernel_rfl) ?_ _
          go_wp2_with fail
          go_meet
          exact ⟨rfl, hHeld.1⟩
      · go_simp
        generalize hX : World.alloc _ (.cells _ 47) = w8
        obtain ⟨h8, hB8, h8z⟩ := alloc_named hX
        clear hX
        refine hK.out _ _ (⟨hHeld.1.trans (hB8.mono (by have := hHeld.2.1; omega)), Nat.le_trans hHeld.2.1 hB8.size, hHeld.2.2.keep hB8⟩) (fun hHeld2 => ?_)
        replace hHeld := hHeld2
        clear hK K hHeld2
        try simp only [Act.put, List.setIfInBounds_toArray, List.set_cons_zero, List.set_cons_succ]
        have h8s := Nat.le_of_eq h8z.symm
        clear h8z
        have hi8 := hz
        have hz := hHeld.2.1
        try replace hlv := hlv.below hB8
        try replace htx := htx.below hB8
        try have f0 := cell_of_row _ _ 0 _ _ _ h8
        try have f1 := cell_of_row _ _ 1 _ _ _ h8
        try have f2 := cell_of_row _ _ 2 _ _ _ h8
        try have f3 := cell_of_row _ _ 3 _ _ _ h8
        try have f4 := cell_of_row _ _ 4 _ _ _ h8
        try have f5 := cell_of_row _ _ 5 _ _ _ h8
        try have z0 := frozen_of_row _ _ 0 _ _ h8
        try have z1 := frozen_of_row _ _ 1 _ _ h8
        try have z2 := frozen_of_row _ _ 2 _ _ h8
        try have z3 := frozen_of_row _ _ 3 _ _ h8
        try have z4 := frozen_of_row _ _ 4 _ _ h8
        try have z5 := frozen_of_row _ _ 5 _ _ h8
        try simp at f0 f1 f2 f3 f4 f5
        refine wpAnyH_ready (rs := [0]) (by kernel_rfl) (by simp) (AllReadyH.cons (o := _) (by rw [List.getElem?_toArray]; rfl) (fun K hK => ?_) AllReadyH.nil)
        go_simp
        go_at_call 32
        refine (pair_any _).mono ?_
        rintro e w0 ⟨lv, rfl, hlv, hB0⟩
        refine hK.out _ _ (⟨hHeld.1.trans (hB0.mono (by have := hHeld.2.1; omega)), Nat.le_trans hHeld.2.1 hB0.size, hHeld.2.2.keep hB0⟩) (fun hHeld2 => ?_)
        replace hHeld := hHeld2
        clear hK K hHeld2
        try simp only [Act.put, List.setIfInBounds_toArray, List.set_cons_zero, List.set_cons_succ]
        have hz := hHeld.2.1
        try replace htx := htx.below hB0
        try replace h8 := (hB0.block _ (by have := h8s; omega)).trans h8
        try replace h8s := Nat.le_trans h8s hB0.size
        refine wpAnyH_ready (rs := [4]) (by kernel_rfl) (by simp) (AllReadyH.cons (o := _) (by rw [List.getElem?_toArray]; rfl) (fun K hK => ?_) AllReadyH.nil)
        go_simp
        go_at_call 26
        refine (hear_none lv _ _ hlv htx).mono ?_
        rintro e w4 ⟨xa, xc, rfl, hB4⟩
        try replace h8 := (hB4.block _ (by have := h8s; omega)).trans h8
        try replace h8s := Nat.le_trans h8s hB4.size
        refine hK.out _ _ (⟨hHeld.1.trans (hB4.mono (by have := hHeld.2.1; omega)), Nat.le_trans hHeld.2.1 hB4.size, hHeld.2.2.keep hB4⟩) (fun hHeld2 => ?_)
        replace hHeld := hHeld2
        clear hK K hHeld2
        try simp only [Act.put, List.setIfInBounds_toArray, List.set_cons_zero, List.set_cons_succ]
        have hz := hHeld.2.1
        try have f0 := cell_of_row _ _ 0 _ _ _ h8
        try have f1 := cell_of_row _ _ 1 _ _ _ h8
        try have f2 := cell_of_row _ _ 2 _ _ _ h8
        try have f3 := cell_of_row _ _ 3 _ _ _ h8
        try have f4 := cell_of_row _ _ 4 _ _ _ h8
        try have f5 := cell_of_row _ _ 5 _ _ _ h8
        try have z0 := frozen_of_row _ _ 0 _ _ h8
        try have z1 := frozen_of_row _ _ 1 _ _ h8
        try have z2 := frozen_of_row _ _ 2 _ _ h8
        try have z3 := frozen_of_row _ _ 3 _ _ h8
        try have z4 := frozen_of_row _ _ 4 _ _ h8
        try have z5 := frozen_of_row _ _ 5 _ _ h8
        try simp at f0 f1 f2 f3 f4 f5
        refine wpAnyH_take (i := 5) (oi := _) (v := ?_) (by rw [List.getElem?_toArray]; rfl) (by kernel_rfl) (by kernel_rfl) (by kernel_rfl) (by exact fun _ _ _ h => h) (Or.inl ⟨by rfl, ?_⟩) (by assumption) ?_
        rotate_left
        · intro w hSw
          try simp only [Cells, blk, List.cons_append, List.nil_append, and_true, Nat.reduceAdd, Nat.add_zero, Nat.zero_add] at hSw
          go_simp
          try with_reducible rfl
        simp only [Act.put, List.setIfInBounds_toArray, List.set_cons_zero, List.set_cons_succ]
        refine wpAnyH_take (i := 6) (oi := _) (v := ?_) (by rw [List.getElem?_toArray]; rfl) (by kernel_rfl) (by kernel_rfl) (by kernel_rfl) (by exact fun _ _ _ h => h) (Or.inl ⟨by rfl, ?_⟩) (by assumption) ?_
        rotate_left
        · intro w hSw
          try simp only [Cells, blk, List.cons_append, List.nil_append, and_true, Nat.reduceAdd, Nat.add_zero, Nat.zero_add] at hSw
          go_simp
          try with_reducible rfl
        simp only [Act.put, List.setIfInBounds_toArray, List.set_cons_zero, List.set_cons_succ]
        refine wpAnyH_take (i := 7) (oi := _) (v := ?_) (by rw [List.getElem?_toArray]; rfl) (by kernel_rfl) (by kernel_rfl) (by kernel_rfl) (by exact fun _ _ _ h => h) (Or.inl ⟨by rfl, ?_⟩) (by assumption) ?_
        rotate_left
        · intro w hSw
          try simp only [Cells, blk, List.cons_append, List.nil_append, and_true, Nat.reduceAdd, Nat.add_zero, Nat.zero_add] at hSw
          go_simp
          try with_reducible rfl
        simp only [Act.put, List.setIfInBounds_toArray, List.set_cons_zero, List.set_cons_succ]
        refine wpAnyH_ready (rs := [9]) (by kernel_rfl) (by simp) (AllReadyH.cons (o := _) (by rw [List.getElem?_toArray]; rfl) (fun K hK => ?_) AllReadyH.nil)
        go_simp
        generalize hX : World.setCell _ _ _ = w9
        obtain ⟨h9, hg9⟩ := set6 h8 hX
        clear hX
        refine hK.out _ _ (⟨hHeld.1.grown hg9 (by have := hHeld.2.1; omega) (fun q hq => by have := hi8; simp at hq; omega), Nat.le_trans hHeld.2.1 hg9.size, hHeld.2.2.grown hg9 (fun x hx => by have := hi8; simp [blk] at hx; rcases hx with rfl | rfl | rfl | rfl | rfl <;> (simp; omega))⟩) (fun hHeld2 => ?_)
        replace hHeld := hHeld2
        clear hK K hHeld2
        try simp only [Act.put, List.setIfInBounds_toArray, List.set_cons_zero, List.set_cons_succ]
        have hz := hHeld.2.1
        refine wpAnyH_take (i := 10) (oi := _) (v := ?_) (by rw [List.getElem?_toArray]; rfl) (by kernel_rfl) (by kernel_rfl) (by kernel_rfl) (by exact fun _ _ _ h => h) (Or.inl ⟨by rfl, ?_⟩) (by assumption) ?_
        rotate_left
        · intro w hSw
          try simp only [Cells, blk, List.cons_append, List.nil_append, and_true, Nat.reduceAdd, Nat.add_zero, Nat.zero_add] at hSw
          go_simp
          try with_reducible rfl
        simp only [Act.put, List.setIfInBounds_toArray, List.set_cons_zero, List.set_cons_succ]
        refine wpAnyH_done (by kernel_rfl) ?_ _
        go_wp2_with fail
        go_meet
        exact ⟨rfl, hHeld.1⟩
    · go_simp
      generalize hX : World.alloc _ (.cells _ 47) = w8
      obtain ⟨h8, hB8, h8z⟩ := alloc_named hX
      clear hX
      refine hK.out _ _ (⟨hHeld.1.trans (hB8.mono (by have := hHeld.2.1; omega)), Nat.le_trans hHeld.2.1 hB8.size, hHeld.2.2.keep hB8⟩) (fun hHeld2 => ?_)
      replace hHeld := hHeld2
      clear hK K hHeld2
      try simp only [Act.put, List.setIfInBounds_toArray, List.set_cons_zero, List.set_cons_succ]
      have h8s := Nat.le_of_eq h8z.symm
      clear h8z
      have hi8 := hz
      have hz := hHeld.2.1
      try replace hlv := hlv.below hB8
      try replace htx := htx.below hB8
      try have f0 := cell_of_row _ _ 0 _ _ _ h8
      try have f1 := cell_of_row _ _ 1 _ _ _ h8
      try have f2 := cell_of_row _ _ 2 _ _ _ h8
      try have f3 := cell_of_row _ _ 3 _ _ _ h8
      try have f4 := cell_of_row _ _ 4 _ _ _ h8
      try have f5 := cell_of_row _ _ 5 _ _ _ h8
      try have z0 := frozen_of_row _ _ 0 _ _ h8
      try have z1 := frozen_of_row _ _ 1 _ _ h8
      try have z2 := frozen_of_row _ _ 2 _ _ h8
      try have z3 := frozen_of_row _ _ 3 _ _ h8
      try have z4 := frozen_of_row _ _ 4 _ _ h8
      try have z5 := frozen_of_row _ _ 5 _ _ h8
      try simp at f0 f1 f2 f3 f4 f5
      refine wpAnyH_ready (rs := [0, 2]) (by kernel_rfl) (by simp) (AllReadyH.cons (o := _) (by rw [List.getElem?_toArray]; rfl) (fun K hK => ?_) (AllReadyH.cons (o := _) (by rw [List.getElem?_toArray]; rfl) (fun K hK => ?_) AllReadyH.nil))
      · go_simp
        go_at_call 32
        refine (pair_any _).mono ?_
        rintro e w0 ⟨lv, rfl, hlv, hB0⟩
        refine hK.out _ _ (⟨hHeld.1.trans (hB0.mono (by have := hHeld.2.1; omega)), Nat.le_trans hHeld.2.1 hB0.size, hHeld.2.2.keep hB0⟩) (fun hHeld2 => ?_)
        replace hHeld := hHeld2
        clear hK K hHeld2
        try simp only [Act.put, List.setIfInBounds_toArray, List.set_cons_zero, List.set_cons_succ]
        have hz := hHeld.2.1
        try replace htx := htx.below hB0
        try replace h8 := (hB0.block _ (by have := h8s; omega)).trans h8
        try replace h8s := Nat.le_trans h8s hB0.size
        refine wpAnyH_ready (rs := [2]) (by kernel_rfl) (by simp) (AllReadyH.cons (o := _) (by rw [List.getElem?_toArray]; rfl) (fun K hK => ?_) AllReadyH.nil)
        go_simp
        generalize hX : World.alloc _ (.cells _ 24) = w2
        obtain ⟨h2, hB2, h2z⟩ := alloc_named hX
        clear hX h2z
        have htx := txs_one h2 (HBV.out.below (hHeld.1.trans (hB2.mono (by have := hHeld.2.1; omega))))
        refine hK.out _ _ (⟨hHeld.1.trans (hB2.mono (by have := hHeld.2.1; omega)), Nat.le_trans hHeld.2.1 hB2.size, hHeld.2.2.keep hB2⟩) (fun hHeld2 => ?_)
        replace hHeld := hHeld2
        clear hK K hHeld2
        try simp only [Act.put, List.setIfInBounds_toArray, List.set_cons_zero, List.set_cons_succ]
        have hz := hHeld.2.1
        try replace hlv := hlv.below hB2
        try replace h8 := (hB2.block _ (by have := h8s; omega)).trans h8
        try replace h8s := Nat.le_trans h8s hB2.size
        refine wpAnyH_ready (rs := [4]) (by kernel_rfl) (by simp) (AllReadyH.cons (o := _) (by rw [List.getElem?_toArray]; rfl) (fun K hK => ?_) AllReadyH.nil)
        go_simp
        go_at_call 26
        refine (hear_none lv _ _ hlv htx).mono ?_
        rintro e w4 ⟨xa, xc, rfl, hB4⟩
        try replace h8 := (hB4.block _ (by have := h8s; omega)).trans h8
        try replace h8s := Nat.le_trans h8s hB4.size
        refine hK.out _ _ (⟨hHeld.1.trans (hB4.mono (by have := hHeld.2.1; omega)), Nat.le_trans hHeld.2.1 hB4.size, hHeld.2.2.keep hB4⟩) (fun hHeld2 => ?_)
        replace hHeld := hHeld2
        clear hK K hHeld2
        try simp only [Act.put, List.setIfInBounds_toArray, List.set_cons_zero, List.set_cons_succ]
        have hz := hHeld.2.1
        try have f0 := cell_of_row _ _ 0 _ _ _ h8
        try have f1 := cell_of_row _ _ 1 _ _ _ h8
        try have f2 := cell_of_row _ _ 2 _ _ _ h8
        try have f3 := cell_of_row _ _ 3 _ _ _ h8
        try have f4 := cell_of_row _ _ 4 _ _ _ h8
        try have f5 := cell_of_row _ _ 5 _ _ _ h8
        try have z0 := frozen_of_row _ _ 0 _ _ h8
        try have z1 := frozen_of_row _ _ 1 _ _ h8
        try have z2 := frozen_of_row _ _ 2 _ _ h8
        try have z3 := frozen_of_row _ _ 3 _ _ h8
        try have z4 := frozen_of_row _ _ 4 _ _ h8
        try have z5 := frozen_of_row _ _ 5 _ _ h8
        try simp at f0 f1 f2 f3 f4 f5
        refine wpAnyH_take (i := 5) (oi := _) (v := ?_) (by rw [List.getElem?_toArray]; rfl) (by kernel_rfl) (by kernel_rfl) (by kernel_rfl) (by exact fun _ _ _ h => h) (Or.inl ⟨by rfl, ?_⟩) (by assumption) ?_
        rotate_left
        · intro w hSw
          try simp only [Cells, blk, List.cons_append, List.nil_append, and_true, Nat.reduceAdd, Nat.add_zero, Nat.zero_add] at hSw
          go_simp
          try with_reducible rfl
        simp only [Act.put, List.setIfInBounds_toArray, List.set_cons_zero, List.set_cons_succ]
        refine wpAnyH_take (i := 6) (oi := _) (v := ?_) (by rw [List.getElem?_toArray]; rfl) (by kernel_rfl) (by kernel_rfl) (by kernel_rfl) (by exact fun _ _ _ h => h) (Or.inl ⟨by rfl, ?_⟩) (by assumption) ?_
        rotate_left
        · intro w hSw
          try simp only [Cells, blk, List.cons_append, List.nil_append, and_true, Nat.reduceAdd, Nat.add_zero, Nat.zero_add] at hSw
          go_simp
          try with_reducible rfl
        simp only [Act.put, List.setIfInBounds_toArray, List.set_cons_zero, List.set_cons_succ]
        refine wpAnyH_take (i := 7) (oi := _) (v := ?_) (by rw [List.getElem?_toArray]; rfl) (by kernel_rfl) (by kernel_rfl) (by kernel_rfl) (by exact fun _ _ _ h => h) (Or.inl ⟨by rfl, ?_⟩) (by assumption) ?_
        rotate_left
        · intro w hSw
          try simp only [Cells, blk, List.cons_append, List.nil_append, and_true, Nat.reduceAdd, Nat.add_zero, Nat.zero_add] at hSw
          go_simp
          try with_reducible rfl
        simp only [Act.put, List.setIfInBounds_toArray, List.set_cons_zero, List.set_cons_succ]
        refine wpAnyH_ready (rs := [9]) (by kernel_rfl) (by simp) (AllReadyH.cons (o := _) (by rw [List.getElem?_toArray]; rfl) (fun K hK => ?_) AllReadyH.nil)
        go_simp
        generalize hX : World.setCell _ _ _ = w9
        obtain ⟨h9, hg9⟩ := set6 h8 hX
        clear hX
        refine hK.out _ _ (⟨hHeld.1.grown hg9 (by have := hHeld.2.1; omega) (fun q hq => by have := hi8; simp at hq; omega), Nat.le_trans hHeld.2.1 hg9.size, hHeld.2.2.grown hg9 (fun x hx => by have := hi8; simp [blk] at hx; rcases hx with rfl | rfl | rfl | rfl | rfl <;> (simp; omega))⟩) (fun hHeld2 => ?_)
        replace hHeld := hHeld2
        clear hK K hHeld2
        try simp only [Act.put, List.setIfInBounds_toArray, List.set_cons_zero, List.set_cons_succ]
        have hz := hHeld.2.1
        refine wpAnyH_take (i := 10) (oi := _) (v := ?_) (by rw [List.getElem?_toArray]; rfl) (by kernel_rfl) (by kernel_rfl) (by kernel_rfl) (by exact fun _ _ _ h => h) (Or.inl ⟨by rfl, ?_⟩) (by assumption) ?_
        rotate_left
        · intro w hSw
          try simp only [Cells, blk, List.cons_append, List.nil_append, and_true, Nat.reduceAdd, Nat.add_zero, Nat.zero_add] at hSw
          go_simp
          try with_reducible rfl
        simp only [Act.put, List.setIfInBounds_toArray, List.set_cons_zero, List.set_cons_succ]
        refine wpAnyH_done (by kernel_rfl) ?_ _
        go_wp2_with fail
        go_meet
        exact ⟨rfl, hHeld.1⟩
      · go_simp
        generalize hX : World.alloc _ (.cells _ 24) = w2
        obtain ⟨h2, hB2, h2z⟩ := alloc_named hX
        clear hX h2z
        have htx := txs_one h2 (HBV.out.below (hHeld.1.trans (hB2.mono (by have := hHeld.2.1; omega))))
        refine hK.out _ _ (⟨hHeld.1.trans (hB2.mono (by have := hHeld.2.1; omega)), Nat.le_trans hHeld.2.1 hB2.size, hHeld.2.2.keep hB2⟩) (fun hHeld2 => ?_)
        replace hHeld := hHeld2
        clear hK K hHeld2
        try simp only [Act.put, List.setIfInBounds_toArray, List.set_cons_zero, List.set_cons_succ]
        have hz := hHeld.2.1
        try replace hlv := hlv.below hB2
        try replace h8 := (hB2.block _ (by have := h8s; omega)).trans h8
        try replace h8s := Nat.le_trans h8s hB2.size
        refine wpAnyH_ready (rs := [0]) (by kernel_rfl) (by simp) (AllReadyH.cons (o := _) (by rw [List.getElem?_toArray]; rfl) (fun K hK => ?_) AllReadyH.nil)
        go_simp
        go_at_call 32
        refine (pair_any _).mono ?_
        rintro e w0 ⟨lv, rfl, hlv, hB0⟩
        refine hK.out _ _ (⟨hHeld.1.trans (hB0.mono (by have := hHeld.2.1; omega)), Nat.le_trans hHeld.2.1 hB0.size, hHeld.2.2.keep hB0⟩) (fun hHeld2 => ?_)
        replace hHeld := hHeld2
        clear hK K hHeld2
        try simp only [Act.put, List.setIfInBounds_toArray, List.set_cons_zero, List.set_cons_succ]
        have hz := hHeld.2.1
        try replace htx := htx.below hB0
        try replace h8 := (hB0.block _ (by have := h8s; omega)).trans h8
        try replace h8s := Nat.le_trans h8s hB0.size
        refine wpAnyH_ready (rs := [4]) (by kernel_rfl) (by simp) (AllReadyH.cons (o := _) (by rw [List.getElem?_toArray]; rfl) (fun K hK => ?_) AllReadyH.nil)
        go_simp
        go_at_call 26
        refine (hear_none lv _ _ hlv htx).mono ?_
        rintro e w4 ⟨xa, xc, rfl, hB4⟩
        try replace h8 := (hB4.block _ (by have := h8s; omega)).trans h8
        try replace h8s := Nat.le_trans h8s hB4.size
        refine hK.out _ _ (⟨hHeld.1.trans (hB4.mono (by have := hHeld.2.1; omega)), Nat.le_trans hHeld.2.1 hB4.size, hHeld.2.2.keep hB4⟩) (fun hHeld2 => ?_)
        replace hHeld := hHeld2
        clear hK K hHeld2
        try simp only [Act.put, List.setIfInBounds_toArray, List.set_cons_zero, List.set_cons_succ]
        have hz := hHeld.2.1
        try have f0 := cell_of_row _ _ 0 _ _ _ h8
        try have f1 := cell_of_row _ _ 1 _ _ _ h8
        try have f2 := cell_of_row _ _ 2 _ _ _ h8
        try have f3 := cell_of_row _ _ 3 _ _ _ h8
        try have f4 := cell_of_row _ _ 4 _ _ _ h8
        try have f5 := cell_of_row _ _ 5 _ _ _ h8
        try have z0 := frozen_of_row _ _ 0 _ _ h8
        try have z1 := frozen_of_row _ _ 1 _ _ h8
        try have z2 := frozen_of_row _ _ 2 _ _ h8
        try have z3 := frozen_of_row _ _ 3 _ _ h8
        try have z4 := frozen_of_row _ _ 4 _ _ h8
        try have z5 := frozen_of_row _ _ 5 _ _ h8
        try simp at f0 f1 f2 f3 f4 f5
        refine wpAnyH_take (i := 5) (oi := _) (v := ?_) (by rw [List.getElem?_toArray]; rfl) (by kernel_rfl) (by kernel_rfl) (by kernel_rfl) (by exact fun _ _ _ h => h) (Or.inl ⟨by rfl, ?_⟩) (by assumption) ?_
        rotate_left
        · intro w hSw
          try simp only [Cells, blk, List.cons_append, List.nil_append, and_true, Nat.reduceAdd, Nat.add_zero, Nat.zero_add] at hSw
          go_simp
          try with_reducible rfl
        simp only [Act.put, List.setIfInBounds_toArray, List.set_cons_zero, List.set_cons_succ]
        refine wpAnyH_take (i := 6) (oi := _) (v := ?_) (by rw [List.getElem?_toArray]; rfl) (by kernel_rfl) (by kernel_rfl) (by kernel_rfl) (by exact fun _ _ _ h => h) (Or.inl ⟨by rfl, ?_⟩) (by assumption) ?_
        rotate_left
        · intro w hSw
          try simp only [Cells, blk, List.cons_append, List.nil_append, and_true, Nat.reduceAdd, Nat.add_zero, Nat.zero_add] at hSw
          go_simp
          try with_reducible rfl
        simp only [Act.put, List.setIfInBounds_toArray, List.set_cons_zero, List.set_cons_succ]
        refine wpAnyH_take (i := 7) (oi := _) (v := ?_) (by rw [List.getElem?_toArray]; rfl) (by kernel_rfl) (by kernel_rfl) (by kernel_rfl) (by exact fun _ _ _ h => h) (Or.inl ⟨by rfl, ?_⟩) (by assumption) ?_
        rotate_left
        · intro w hSw
          try simp only [Cells, blk, List.cons_append, List.nil_append, and_true, Nat.reduceAdd, Nat.add_zero, Nat.zero_add] at hSw
          go_simp
          try with_reducible rfl
        simp only [Act.put, List.setIfInBounds_toArray, List.set_cons_zero, List.set_cons_succ]
        refine wpAnyH_ready (rs := [9]) (by kernel_rfl) (by simp) (AllReadyH.cons (o := _) (by rw [List.getElem?_toArray]; rfl) (fun K hK => ?_) AllReadyH.nil)
        go_simp
        generalize hX : World.setCell _ _ _ = w9
        obtain ⟨h9, hg9⟩ := set6 h8 hX
        clear hX
        refine hK.out _ _ (⟨hHeld.1.grown hg9 (by have := hHeld.2.1; omega) (fun q hq => by have := hi8; simp at hq; omega), Nat.le_trans hHeld.2.1 hg9.size, hHeld.2.2.grown hg9 (fun x hx => by have := hi8; simp [blk] at hx; rcases hx with rfl | rfl | rfl | rfl | rfl <;> (simp; omega))⟩) (fun hHeld2 => ?_)
        replace hHeld := hHeld2
        clear hK K hHeld2
        try simp only [Act.put, List.setIfInBounds_toArray, List.set_cons_zero, List.set_cons_succ]
        have hz := hHeld.2.1
        refine wpAnyH_take (i := 10) (oi := _) (v := ?_) (by rw [List.getElem?_toArray]; rfl) (by kernel_rfl) (by kernel_rfl) (by kernel_rfl) (by exact fun _ _ _ h => h) (Or.inl ⟨by rfl, ?_⟩) (by assumption) ?_
        rotate_left
        · intro w hSw
          try simp only [Cells, blk, List.cons_append, List.nil_append, and_true, Nat.reduceAdd, Nat.add_zero, Nat.zero_add] at hSw
          go_simp
          try with_reducible rfl
        simp only [Act.put, List.setIfInBounds_toArray, List.set_cons_zero, List.set_cons_succ]
        refine wpAnyH_done (by kernel_rfl) ?_ _
        go_wp2_with fail
        go_meet
        exact ⟨rfl, hHeld.1⟩
  case rest =>
  obtain ⟨rfl, hB3⟩ := hcut
  rename World => Y
  have hiV : i < V.heap.size := (Array.getElem?_eq_some_iff.1 hi).1
  have T2 := T1.keep hB3
  have hi2 := (hB3.block i hiV).trans hi
  have hiY : i < Y.heap.size := (Array.getElem?_eq_some_iff.1 hi2).1
  have hBY := hBW.trans ((hB1.trans (hB3.mono hB1.size)).mono (by omega))
  have hOpen := T2
  simp only [Cells, blk, List.cons_append, List.nil_append, and_true, Nat.reduceAdd, Nat.add_zero, Nat.zero_add] at hOpen
  obtain ⟨k0, k1, k2, k3, k4⟩ := hOpen
  have ct : Calls Try.prog 11 #[.int .i64 10] Y fun e w' => e = .returned (.int .i64 160) ∧ Y = w' := time_any 10 (by decide) Y
  have ce : ∀ w0, Calls Try.prog 13 #[.agg #[.int .i64 4, .int .i64 0, .int .i64 5, .int .i64 100, .slice (some ⟨w.heap.size, 0, none⟩) 10 10]] w0 fun e w' => e = .returned (.int .i64 260) ∧ Below w0.heap.size w0 w' := fun w0 => end_any 4 0 5 100 (some ⟨w.heap.size, 0, none⟩) 10 10 (by decide) (by decide) w0
  have CT := Lib.hid ct
  have CE := Lib.hid ce
  clear ct ce T0 T1 T2 hi hB1 hB3 hBW
  go_wp2_with fail
  refine CT.out.mono ?_
  rintro e w' ⟨rfl, rfl⟩
  go_wp2_with fail
  refine (CE.out _).mono ?_
  rintro e w5 ⟨rfl, hB5⟩
  have hi5 := (hB5.block i hiY).trans hi2
  have hC5 := hBY.trans (hB5.mono hBY.size)
  clear k0 k1 k2 k3 k4
  have f0 := cell_of_row _ _ 0 _ _ _ hi5
  have f2 := cell_of_row _ _ 2 _ _ _ hi5
  have f4 := cell_of_row _ _ 4 _ _ _ hi5
  have f5 := cell_of_row _ _ 5 _ _ _ hi5
  simp at f0 f2 f4 f5
  go_wp2_with fail
  refine (pair_any w5).mono ?_
  rintro e w6 ⟨lv, rfl, hlv, hB6⟩
  have hC6 := hC5.trans (hB6.mono hC5.size)
  have cr : Calls Try.prog 21 #[.agg #[.int .i64 2, lv, .slice none 0 0, .slice none 0 0], .int .i64 1, .int .i64 0] w6 fun e w' => e = .returned (.bool true) ∧ Below w6.heap.size w6 w' := range_any 2 lv _ _ [(0, 1)] 1 0 w6 hlv
  have CR := Lib.hid cr
  clear cr
  go_wp2_with fail
  refine CR.out.mono ?_
  rintro e w7 ⟨rfl, hB7⟩
  have hC7 := hC6.trans (hB7.mono hC6.size)
  go_wp2_with fail
  refine (pair_any w7).mono ?_
  rintro e w8 ⟨lv2, rfl, hlv2, hB8⟩
  have hC8 := hC7.trans (hB8.mono hC7.size)
  have cc : Calls Try.prog 17 #[.agg #[.int .i64 2, lv2, .slice none 0 0, .slice none 0 0], .slice none 0 0] w8 fun e w' => e = .returned (.int .i64 0) ∧ Below w8.heap.size w8 w' := check_any 2 lv2 _ _ _ [(0, 1)] [] [] [] w8 hlv2 (sr_nil _ _) (sr_nil _ _) (txs_nil _)
  have CC := Lib.hid cc
  clear cc
  go_wp2_with fail
  refine CC.out.mono ?_
  rintro e w9 ⟨rfl, hB9⟩
  have hC9 := hC8.trans (hB9.mono hC8.size)
  have cd : Calls Try.prog 17 #[.agg #[.int .i64 9, .slice none 0 0, .slice none 0 0, .slice none 0 0], .slice none 0 0] w9 fun e w' => e = .returned (.int .i64 5) ∧ Below w9.heap.size w9 w' := check_any 9 _ _ _ _ [] [] [] [] w9 (sr_nil _ _) (sr_nil _ _) (sr_nil _ _) (txs_nil _)
  have CD := Lib.hid cd
  clear cd
  go_wp2_with fail
  refine CD.out.mono ?_
  rintro e w10 ⟨rfl, hB10⟩
  go_wp2
  go_ret
  exact ⟨rfl, hC9.trans (hB10.mono hC9.size)⟩
end Go.Proofs.Ythemdbgcamkecaa
