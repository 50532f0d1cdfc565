/- Walks of air: together, Overlap, and the reference's. -/
import Derived.Test.YthemdbgcamkecaaAirA
namespace Go.Proofs.Ythemdbgcamkecaa
open Go.RowKit

/-- two blocks of five cells each -/
def Ten (W : World) (b c : Nat) (x0 x1 x2 x3 x4 y0 y1 y2 y3 y4 : Value) : Prop :=
  W.cell? ⟨b, 0, none⟩ = some x0 ∧ W.cell? ⟨b, 1, none⟩ = some x1 ∧ W.cell? ⟨b, 2, none⟩ = some x2 ∧ W.cell? ⟨b, 3, none⟩ = some x3 ∧ W.cell? ⟨b, 4, none⟩ = some x4 ∧
  W.cell? ⟨c, 0, none⟩ = some y0 ∧ W.cell? ⟨c, 1, none⟩ = some y1 ∧ W.cell? ⟨c, 2, none⟩ = some y2 ∧ W.cell? ⟨c, 3, none⟩ = some y3 ∧ W.cell? ⟨c, 4, none⟩ = some y4
theorem kc {W W' : World} {b j : Nat} {x : Value} (h : W.cell? ⟨b, j, none⟩ = some x) (hb : Below W.heap.size W W') : W'.cell? ⟨b, j, none⟩ = some x :=
  (hb.cell (p := ⟨b, j, none⟩) (World.block_lt_of_cell? W _ h)).trans h
theorem Ten.keep {W W' : World} {b c : Nat} {x0 x1 x2 x3 x4 y0 y1 y2 y3 y4 : Value} (h : Ten W b c x0 x1 x2 x3 x4 y0 y1 y2 y3 y4) (hb : Below W.heap.size W W') : Ten W' b c x0 x1 x2 x3 x4 y0 y1 y2 y3 y4 := by
  obtain ⟨h0, h1, h2, h3, h4, h5, h6, h7, h8, h9⟩ := h
  exact ⟨kc h0 hb, kc h1 hb, kc h2 hb, kc h3 hb, kc h4 hb, kc h5 hb, kc h6 hb, kc h7 hb, kc h8 hb, kc h9 hb⟩

theorem ten_new (w : World) (t t' : TypeId) (x0 x1 x2 x3 x4 y0 y1 y2 y3 y4 : Value) : Ten ((w.alloc (.cells #[x0, x1, x2, x3, x4] t)).alloc (.cells #[y0, y1, y2, y3, y4] t')) w.heap.size (w.heap.size + 1) x0 x1 x2 x3 x4 y0 y1 y2 y3 y4 := by
  have e : (w.alloc (.cells #[x0, x1, x2, x3, x4] t)).heap.size = w.heap.size + 1 := by simp
  have hb := (Below.refl (w.alloc (.cells #[x0, x1, x2, x3, x4] t)).heap.size (w.alloc (.cells #[x0, x1, x2, x3, x4] t))).alloc (Nat.le_refl _) (.cells #[y0, y1, y2, y3, y4] t')
  have o := fun j v h => kc (cellNew w #[x0, x1, x2, x3, x4] t j v h) hb
  have n := cellNew (w.alloc (.cells #[x0, x1, x2, x3, x4] t)) #[y0, y1, y2, y3, y4] t'
  rw [e] at n
  exact ⟨o 0 _ rfl, o 1 _ rfl, o 2 _ rfl, o 3 _ rfl, o 4 _ rfl, n 0 _ rfl, n 1 _ rfl, n 2 _ rfl, n 3 _ rfl, n 4 _ rfl⟩

def togB (sa sb ea eb : Int) : Bool := decide (sa < eb) && decide (sb < ea)

set_option linter.unusedSimpArgs false in
set_option maxHeartbeats 1000000 in
theorem together_any (ia fa ca sa ib fb cb sb : Int) (aa ab : Option Addr) (na la nb lb : Nat) (h1 : -1125899906842624 ≤ sa ∧ sa ≤ 1125899906842624) (h2 : -1125899906842624 ≤ sb ∧ sb ≤ 1125899906842624) (h3 : na ≤ 140737488355328) (h4 : nb ≤ 140737488355328) (w : World) :
    Calls Try.prog 33 #[.agg #[.int .i64 ia, .int .i64 fa, .int .i64 ca, .int .i64 sa, .slice aa na la], .agg #[.int .i64 ib, .int .i64 fb, .int .i64 cb, .int .i64 sb, .slice ab nb lb]] w
      fun e w' => e = .returned (.bool (togB sa sb (endI sa na) (endI sb nb))) ∧ Below w.heap.size w w' := by
  have c1 := end_any ia fa ca sa aa na la h1 h3
  have c2 := end_any ib fb cb sb ab nb lb h2 h4
  obtain ⟨EA, hEA⟩ : ∃ E, endI sa na = E := ⟨_, rfl⟩
  obtain ⟨EB, hEB⟩ : ∃ E, endI sb nb = E := ⟨_, rfl⟩
  rw [hEA] at c1 ⊢
  rw [hEB] at c2 ⊢
  have C1 := Lib.hid c1
  have C2 := Lib.hid c2
  clear c1 c2 hEA hEB
  unfold togB
  by_cases h : sa < EB
  · have hd : decide (sa < EB) = true := by simpa using h
    go_enter Try.func33, Try.ntmps33
    go_wp2_with fail
    have T := ten_new w 24 24 (.int .i64 ia) (.int .i64 fa) (.int .i64 ca) (.int .i64 sa) (.slice aa na la) (.int .i64 ib) (.int .i64 fb) (.int .i64 cb) (.int .i64 sb) (.slice ab nb lb)
    have hBW : Below w.heap.size w ((w.alloc (.cells #[.int .i64 ia, .int .i64 fa, .int .i64 ca, .int .i64 sa, .slice aa na la] 24)).alloc (.cells #[.int .i64 ib, .int .i64 fb, .int .i64 cb, .int .i64 sb, .slice ab nb lb] 24)) := ((Below.refl _ _).alloc (Nat.le_refl _) _).alloc (by simp) _
    generalize hW : (w.alloc (.cells _ 24)).alloc (.cells _ 24) = W at T hBW ⊢
    clear hW
    have hBd := hBW.drew
    refine wp_region_held_drew (S := (fun W' : World => W'.cell? ⟨w.heap.size, 0, none⟩ = some (.int .i64 ia) ∧ W'.cell? ⟨w.heap.size, 1, none⟩ = some (.int .i64 fa) ∧ W'.cell? ⟨w.heap.size, 2, none⟩ = some (.int .i64 ca) ∧ W'.cell? ⟨w.heap.size, 3, none⟩ = some (.int .i64 sa) ∧ W'.cell? ⟨w.heap.size, 4, none⟩ = some (.slice aa na la) ∧ W'.cell? ⟨w.heap.size + 1, 0, none⟩ = some (.int .i64 ib) ∧ W'.cell? ⟨w.heap.size + 1, 1, none⟩ = some (.int .i64 fb) ∧ W'.cell? ⟨w.heap.size + 1, 2, none⟩ = some (.int .i64 cb) ∧ W'.cell? ⟨w.heap.size + 1, 3, none⟩ = some (.int .i64 sb) ∧ W'.cell? ⟨w.heap.size + 1, 4, none⟩ = some (.slice ab nb lb))) (by kernel_rfl) (T) (fun hHeld => ?_)
    refine wpAnyH_take (i := 0) (oi := _) (v := ?_) (by rw [List.getElem?_toArray]; rfl) (by kernel_rfl) (by kernel_rfl) (by kernel_rfl) (by exact fun _ _ _ h => h) (Or.inl ⟨by rfl, ?_⟩) (by assumption) ?_
    rotate_left
    · intro w hSw
      try dsimp only at hSw
      go_simp
      try with_reducible rfl
    simp only [Act.put, List.setIfInBounds_toArray, List.set_cons_zero, List.set_cons_succ]
    refine wpAnyH_take (i := 1) (oi := _) (v := ?_) (by rw [List.getElem?_toArray]; rfl) (by kernel_rfl) (by kernel_rfl) (by kernel_rfl) (by exact fun _ _ _ h => h) (Or.inl ⟨by rfl, ?_⟩) (by assumption) ?_
    rotate_left
    · intro w hSw
      try dsimp only at hSw
      go_simp
      try with_reducible rfl
    simp only [Act.put, List.setIfInBounds_toArray, List.set_cons_zero, List.set_cons_succ]
    refine wpAnyH_take (i := 2) (oi := _) (v := ?_) (by rw [List.getElem?_toArray]; rfl) (by kernel_rfl) (by kernel_rfl) (by kernel_rfl) (by exact fun _ _ _ h => h) (Or.inl ⟨by rfl, ?_⟩) (by assumption) ?_
    rotate_left
    · intro w hSw
      try dsimp only at hSw
      go_simp
      try with_reducible rfl
    simp only [Act.put, List.setIfInBounds_toArray, List.set_cons_zero, List.set_cons_succ]
    refine wpAnyH_ready (rs := [3]) (by kernel_rfl) (by simp) (AllReadyH.cons (o := _) (by rw [List.getElem?_toArray]; rfl) (fun K hK => ?_) AllReadyH.nil)
    go_simp
    go_at_call 13
    refine (C2.out _).mono ?_
    rintro e w2 ⟨rfl, hB2⟩
    have T2 := Ten.keep (W := W.drew) T hB2
    have hB2' := hBd.trans (hB2.mono hBd.size)
    clear hHeld
    refine hK.out _ _ (T2) (fun hHeld => ?_)
    clear hK K
    try simp only [Act.put, List.setIfInBounds_toArray, List.set_cons_zero, List.set_cons_succ]
    refine wpAnyH_take (i := 4) (oi := _) (v := ?_) (by rw [List.getElem?_toArray]; rfl) (by kernel_rfl) (by kernel_rfl) (by kernel_rfl) (by exact fun _ _ _ h => h) (Or.inl ⟨by rfl, ?_⟩) (by assumption) ?_
    rotate_left
    · intro w hSw
      try dsimp only at hSw
      go_simp
      try with_reducible rfl
    simp only [Act.put, List.setIfInBounds_toArray, List.set_cons_zero, List.set_cons_succ]
    refine wpAnyH_take (i := 5) (oi := _) (v := ?_) (by rw [List.getElem?_toArray]; rfl) (by kernel_rfl) (by kernel_rfl) (by kernel_rfl) (by exact fun _ _ _ h => h) (Or.inl ⟨by rfl, ?_⟩) (by assumption) ?_
    rotate_left
    · intro w hSw
      try dsimp only at hSw
      go_simp
      try with_reducible rfl
    simp only [Act.put, List.setIfInBounds_toArray, List.set_cons_zero, List.set_cons_succ]
    refine wpAnyH_take (i := 6) (oi := _) (v := ?_) (by rw [List.getElem?_toArray]; rfl) (by kernel_rfl) (by kernel_rfl) (by kernel_rfl) (by exact fun _ _ _ h => h) (Or.inl ⟨by rfl, ?_⟩) (by assumption) ?_
    rotate_left
    · intro w hSw
      try dsimp only at hSw
      go_simp
      try with_reducible rfl
    simp only [Act.put, List.setIfInBounds_toArray, List.set_cons_zero, List.set_cons_succ]
    refine wpAnyH_take (i := 7) (oi := _) (v := ?_) (by rw [List.getElem?_toArray]; rfl) (by kernel_rfl) (by kernel_rfl) (by kernel_rfl) (by exact fun _ _ _ h => h) (Or.inl ⟨by rfl, ?_⟩) (by assumption) ?_
    rotate_left
    · intro w hSw
      try dsimp only at hSw
      go_simp
      try with_reducible rfl
    simp only [Act.put, List.setIfInBounds_toArray, List.set_cons_zero, List.set_cons_succ]
    refine wpAnyH_take (i := 8) (oi := _) (v := ?_) (by rw [List.getElem?_toArray]; rfl) (by kernel_rfl) (by kernel_rfl) (by kernel_rfl) (by exact fun _ _ _ h => h) (Or.inl ⟨by rfl, ?_⟩) (by assumption) ?_
    rotate_left
    · intro w hSw
      try dsimp only at hSw
      go_simp
      try with_reducible rfl
    simp only [Act.put, List.setIfInBounds_toArray, List.set_cons_zero, List.set_cons_succ]
    refine wpAnyH_ready (rs := [9]) (by kernel_rfl) (by simp) (AllReadyH.cons (o := _) (by rw [List.getElem?_toArray]; rfl) (fun K hK => ?_) AllReadyH.nil)
    go_simp
    go_at_call 13
    refine (C1.out _).mono ?_
    rintro e w3 ⟨rfl, hB3⟩
    have T3 := Ten.keep T2 hB3
    clear hHeld
    refine hK.out _ _ (T3) (fun hHeld => ?_)
    clear hK K
    try simp only [Act.put, List.setIfInBounds_toArray, List.set_cons_zero, List.set_cons_succ]
    refine wpAnyH_take (i := 10) (oi := _) (v := ?_) (by rw [List.getElem?_toArray]; rfl) (by kernel_rfl) (by kernel_rfl) (by kernel_rfl) (by exact fun _ _ _ h => h) (Or.inl ⟨by rfl, ?_⟩) (by assumption) ?_
    rotate_left
    · intro w hSw
      try dsimp only at hSw
      go_simp
      try with_reducible rfl
    simp only [Act.put, List.setIfInBounds_toArray, List.set_cons_zero, List.set_cons_succ]
    refine wpAnyH_take (i := 11) (oi := _) (v := ?_) (by rw [List.getElem?_toArray]; rfl) (by kernel_rfl) (by kernel_rfl) (by kernel_rfl) (by exact fun _ _ _ h => h) (Or.inl ⟨by rfl, ?_⟩) (by assumption) ?_
    rotate_left
    · intro w hSw
      try dsimp only at hSw
      go_simp
      try with_reducible rfl
    simp only [Act.put, List.setIfInBounds_toArray, List.set_cons_zero, List.set_cons_succ]
    refine wpAnyH_take (i := 12) (oi := _) (v := ?_) (by rw [List.getElem?_toArray]; rfl) (by kernel_rfl) (by kernel_rfl) (by kernel_rfl) (by exact fun _ _ _ h => h) (Or.inl ⟨by rfl, ?_⟩) (by assumption) ?_
    rotate_left
    · intro w hSw
      try dsimp only at hSw
      go_simp
      try with_reducible rfl
    simp only [Act.put, List.setIfInBounds_toArray, List.set_cons_zero, List.set_cons_succ]
    refine wpAnyH_done (by kernel_rfl) ?_ _
    go_wp2
    go_ret
    exact ⟨ret_bool (by rw [hd]; rfl), hB2'.trans (hB3.mono hB2'.size)⟩
  · have hd : decide (sa < EB) = false := by simpa using h
    go_enter Try.func33, Try.ntmps33
    go_wp2_with fail
    have T := ten_new w 24 24 (.int .i64 ia) (.int .i64 fa) (.int .i64 ca) (.int .i64 sa) (.slice aa na la) (.int .i64 ib) (.int .i64 fb) (.int .i64 cb) (.int .i64 sb) (.slice ab nb lb)
    have hBW : Below w.heap.size w ((w.alloc (.cells #[.int .i64 ia, .int .i64 fa, .int .i64 ca, .int .i64 sa, .slice aa na la] 24)).alloc (.cells #[.int .i64 ib, .int .i64 fb, .int .i64 cb, .int .i64 sb, .slice ab nb lb] 24)) := ((Below.refl _ _).alloc (Nat.le_refl _) _).alloc (by simp) _
    generalize hW : (w.alloc (.cells _ 24)).alloc (.cells _ 24) = W at T hBW ⊢
    clear hW
    have hBd := hBW.drew
    refine wp_region_held_drew (S := (fun W' : World => W'.cell? ⟨w.heap.size, 0, none⟩ = some (.int .i64 ia) ∧ W'.cell? ⟨w.heap.size, 1, none⟩ = some (.int .i64 fa) ∧ W'.cell? ⟨w.heap.size, 2, none⟩ = some (.int .i64 ca) ∧ W'.cell? ⟨w.heap.size, 3, none⟩ = some (.int .i64 sa) ∧ W'.cell? ⟨w.heap.size, 4, none⟩ = some (.slice aa na la) ∧ W'.cell? ⟨w.heap.size + 1, 0, none⟩ = some (.int .i64 ib) ∧ W'.cell? ⟨w.heap.size + 1, 1, none⟩ = some (.int .i64 fb) ∧ W'.cell? ⟨w.heap.size + 1, 2, none⟩ = some (.int .i64 cb) ∧ W'.cell? ⟨w.heap.size + 1, 3, none⟩ = some (.int .i64 sb) ∧ W'.cell? ⟨w.heap.size + 1, 4, none⟩ = some (.slice ab nb lb))) (by kernel_rfl) (T) (fun hHeld => ?_)
    refine wpAnyH_take (i := 0) (oi := _) (v := ?_) (by rw [List.getElem?_toArray]; rfl) (by kernel_rfl) (by kernel_rfl) (by kernel_rfl) (by exact fun _ _ _ h => h) (Or.inl ⟨by rfl, ?_⟩) (by assumption) ?_
    rotate_left
    · intro w hSw
      try dsimp only at hSw
      go_simp
      try with_reducible rfl
    simp only [Act.put, List.setIfInBounds_toArray, List.set_cons_zero, List.set_cons_succ]
    refine wpAnyH_take (i := 1) (oi := _) (v := ?_) (by rw [List.getElem?_toArray]; rfl) (by kernel_rfl) (by kernel_rfl) (by kernel_rfl) (by exact fun _ _ _ h => h) (Or.inl ⟨by rfl, ?_⟩) (by assumption) ?_
    rotate_left
    · intro w hSw
      try dsimp only at hSw
      go_simp
      try with_reducible rfl
    simp only [Act.put, List.setIfInBounds_toArray, List.set_cons_zero, List.set_cons_succ]
    refine wpAnyH_take (i := 2) (oi := _) (v := ?_) (by rw [List.getElem?_toArray]; rfl) (by kernel_rfl) (by kernel_rfl) (by kernel_rfl) (by exact fun _ _ _ h => h) (Or.inl ⟨by rfl, ?_⟩) (by assumption) ?_
    rotate_left
    · intro w hSw
      try dsimp only at hSw
      go_simp
      try with_reducible rfl
    simp only [Act.put, List.setIfInBounds_toArray, List.set_cons_zero, List.set_cons_succ]
    refine wpAnyH_ready (rs := [3]) (by kernel_rfl) (by simp) (AllReadyH.cons (o := _) (by rw [List.getElem?_toArray]; rfl) (fun K hK => ?_) AllReadyH.nil)
    go_simp
    go_at_call 13
    refine (C2.out _).mono ?_
    rintro e w2 ⟨rfl, hB2⟩
    have T2 := Ten.keep (W := W.drew) T hB2
    have hB2' := hBd.trans (hB2.mono hBd.size)
    clear hHeld
    refine hK.out _ _ (T2) (fun hHeld => ?_)
    clear hK K
    try simp only [Act.put, List.setIfInBounds_toArray, List.set_cons_zero, List.set_cons_succ]
    refine wpAnyH_take (i := 4) (oi := _) (v := ?_) (by rw [List.getElem?_toArray]; rfl) (by kernel_rfl) (by kernel_rfl) (by kernel_rfl) (by exact fun _ _ _ h => h) (Or.inl ⟨by rfl, ?_⟩) (by assumption) ?_
    rotate_left
    · intro w hSw
      try dsimp only at hSw
      go_simp
      try with_reducible rfl
    simp only [Act.put, List.setIfInBounds_toArray, List.set_cons_zero, List.set_cons_succ]
    refine wpAnyH_take (i := 5) (oi := _) (v := ?_) (by rw [List.getElem?_toArray]; rfl) (by kernel_rfl) (by kernel_rfl) (by kernel_rfl) (by exact fun _ _ _ h => h) (Or.inl ⟨by rfl, ?_⟩) (by assumption) ?_
    rotate_left
    · intro w hSw
      try dsimp only at hSw
      go_simp
      try with_reducible rfl
    simp only [Act.put, List.setIfInBounds_toArray, List.set_cons_zero, List.set_cons_succ]
    refine wpAnyH_take (i := 6) (oi := _) (v := undef) (by rw [List.getElem?_toArray]; rfl) (by kernel_rfl) (by kernel_rfl) (by kernel_rfl) (by exact fun _ _ _ h => h) (Or.inr ⟨by rfl, rfl⟩) (by assumption) ?_
    simp only [Act.put, List.setIfInBounds_toArray, List.set_cons_zero, List.set_cons_succ]
    refine wpAnyH_take (i := 7) (oi := _) (v := undef) (by rw [List.getElem?_toArray]; rfl) (by kernel_rfl) (by kernel_rfl) (by kernel_rfl) (by exact fun _ _ _ h => h) (Or.inr ⟨by rfl, rfl⟩) (by assumption) ?_
    simp only [Act.put, List.setIfInBounds_toArray, List.set_cons_zero, List.set_cons_succ]
    refine wpAnyH_take (i := 8) (oi := _) (v := undef) (by rw [List.getElem?_toArray]; rfl) (by kernel_rfl) (by kernel_rfl) (by kernel_rfl) (by exact fun _ _ _ h => h) (Or.inr ⟨by rfl, rfl⟩) (by assumption) ?_
    simp only [Act.put, List.setIfInBounds_toArray, List.set_cons_zero, List.set_cons_succ]
    refine wpAnyH_take (i := 9) (oi := _) (v := undef) (by rw [List.getElem?_toArray]; rfl) (by kernel_rfl) (by kernel_rfl) (by kernel_rfl) (by exact fun _ _ _ h => h) (Or.inr ⟨by rfl, rfl⟩) (by assumption) ?_
    simp only [Act.put, List.setIfInBounds_toArray, List.set_cons_zero, List.set_cons_succ]
    refine wpAnyH_take (i := 10) (oi := _) (v := undef) (by rw [List.getElem?_toArray]; rfl) (by kernel_rfl) (by kernel_rfl) (by kernel_rfl) (by exact fun _ _ _ h => h) (Or.inr ⟨by rfl, rfl⟩) (by assumption) ?_
    simp only [Act.put, List.setIfInBounds_toArray, List.set_cons_zero, List.set_cons_succ]
    refine wpAnyH_take (i := 11) (oi := _) (v := ?_) (by rw [List.getElem?_toArray]; rfl) (by kernel_rfl) (by kernel_rfl) (by kernel_rfl) (by exact fun _ _ _ h => h) (Or.inl ⟨by rfl, ?_⟩) (by assumption) ?_
    rotate_left
    · intro w hSw
      try dsimp only at hSw
      go_simp
      try with_reducible rfl
    simp only [Act.put, List.setIfInBounds_toArray, List.set_cons_zero, List.set_cons_succ]
    refine wpAnyH_take (i := 12) (oi := _) (v := ?_) (by rw [List.getElem?_toArray]; rfl) (by kernel_rfl) (by kernel_rfl) (by kernel_rfl) (by exact fun _ _ _ h => h) (Or.inl ⟨by rfl, ?_⟩) (by assumption) ?_
    rotate_left
    · intro w hSw
      try dsimp only at hSw
      go_simp
      try with_reducible rfl
    simp only [Act.put, List.setIfInBounds_toArray, List.set_cons_zero, List.set_cons_succ]
    refine wpAnyH_done (by kernel_rfl) ?_ _
    go_wp2
    go_ret
    exact ⟨ret_bool (by rw [hd]; rfl), hB2'⟩

def overB (ca cb sa sb ea eb : Int) : Bool := decide (ca = cb) && togB sa sb ea eb
theorem over_any (ia fa ca sa ib fb cb sb : Int) (aa ab : Option Addr) (na la nb lb : Nat) (h1 : -1125899906842624 ≤ sa ∧ sa ≤ 1125899906842624) (h2 : -1125899906842624 ≤ sb ∧ sb ≤ 1125899906842624) (h3 : na ≤ 140737488355328) (h4 : nb ≤ 140737488355328) (w : World) :
    Calls Try.prog 15 #[.agg #[.int .i64 ia, .int .i64 fa, .int .i64 ca, .int .i64 sa, .slice aa na la], .agg #[.int .i64 ib, .int .i64 fb, .int .i64 cb, .int .i64 sb, .slice ab nb lb]] w
      fun e w' => e = .returned (.bool (overB ca cb sa sb (endI sa na) (endI sb nb))) ∧ Below w.heap.size w w' := by
  have ct := together_any ia fa ca sa ib fb cb sb aa ab na la nb lb h1 h2 h3 h4
  unfold overB
  obtain ⟨B, hB⟩ : ∃ B, togB sa sb (endI sa na) (endI sb nb) = B := ⟨_, rfl⟩
  rw [hB] at ct ⊢
  have CT := Lib.hid ct
  clear ct hB
  by_cases h : ca = cb
  · subst h
    go_enter Try.func15, Try.ntmps15
    go_wp2_with (go_at_call 33; refine (CT.out _).mono ?_; rintro e w2 ⟨rfl, hB2⟩)
    go_ret
    exact ⟨ret_bool (by simp), (((Below.refl _ _).alloc (Nat.le_refl _) _).alloc (by simp) _).trans (hB2.mono (by simp; omega))⟩
  · have hd : (ca == cb) = false := by simpa using h
    go_enter Try.func15, Try.ntmps15
    go_wp2
    go_ret
    exact ⟨ret_bool (by simp [h]), ((Below.refl _ _).alloc (Nat.le_refl _) _).alloc (by simp) _⟩

set_option linter.unusedSimpArgs false in
set_option maxHeartbeats 1000000 in
theorem rover_any (ia fa ca sa ib fb cb sb : Int) (aa ab : Option Addr) (na la nb lb : Nat) (h1 : -1125899906842624 ≤ sa ∧ sa ≤ 1125899906842624) (h2 : -1125899906842624 ≤ sb ∧ sb ≤ 1125899906842624) (h3 : na ≤ 140737488355328) (h4 : nb ≤ 140737488355328) (w : World) :
    Calls Try.prog 16 #[.agg #[.int .i64 ia, .int .i64 fa, .int .i64 ca, .int .i64 sa, .slice aa na la], .agg #[.int .i64 ib, .int .i64 fb, .int .i64 cb, .int .i64 sb, .slice ab nb lb]] w
      fun e w' => e = .returned (.bool (overB ca cb sa sb (endI sa na) (endI sb nb))) ∧ Below w.heap.size w w' := by
  have c1 := rend_any ia fa ca sa aa na la h1 h3
  have c2 := rend_any ib fb cb sb ab nb lb h2 h4
  obtain ⟨EA, hEA⟩ : ∃ E, endI sa na = E := ⟨_, rfl⟩
  obtain ⟨EB, hEB⟩ : ∃ E, endI sb nb = E := ⟨_, rfl⟩
  rw [hEA] at c1 ⊢
  rw [hEB] at c2 ⊢
  have C1 := Lib.hid c1
  have C2 := Lib.hid c2
  clear c1 c2 hEA hEB
  unfold overB togB
  by_cases hc : ca = cb
  · subst hc
    by_cases h : sa < EB
    · have hd : decide (sa < EB) = true := by simpa using h
      go_enter Try.func16, Try.ntmps16
      go_wp2_with fail
      have T := ten_new w 24 24 (.int .i64 ia) (.int .i64 fa) (.int .i64 ca) (.int .i64 sa) (.slice aa na la) (.int .i64 ib) (.int .i64 fb) (.int .i64 ca) (.int .i64 sb) (.slice ab nb lb)
      have hBW : Below w.heap.size w ((w.alloc (.cells #[.int .i64 ia, .int .i64 fa, .int .i64 ca, .int .i64 sa, .slice aa na la] 24)).alloc (.cells #[.int .i64 ib, .int .i64 fb, .int .i64 ca, .int .i64 sb, .slice ab nb lb] 24)) := ((Below.refl _ _).alloc (Nat.le_refl _) _).alloc (by simp) _
      generalize hW : (w.alloc (.cells _ 24)).alloc (.cells _ 24) = W at T hBW ⊢
      clear hW
      have hBd := hBW.drew
      refine wp_region_held_drew (S := (fun W' : World => W'.cell? ⟨w.heap.size, 0, none⟩ = some (.int .i64 ia) ∧ W'.cell? ⟨w.heap.size, 1, none⟩ = some (.int .i64 fa) ∧ W'.cell? ⟨w.heap.size, 2, none⟩ = some (.int .i64 ca) ∧ W'.cell? ⟨w.heap.size, 3, none⟩ = some (.int .i64 sa) ∧ W'.cell? ⟨w.heap.size, 4, none⟩ = some (.slice aa na la) ∧ W'.cell? ⟨w.heap.size + 1, 0, none⟩ = some (.int .i64 ib) ∧ W'.cell? ⟨w.heap.size + 1, 1, none⟩ = some (.int .i64 fb) ∧ W'.cell? ⟨w.heap.size + 1, 2, none⟩ = some (.int .i64 ca) ∧ W'.cell? ⟨w.heap.size + 1, 3, none⟩ = some (.int .i64 sb) ∧ W'.cell? ⟨w.heap.size + 1, 4, none⟩ = some (.slice ab nb lb))) (by kernel_rfl) (T) (fun hHeld => ?_)
      refine wpAnyH_take (i := 0) (oi := _) (v := ?_) (by rw [List.getElem?_toArray]; rfl) (by kernel_rfl) (by kernel_rfl) (by kernel_rfl) (by exact fun _ _ _ h => h) (Or.inl ⟨by rfl, ?_⟩) (by assumption) ?_
      rotate_left
      · intro w hSw
        try dsimp only at hSw
        go_simp
        try with_reducible rfl
      simp only [Act.put, List.setIfInBounds_toArray, List.set_cons_zero, List.set_cons_succ]
      refine wpAnyH_take (i := 1) (oi := _) (v := ?_) (by rw [List.getElem?_toArray]; rfl) (by kernel_rfl) (by kernel_rfl) (by kernel_rfl) (by exact fun _ _ _ h => h) (Or.inl ⟨by rfl, ?_⟩) (by assumption) ?_
      rotate_left
      · intro w hSw
        try dsimp only at hSw
        go_simp
        try with_reducible rfl
      simp only [Act.put, List.setIfInBounds_toArray, List.set_cons_zero, List.set_cons_succ]
      refine wpAnyH_take (i := 2) (oi := _) (v := ?_) (by rw [List.getElem?_toArray]; rfl) (by kernel_rfl) (by kernel_rfl) (by kernel_rfl) (by exact fun _ _ _ h => h) (Or.inl ⟨by rfl, ?_⟩) (by assumption) ?_
      rotate_left
      · intro w hSw
        try dsimp only at hSw
        go_simp
        try with_reducible rfl
      simp only [Act.put, List.setIfInBounds_toArray, List.set_cons_zero, List.set_cons_succ]
      refine wpAnyH_take (i := 3) (oi := _) (v := ?_) (by rw [List.getElem?_toArray]; rfl) (by kernel_rfl) (by kernel_rfl) (by kernel_rfl) (by exact fun _ _ _ h => h) (Or.inl ⟨by rfl, ?_⟩) (by assumption) ?_
      rotate_left
      · intro w hSw
        try dsimp only at hSw
        go_simp
        try with_reducible rfl
      simp only [Act.put, List.setIfInBounds_toArray, List.set_cons_zero, List.set_cons_succ]
      refine wpAnyH_take (i := 4) (oi := _) (v := ?_) (by rw [List.getElem?_toArray]; rfl) (by kernel_rfl) (by kernel_rfl) (by kernel_rfl) (by exact fun _ _ _ h => h) (Or.inl ⟨by rfl, ?_⟩) (by assumption) ?_
      rotate_left
      · intro w hSw
        try dsimp only at hSw
        go_simp
        try with_reducible rfl
      simp only [Act.put, List.setIfInBounds_toArray, List.set_cons_zero, List.set_cons_succ]
      refine wpAnyH_take (i := 5) (oi := _) (v := ?_) (by rw [List.getElem?_toArray]; rfl) (by kernel_rfl) (by kernel_rfl) (by kernel_rfl) (by exact fun _ _ _ h => h) (Or.inl ⟨by rfl, ?_⟩) (by assumption) ?_
      rotate_left
      · intro w hSw
        try dsimp only at hSw
        go_simp
        try with_reducible rfl
      simp only [Act.put, List.setIfInBounds_toArray, List.set_cons_zero, List.set_cons_succ]
      refine wpAnyH_take (i := 6) (oi := _) (v := ?_) (by rw [List.getElem?_toArray]; rfl) (by kernel_rfl) (by kernel_rfl) (by kernel_rfl) (by exact fun _ _ _ h => h) (Or.inl ⟨by rfl, ?_⟩) (by assumption) ?_
      rotate_left
      · intro w hSw
        try dsimp only at hSw
        go_simp
        try with_reducible rfl
      simp only [Act.put, List.setIfInBounds_toArray, List.set_cons_zero, List.set_cons_succ]
      refine wpAnyH_take (i := 7) (oi := _) (v := ?_) (by rw [List.getElem?_toArray]; rfl) (by kernel_rfl) (by kernel_rfl) (by kernel_rfl) (by exact fun _ _ _ h => h) (Or.inl ⟨by rfl, ?_⟩) (by assumption) ?_
      rotate_left
      · intro w hSw
        try dsimp only at hSw
        go_simp
        try with_reducible rfl
      simp only [Act.put, List.setIfInBounds_toArray, List.set_cons_zero, List.set_cons_succ]
      refine wpAnyH_take (i := 8) (oi := _) (v := ?_) (by rw [List.getElem?_toArray]; rfl) (by kernel_rfl) (by kernel_rfl) (by kernel_rfl) (by exact fun _ _ _ h => h) (Or.inl ⟨by rfl, ?_⟩) (by assumption) ?_
      rotate_left
      · intro w hSw
        try dsimp only at hSw
        go_simp
        try with_reducible rfl
      simp only [Act.put, List.setIfInBounds_toArray, List.set_cons_zero, List.set_cons_succ]
      refine wpAnyH_ready (rs := [9]) (by kernel_rfl) (by simp) (AllReadyH.cons (o := _) (by rw [List.getElem?_toArray]; rfl) (fun K hK => ?_) AllReadyH.nil)
      go_simp
      go_at_call 14
      refine (C2.out _).mono ?_
      rintro e w2 ⟨rfl, hB2⟩
      have T2 := Ten.keep (W := W.drew) T hB2
      have hB2' := hBd.trans (hB2.mono hBd.size)
      clear hHeld
      refine hK.out _ _ (T2) (fun hHeld => ?_)
      clear hK K
      try simp only [Act.put, List.setIfInBounds_toArray, List.set_cons_zero, List.set_cons_succ]
      refine wpAnyH_take (i := 10) (oi := _) (v := ?_) (by rw [List.getElem?_toArray]; rfl) (by kernel_rfl) (by kernel_rfl) (by kernel_rfl) (by exact fun _ _ _ h => h) (Or.inl ⟨by rfl, ?_⟩) (by assumption) ?_
      rotate_left
      · intro w hSw
        try dsimp only at hSw
        go_simp
        try with_reducible rfl
      simp only [Act.put, List.setIfInBounds_toArray, List.set_cons_zero, List.set_cons_succ]
      refine wpAnyH_take (i := 11) (oi := _) (v := ?_) (by rw [List.getElem?_toArray]; rfl) (by kernel_rfl) (by kernel_rfl) (by kernel_rfl) (by exact fun _ _ _ h => h) (Or.inl ⟨by rfl, ?_⟩) (by assumption) ?_
      rotate_left
      · intro w hSw
        try dsimp only at hSw
        go_simp
        try with_reducible rfl
      simp only [Act.put, List.setIfInBounds_toArray, List.set_cons_zero, List.set_cons_succ]
      refine wpAnyH_take (i := 12) (oi := _) (v := ?_) (by rw [List.getElem?_toArray]; rfl) (by kernel_rfl) (by kernel_rfl) (by kernel_rfl) (by exact fun _ _ _ h => h) (Or.inl ⟨by rfl, ?_⟩) (by assumption) ?_
      rotate_left
      · intro w hSw
        try dsimp only at hSw
        go_simp
        try with_reducible rfl
      simp only [Act.put, List.setIfInBounds_toArray, List.set_cons_zero, List.set_cons_succ]
      refine wpAnyH_take (i := 13) (oi := _) (v := ?_) (by rw [List.getElem?_toArray]; rfl) (by kernel_rfl) (by kernel_rfl) (by kernel_rfl) (by exact fun _ _ _ h => h) (Or.inl ⟨by rfl, ?_⟩) (by assumption) ?_
      rotate_left
      · intro w hSw
        try dsimp only at hSw
        go_simp
        try with_reducible rfl
      simp only [Act.put, List.setIfInBounds_toArray, List.set_cons_zero, List.set_cons_succ]
      refine wpAnyH_take (i := 14) (oi := _) (v := ?_) (by rw [List.getElem?_toArray]; rfl) (by kernel_rfl) (by kernel_rfl) (by kernel_rfl) (by exact fun _ _ _ h => h) (Or.inl ⟨by rfl, ?_⟩) (by assumption) ?_
      rotate_left
      · intro w hSw
        try dsimp only at hSw
        go_simp
        try with_reducible rfl
      simp only [Act.put, List.setIfInBounds_toArray, List.set_cons_zero, List.set_cons_succ]
      refine wpAnyH_take (i := 15) (oi := _) (v := ?_) (by rw [List.getElem?_toArray]; rfl) (by kernel_rfl) (by kernel_rfl) (by kernel_rfl) (by exact fun _ _ _ h => h) (Or.inl ⟨by rfl, ?_⟩) (by assumption) ?_
      rotate_left
      · intro w hSw
        try dsimp only at hSw
        go_simp
        try with_reducible rfl
      simp only [Act.put, List.setIfInBounds_toArray, List.set_cons_zero, List.set_cons_succ]
      refine wpAnyH_ready (rs := [16]) (by kernel_rfl) (by simp) (AllReadyH.cons (o := _) (by rw [List.getElem?_toArray]; rfl) (fun K hK => ?_) AllReadyH.nil)
      go_simp
      go_at_call 14
      refine (C1.out _).mono ?_
      rintro e w3 ⟨rfl, hB3⟩
      have T3 := Ten.keep T2 hB3
      clear hHeld
      refine hK.out _ _ (T3) (fun hHeld => ?_)
      clear hK K
      try simp only [Act.put, List.setIfInBounds_toArray, List.set_cons_zero, List.set_cons_succ]
      refine wpAnyH_take (i := 17) (oi := _) (v := ?_) (by rw [List.getElem?_toArray]; rfl) (by kernel_rfl) (by kernel_rfl) (by kernel_rfl) (by exact fun _ _ _ h => h) (Or.inl ⟨by rfl, ?_⟩) (by assumption) ?_
      rotate_left
      · intro w hSw
        try dsimp only at hSw
        go_simp
        try with_reducible rfl
      simp only [Act.put, List.setIfInBounds_toArray, List.set_cons_zero, List.set_cons_succ]
      refine wpAnyH_take (i := 18) (oi := _) (v := ?_) (by rw [List.getElem?_toArray]; rfl) (by kernel_rfl) (by kernel_rfl) (by kernel_rfl) (by exact fun _ _ _ h => h) (Or.inl ⟨by rfl, ?_⟩) (by assumption) ?_
      rotate_left
      · intro w hSw
        try dsimp only at hSw
        go_simp
        try with_reducible rfl
      simp only [Act.put, List.setIfInBounds_toArray, List.set_cons_zero, List.set_cons_succ]
      refine wpAnyH_take (i := 19) (oi := _) (v := ?_) (by rw [List.getElem?_toArray]; rfl) (by kernel_rfl) (by kernel_rfl) (by kernel_rfl) (by exact fun _ _ _ h => h) (Or.inl ⟨by rfl, ?_⟩) (by assumption) ?_
      rotate_left
      · intro w hSw
        try dsimp only at hSw
        go_simp
        try with_reducible rfl
      simp only [Act.put, List.setIfInBounds_toArray, List.set_cons_zero, List.set_cons_succ]
      refine wpAnyH_done (by kernel_rfl) ?_ _
      go_wp2
      go_ret
      exact ⟨ret_bool (by rw [hd]; simp), hB2'.trans (hB3.mono hB2'.size)⟩
    · have hd : decide (sa < EB) = false := by simpa using h
      go_enter Try.func16, Try.ntmps16
      go_wp2_with fail
      have T := ten_new w 24 24 (.int .i64 ia) (.int .i64 fa) (.int .i64 ca) (.int .i64 sa) (.slice aa na la) (.int .i64 ib) (.int .i64 fb) (.int .i64 ca) (.int .i64 sb) (.slice ab nb lb)
      have hBW : Below w.heap.size w ((w.alloc (.cells #[.int .i64 ia, .int .i64 fa, .int .i64 ca, .int .i64 sa, .slice aa na la] 24)).alloc (.cells #[.int .i64 ib, .int .i64 fb, .int .i64 ca, .int .i64 sb, .slice ab nb lb] 24)) := ((Below.refl _ _).alloc (Nat.le_refl _) _).alloc (by simp) _
      generalize hW : (w.alloc (.cells _ 24)).alloc (.cells _ 24) = W at T hBW ⊢
      clear hW
      have hBd := hBW.drew
      refine wp_region_held_drew (S := (fun W' : World => W'.cell? ⟨w.heap.size, 0, none⟩ = some (.int .i64 ia) ∧ W'.cell? ⟨w.heap.size, 1, none⟩ = some (.int .i64 fa) ∧ W'.cell? ⟨w.heap.size, 2, none⟩ = some (.int .i64 ca) ∧ W'.cell? ⟨w.heap.size, 3, none⟩ = some (.int .i64 sa) ∧ W'.cell? ⟨w.heap.size, 4, none⟩ = some (.slice aa na la) ∧ W'.cell? ⟨w.heap.size + 1, 0, none⟩ = some (.int .i64 ib) ∧ W'.cell? ⟨w.heap.size + 1, 1, none⟩ = some (.int .i64 fb) ∧ W'.cell? ⟨w.heap.size + 1, 2, none⟩ = some (.int .i64 ca) ∧ W'.cell? ⟨w.heap.size + 1, 3, none⟩ = some (.int .i64 sb) ∧ W'.cell? ⟨w.heap.size + 1, 4, none⟩ = some (.slice ab nb lb))) (by kernel_rfl) (T) (fun hHeld => ?_)
      refine wpAnyH_take (i := 0) (oi := _) (v := ?_) (by rw [List.getElem?_toArray]; rfl) (by kernel_rfl) (by kernel_rfl) (by kernel_rfl) (by exact fun _ _ _ h => h) (Or.inl ⟨by rfl, ?_⟩) (by assumption) ?_
      rotate_left
      · intro w hSw
        try dsimp only at hSw
        go_simp
        try with_reducible rfl
      simp only [Act.put, List.setIfInBounds_toArray, List.set_cons_zero, List.set_cons_succ]
      refine wpAnyH_take (i := 1) (oi := _) (v := ?_) (by rw [List.getElem?_toArray]; rfl) (by kernel_rfl) (by kernel_rfl) (by kernel_rfl) (by exact fun _ _ _ h => h) (Or.inl ⟨by rfl, ?_⟩) (by assumption) ?_
      rotate_left
      · intro w hSw
        try dsimp only at hSw
        go_simp
        try with_reducible rfl
      simp only [Act.put, List.setIfInBounds_toArray, List.set_cons_zero, List.set_cons_succ]
      refine wpAnyH_take (i := 2) (oi := _) (v := ?_) (by rw [List.getElem?_toArray]; rfl) (by kernel_rfl) (by kernel_rfl) (by kernel_rfl) (by exact fun _ _ _ h => h) (Or.inl ⟨by rfl, ?_⟩) (by assumption) ?_
      rotate_left
      · intro w hSw
        try dsimp only at hSw
        go_simp
        try with_reducible rfl
      simp only [Act.put, List.setIfInBounds_toArray, List.set_cons_zero, List.set_cons_succ]
      refine wpAnyH_take (i := 3) (oi := _) (v := ?_) (by rw [List.getElem?_toArray]; rfl) (by kernel_rfl) (by kernel_rfl) (by kernel_rfl) (by exact fun _ _ _ h => h) (Or.inl ⟨by rfl, ?_⟩) (by assumption) ?_
      rotate_left
      · intro w hSw
        try dsimp only at hSw
        go_simp
        try with_reducible rfl
      simp only [Act.put, List.setIfInBounds_toArray, List.set_cons_zero, List.set_cons_succ]
      refine wpAnyH_take (i := 4) (oi := _) (v := ?_) (by rw [List.getElem?_toArray]; rfl) (by kernel_rfl) (by kernel_rfl) (by kernel_rfl) (by exact fun _ _ _ h => h) (Or.inl ⟨by rfl, ?_⟩) (by assumption) ?_
      rotate_left
      · intro w hSw
        try dsimp only at hSw
        go_simp
        try with_reducible rfl
      simp only [Act.put, List.setIfInBounds_toArray, List.set_cons_zero, List.set_cons_succ]
      refine wpAnyH_take (i := 5) (oi := _) (v := ?_) (by rw [List.getElem?_toArray]; rfl) (by kernel_rfl) (by kernel_rfl) (by kernel_rfl) (by exact fun _ _ _ h => h) (Or.inl ⟨by rfl, ?_⟩) (by assumption) ?_
      rotate_left
      · intro w hSw
        try dsimp only at hSw
        go_simp
        try with_reducible rfl
      simp only [Act.put, List.setIfInBounds_toArray, List.set_cons_zero, List.set_cons_succ]
      refine wpAnyH_take (i := 6) (oi := _) (v := ?_) (by rw [List.getElem?_toArray]; rfl) (by kernel_rfl) (by kernel_rfl) (by kernel_rfl) (by exact fun _ _ _ h => h) (Or.inl ⟨by rfl, ?_⟩) (by assumption) ?_
      rotate_left
      · intro w hSw
        try dsimp only at hSw
        go_simp
        try with_reducible rfl
      simp only [Act.put, List.setIfInBounds_toArray, List.set_cons_zero, List.set_cons_succ]
      refine wpAnyH_take (i := 7) (oi := _) (v := ?_) (by rw [List.getElem?_toArray]; rfl) (by kernel_rfl) (by kernel_rfl) (by kernel_rfl) (by exact fun _ _ _ h => h) (Or.inl ⟨by rfl, ?_⟩) (by assumption) ?_
      rotate_left
      · intro w hSw
        try dsimp only at hSw
        go_simp
        try with_reducible rfl
      simp only [Act.put, List.setIfInBounds_toArray, List.set_cons_zero, List.set_cons_succ]
      refine wpAnyH_take (i := 8) (oi := _) (v := ?_) (by rw [List.getElem?_toArray]; rfl) (by kernel_rfl) (by kernel_rfl) (by kernel_rfl) (by exact fun _ _ _ h => h) (Or.inl ⟨by rfl, ?_⟩) (by assumption) ?_
      rotate_left
      · intro w hSw
        try dsimp only at hSw
        go_simp
        try with_reducible rfl
      simp only [Act.put, List.setIfInBounds_toArray, List.set_cons_zero, List.set_cons_succ]
      refine wpAnyH_ready (rs := [9]) (by kernel_rfl) (by simp) (AllReadyH.cons (o := _) (by rw [List.getElem?_toArray]; rfl) (fun K hK => ?_) AllReadyH.nil)
      go_simp
      go_at_call 14
      refine (C2.out _).mono ?_
      rintro e w2 ⟨rfl, hB2⟩
      have T2 := Ten.keep (W := W.drew) T hB2
      have hB2' := hBd.trans (hB2.mono hBd.size)
      clear hHeld
      refine hK.out _ _ (T2) (fun hHeld => ?_)
      clear hK K
      try simp only [Act.put, List.setIfInBounds_toArray, List.set_cons_zero, List.set_cons_succ]
      refine wpAnyH_take (i := 10) (oi := _) (v := ?_) (by rw [List.getElem?_toArray]; rfl) (by kernel_rfl) (by kernel_rfl) (by kernel_rfl) (by exact fun _ _ _ h => h) (Or.inl ⟨by rfl, ?_⟩) (by assumption) ?_
      rotate_left
      · intro w hSw
        try dsimp only at hSw
        go_simp
        try with_reducible rfl
      simp only [Act.put, List.setIfInBounds_toArray, List.set_cons_zero, List.set_cons_succ]
      refine wpAnyH_take (i := 11) (oi := _) (v := ?_) (by rw [List.getElem?_toArray]; rfl) (by kernel_rfl) (by kernel_rfl) (by kernel_rfl) (by exact fun _ _ _ h => h) (Or.inl ⟨by rfl, ?_⟩) (by assumption) ?_
      rotate_left
      · intro w hSw
        try dsimp only at hSw
        go_simp
        try with_reducible rfl
      simp only [Act.put, List.setIfInBounds_toArray, List.set_cons_zero, List.set_cons_succ]
      refine wpAnyH_take (i := 12) (oi := _) (v := ?_) (by rw [List.getElem?_toArray]; rfl) (by kernel_rfl) (by kernel_rfl) (by kernel_rfl) (by exact fun _ _ _ h => h) (Or.inl ⟨by rfl, ?_⟩) (by assumption) ?_
      rotate_left
      · intro w hSw
        try dsimp only at hSw
        go_simp
        try with_reducible rfl
      simp only [Act.put, List.setIfInBounds_toArray, List.set_cons_zero, List.set_cons_succ]
      refine wpAnyH_take (i := 13) (oi := _) (v := undef) (by rw [List.getElem?_toArray]; rfl) (by kernel_rfl) (by kernel_rfl) (by kernel_rfl) (by exact fun _ _ _ h => h) (Or.inr ⟨by rfl, rfl⟩) (by assumption) ?_
      simp only [Act.put, List.setIfInBounds_toArray, List.set_cons_zero, List.set_cons_succ]
      refine wpAnyH_take (i := 14) (oi := _) (v := undef) (by rw [List.getElem?_toArray]; rfl) (by kernel_rfl) (by kernel_rfl) (by kernel_rfl) (by exact fun _ _ _ h => h) (Or.inr ⟨by rfl, rfl⟩) (by assumption) ?_
      simp only [Act.put, List.setIfInBounds_toArray, List.set_cons_zero, List.set_cons_succ]
      refine wpAnyH_take (i := 15) (oi := _) (v := undef) (by rw [List.getElem?_toArray]; rfl) (by kernel_rfl) (by kernel_rfl) (by kernel_rfl) (by exact fun _ _ _ h => h) (Or.inr ⟨by rfl, rfl⟩) (by assumption) ?_
      simp only [Act.put, List.setIfInBounds_toArray, List.set_cons_zero, List.set_cons_succ]
      refine wpAnyH_take (i := 16) (oi := _) (v := undef) (by rw [List.getElem?_toArray]; rfl) (by kernel_rfl) (by kernel_rfl) (by kernel_rfl) (by exact fun _ _ _ h => h) (Or.inr ⟨by rfl, rfl⟩) (by assumption) ?_
      simp only [Act.put, List.setIfInBounds_toArray, List.set_cons_zero, List.set_cons_succ]
      refine wpAnyH_take (i := 17) (oi := _) (v := undef) (by rw [List.getElem?_toArray]; rfl) (by kernel_rfl) (by kernel_rfl) (by kernel_rfl) (by exact fun _ _ _ h => h) (Or.inr ⟨by rfl, rfl⟩) (by assumption) ?_
      simp only [Act.put, List.setIfInBounds_toArray, List.set_cons_zero, List.set_cons_succ]
      refine wpAnyH_take (i := 18) (oi := _) (v := ?_) (by rw [List.getElem?_toArray]; rfl) (by kernel_rfl) (by kernel_rfl) (by kernel_rfl) (by exact fun _ _ _ h => h) (Or.inl ⟨by rfl, ?_⟩) (by assumption) ?_
      rotate_left
      · intro w hSw
        try dsimp only at hSw
        go_simp
        try with_reducible rfl
      simp only [Act.put, List.setIfInBounds_toArray, List.set_cons_zero, List.set_cons_succ]
      refine wpAnyH_take (i := 19) (oi := _) (v := ?_) (by rw [List.getElem?_toArray]; rfl) (by kernel_rfl) (by kernel_rfl) (by kernel_rfl) (by exact fun _ _ _ h => h) (Or.inl ⟨by rfl, ?_⟩) (by assumption) ?_
      rotate_left
      · intro w hSw
        try dsimp only at hSw
        go_simp
        try with_reducible rfl
      simp only [Act.put, List.setIfInBounds_toArray, List.set_cons_zero, List.set_cons_succ]
      refine wpAnyH_done (by kernel_rfl) ?_ _
      go_wp2
      go_ret
      exact ⟨ret_bool (by rw [hd]; simp), hB2'⟩
  · have hd : (ca == cb) = false := by simpa using hc
    go_enter Try.func16, Try.ntmps16
    go_wp2_with fail
    go_quiet (fail)
    go_wp2
    go_ret
    exact ⟨ret_bool (by simp [hc]), below_drewN (((Below.refl _ _).alloc (Nat.le_refl _) _).alloc (by simp) _) _⟩
end Go.Proofs.Ythemdbgcamkecaa
