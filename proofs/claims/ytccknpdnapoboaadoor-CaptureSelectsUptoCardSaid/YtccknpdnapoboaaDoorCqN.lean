/- capture: fits, copied, Select; Select of the reference. -/
import Derived.Test.YtccknpdnapoboaaDoorCqL
namespace Go.Proofs.YtccknpdnapoboaaDoor
open Go.RowKit

/-- a row of records of the call's own; their bytes may lie anywhere -/
structure CpJ (base e : Nat) (w : World) (out : Value) (ts : List Cp) (vs : List Value) : Prop where
  len : ts.length = vs.length
  own : w.ownsRow base e 5 out ts.length (cpcells ts vs)
  rd : ∀ j (h : j < ts.length) (h' : j < vs.length), BytesAt w vs[j] ts[j].bs ∧ (ts[j].bs = [] ∨ ∃ b, vs[j].ownBlock = some b ∧ b < w.heap.size ∧ out.ownBlock ≠ some b)
theorem CpJ.nil (base e : Nat) (w : World) : CpJ base e w (.slice none 0 0) [] [] := ⟨rfl, ⟨rfl, .inl ⟨rfl, rfl⟩⟩, fun j h => absurd h (by simp)⟩
theorem CpJ.below {base e : Nat} {w w' : World} {out : Value} {ts : List Cp} {vs : List Value} (h : CpJ base e w out ts vs) (hb : Below w.heap.size w w') : CpJ base e w' out ts vs :=
  ⟨h.len, own_below h.own hb, fun j h1 h2 => ⟨(h.rd j h1 h2).1.below hb, (h.rd j h1 h2).2.imp id (fun ⟨b, e1, e2, e3⟩ => ⟨b, e1, Nat.lt_of_lt_of_le e2 hb.size, e3⟩)⟩⟩
theorem CpJ.push {base e : Nat} {W w' : World} {out out' : Value} {ts : List Cp} {vs : List Value} (h : CpJ base e W out ts vs) {t : Cp} {v : Value} (hv : BytesAt W v t.bs)
    (hb : t.bs = [] ∨ ∃ b, v.ownBlock = some b ∧ b < W.heap.size ∧ out.ownBlock ≠ some b)
    (hown : w'.ownsRow base e 5 out' (ts.length + 1) (cpcells ts vs ++ [.int .i64 t.t, .int .i64 t.c, .int .i64 t.f, .int .i64 t.k, v])) (hg : W.grownBy w' out.ownBlock)
    (ho' : out'.ownBlock = out.ownBlock ∨ out'.ownBlock = some W.heap.size) : CpJ base e w' out' (ts ++ [t]) (vs ++ [v]) := by
  have key : ∀ (x : Value) (bs : List Nat), BytesAt W x bs → (bs = [] ∨ ∃ b, x.ownBlock = some b ∧ b < W.heap.size ∧ out.ownBlock ≠ some b) →
      BytesAt w' x bs ∧ (bs = [] ∨ ∃ b, x.ownBlock = some b ∧ b < w'.heap.size ∧ out'.ownBlock ≠ some b) := fun x bs hx hor => by
    refine ⟨⟨hx.1.grown hg ?_, hx.2⟩, ?_⟩
    · rcases hor with h | ⟨b, e1, _, e3⟩
      · exact .inl (by rw [h]; rfl)
      · exact .inr ⟨b, e1, e3⟩
    · rcases hor with h | ⟨b, e1, e2, e3⟩
      · exact .inl h
      · refine .inr ⟨b, e1, Nat.lt_of_lt_of_le e2 hg.size, ?_⟩
        rcases ho' with h | h
        · rw [h]; exact e3
        · rw [h]; intro e; cases e; omega
  refine ⟨by simp [h.len], by rw [cpcells_snoc _ _ _ _ h.len]; simpa using hown, fun j h1 h2 => ?_⟩
  have hl := h.len
  by_cases hj : j < ts.length
  · obtain ⟨q1, q3⟩ := h.rd j hj (by omega)
    simp only [List.getElem_append_left hj, List.getElem_append_left (show j < vs.length by omega)]
    obtain ⟨k1, k2⟩ := key _ _ q1 q3
    exact ⟨k1, k2⟩
  · simp at h1
    have e1 : j = ts.length := by omega
    subst e1
    have e2 : (vs ++ [v])[ts.length] = v := by simp [hl]
    have e3 : (ts ++ [t])[ts.length] = t := by simp
    rw [e2, e3]
    obtain ⟨k1, k2⟩ := key _ _ hv hb
    exact ⟨k1, k2⟩
theorem CpJ.cps {base e : Nat} {w : World} {out : Value} {ts : List Cp} {vs : List Value} (h : CpJ base e w out ts vs) : Cps w out ts := by
  have one : ∀ (l : List Cp) (us : List Value), l.length = us.length → (∀ j (h : j < us.length), us[j].oneCell' = true) → ∀ u ∈ cpcells l us, u.oneCell' = true := by
    intro l
    induction l with
    | nil => intro us _ _ u hu; cases us <;> simp [cpcells] at hu
    | cons t l ih =>
      intro us hl hj u hu
      match us, hl, hj with
      | v :: us, hl, hj =>
        simp only [cpcells, List.mem_cons] at hu
        rcases hu with rfl | rfl | rfl | rfl | rfl | hu
        · rfl
        · rfl
        · rfl
        · rfl
        · exact hj 0 (by simp)
        · exact ih us (by simpa using hl) (fun j h => hj (j + 1) (by simpa using h)) u hu
  have hl := h.len
  have hsr := SR.of_own h.own (one ts vs h.len (fun j hj => by
    obtain ⟨ao, cap, e⟩ := (h.rd j (by omega) hj).1.1.val
    rw [e]; rfl)) (cap_of h.own)
  obtain ⟨h1, _, _, ao, cap, rfl, _, hc⟩ := hsr
  refine ⟨h1, ao, cap, rfl, fun h0 => ?_⟩
  obtain ⟨b, off, rfl, hb, hcell⟩ := hc h0
  refine ⟨b, off, rfl, hb, fun k hk => ?_⟩
  obtain ⟨g0, g1, g2, g3, g4⟩ := cpcells_get ts vs k hk (by omega)
  have hby := (h.rd k hk (by omega)).1
  obtain ⟨a, c, e⟩ := hby.1.val
  rw [e] at hby g4
  exact ⟨a, c, hcell _ _ g0, hcell _ _ g1, hcell _ _ g2, hcell _ _ g3, hcell _ _ g4, hby⟩


def fitB (x y : Int) : Bool := decide (x = -1) || decide (x = y)
theorem fits_any (x y : Int) (w : World) : Calls Tryd.prog 38 #[.int .i64 x, .int .i64 y] w fun e w' => e = .returned (.bool (fitB x y)) ∧ w = w' := by
  unfold fitB
  by_cases h1 : x = -1
  · have t1 : (x == -1) = true := by simpa using h1
    rw [decide_eq_true h1, Bool.true_or]
    clear h1
    go_enter Tryd.func38, Tryd.ntmps38
    go_wp2
    go_ret
    exact ⟨rfl, rfl⟩
  · have t1 : (x == -1) = false := by simpa using h1
    rw [decide_eq_false h1, Bool.false_or]
    obtain ⟨B, hB⟩ : ∃ B, decide (x = y) = B := ⟨_, rfl⟩
    have t2 : (x == y) = B := by rw [← hB]; rfl
    rw [hB]
    clear h1 hB
    go_enter Tryd.func38, Tryd.ntmps38
    go_wp2
    go_ret
    exact ⟨rfl, rfl⟩
set_option linter.unusedSimpArgs false in
set_option maxRecDepth 100000 in
set_option maxHeartbeats 2000000 in
theorem copied_any (T C F KD : Int) (a : Option Addr) (L c : Nat) (bs : List Nat) (hL : bs.length = L) (w : World) (h : BytesAt w (.slice a L c) bs) :
    Calls Tryd.prog 39 #[.agg #[.int .i64 T, .int .i64 C, .int .i64 F, .int .i64 KD, .slice a L c]] w fun e w' => ∃ xa xc, e = .returned (.agg #[.int .i64 T, .int .i64 C, .int .i64 F, .int .i64 KD, .slice xa L xc]) ∧ BytesAt w' (.slice xa L xc) bs ∧ Own w.heap.size (.slice xa L xc) ∧ Below w.heap.size w w' := by
  have hm : bs.length ≤ 140737488351232 := by have := h.2.1; unfold reachBytes at this; omega
  have hn1 := heap_alloc_new w (.cells #[.int .i64 T, .int .i64 C, .int .i64 F, .int .i64 KD, .slice a L c] 35)
  have ha1 : Below w.heap.size w (w.alloc (.cells #[.int .i64 T, .int .i64 C, .int .i64 F, .int .i64 KD, .slice a L c] 35)) := (Below.refl _ _).alloc (Nat.le_refl _) _
  obtain ⟨V, hV⟩ : ∃ V, w.alloc (.cells #[.int .i64 T, .int .i64 C, .int .i64 F, .int .i64 KD, .slice a L c] 35) = V := ⟨_, rfl⟩
  have hVs : V.heap.size = w.heap.size + 1 := by rw [← hV]; simp
  rw [hV] at hn1 ha1
  have hn2 := heap_alloc_new V (.cells #[.int .i64 0, .int .i64 0, .int .i64 0, .int .i64 0, .slice none 0 0] 35)
  have ha2 : Below V.heap.size V (V.alloc (.cells #[.int .i64 0, .int .i64 0, .int .i64 0, .int .i64 0, .slice none 0 0] 35)) := (Below.refl _ _).alloc (Nat.le_refl _) _
  obtain ⟨U, hU⟩ : ∃ U, V.alloc (.cells #[.int .i64 0, .int .i64 0, .int .i64 0, .int .i64 0, .slice none 0 0] 35) = U := ⟨_, rfl⟩
  have hUs : U.heap.size = w.heap.size + 2 := by rw [← hU]; simp [hVs]
  rw [hU] at hn2 ha2
  rw [hVs] at hn2
  have h1 := (ha2.block _ (by omega : w.heap.size < V.heap.size)).trans hn1
  have hbU := (h.below ha1).below ha2
  have hB2 := ha1.trans (ha2.mono (by omega))
  have hj := join1_any (.slice a L c) bs 25 U hbU (by omega)
  rw [hUs] at hj
  have g0 := cell_of_row _ _ 0 _ _ _ h1
  have g1 := cell_of_row _ _ 1 _ _ _ h1
  have g2 := cell_of_row _ _ 2 _ _ _ h1
  have g3 := cell_of_row _ _ 3 _ _ _ h1
  have g4 := cell_of_row _ _ 4 _ _ _ h1
  simp at g0 g1 g2 g3 g4
  have HJ := Lib.hid hj
  have HH1 := Lib.hid h1
  have HH2 := Lib.hid hn2
  have HB2 := Lib.hid hB2
  have HLT := Lib.hid hbU.2
  clear hj h1 hn1 ha1 hn2 ha2 hbU hB2 h
  go_enter Tryd.func39, Tryd.ntmps39
  go_upto_region 1 with fail
  try rw [hV]
  try rw [hU]
  clear hV hU
  go_wp2_with fail
  refine HJ.out.mono ?_
  rintro e w3 ⟨v3, rfl, hown3, hB3⟩
  have hUA : Below U.heap.size U w3 := ((Below.refl U.heap.size U).alloc (Nat.le_refl _) (.cells #[.slice a L c] 25)).trans (hB3.mono (by omega))
  have h1 := (hUA.block _ (by omega : w.heap.size < U.heap.size)).trans HH1.out
  have h2 := (hUA.block _ (by omega : w.heap.size + 1 < U.heap.size)).trans HH2.out
  have hb3 := bytesAt_of_own hown3 rfl HLT.out.2 (by omega)
  obtain ⟨xa, xc, rfl⟩ := hb3.1.val
  rw [hL] at hb3 hown3 ⊢
  have hol := hown3.lt
  have hsz3 := hUA.size
  have HB3 := Lib.hid (HB2.out.trans (hUA.mono HB2.out.size))
  clear g0 g1 g2 g3 g4 HJ HH1 HH2 HB2 hUA hB3 hown3
  have g0 := cell_of_row _ _ 0 _ _ _ h1
  have g1 := cell_of_row _ _ 1 _ _ _ h1
  have g2 := cell_of_row _ _ 2 _ _ _ h1
  have g3 := cell_of_row _ _ 3 _ _ _ h1
  have g4 := cell_of_row _ _ 4 _ _ _ h1
  simp at g0 g1 g2 g3 g4
  have z4 := frozen_of_row _ _ 4 _ _ h1
  go_upto_region 2 with fail
  generalize hX : World.setCell w3 _ _ = X
  have h1X := heap_setCell_same w3 w.heap.size 4 _ _ (.slice xa L xc) h1
  simp only [List.setIfInBounds_toArray, List.set_cons_zero, List.set_cons_succ] at h1X
  rw [hX] at h1X
  have hgX := set1 w3 ⟨w.heap.size, 4, none⟩ (.slice xa L xc)
  rw [hX] at hgX
  have h2X := (hgX.block (w.heap.size + 1) (by omega) (by simp)).trans h2
  have hbX := hb3.grownE hgX (.inr fun k hk e => by
    have := (hol k hk).1
    simp at e
    omega)
  have hBX := HB3.out.grown hgX (by omega) (fun q hq => by simp at hq; omega)
  have HBX := Lib.hid hBX
  have hszX := hgX.size
  clear hX h1 h2 hb3 hgX hBX g0 g1 g2 g3 g4 z4 HB3
  have g0 := cell_of_row _ _ 0 _ _ _ h1X
  have g1 := cell_of_row _ _ 1 _ _ _ h1X
  have g2 := cell_of_row _ _ 2 _ _ _ h1X
  have g3 := cell_of_row _ _ 3 _ _ _ h1X
  have g4 := cell_of_row _ _ 4 _ _ _ h1X
  simp at g0 g1 g2 g3 g4
  have HHX := Lib.hid h2X
  have k0 := cell_of_row _ _ 0 _ _ _ h2X
  have k1 := cell_of_row _ _ 1 _ _ _ h2X
  have k2 := cell_of_row _ _ 2 _ _ _ h2X
  have k3 := cell_of_row _ _ 3 _ _ _ h2X
  have k4 := cell_of_row _ _ 4 _ _ _ h2X
  simp at k0 k1 k2 k3 k4
  have z0 := frozen_of_row _ _ 0 _ _ h2X
  have z1 := frozen_of_row _ _ 1 _ _ h2X
  have z2 := frozen_of_row _ _ 2 _ _ h2X
  have z3 := frozen_of_row _ _ 3 _ _ h2X
  have z4 := frozen_of_row _ _ 4 _ _ h2X
  clear h1X h2X
  go_wp2_with fail
  generalize hY : World.setCell _ _ _ = Y
  obtain ⟨hY5, hgY⟩ := set5 HHX.out hY
  clear hY g0 g1 g2 g3 g4 k0 k1 k2 k3 k4 z0 z1 z2 z3 z4
  have hbY := hbX.grownE hgY (.inr fun k hk e => by
    have := (hol k hk).1
    omega)
  have hBY := HBX.out.grown hgY (by omega) (fun q hq => by cases hq; omega)
  have r0 := cell_of_row _ _ 0 _ _ _ hY5
  have r1 := cell_of_row _ _ 1 _ _ _ hY5
  have r2 := cell_of_row _ _ 2 _ _ _ hY5
  have r3 := cell_of_row _ _ 3 _ _ _ hY5
  have r4 := cell_of_row _ _ 4 _ _ _ hY5
  simp at r0 r1 r2 r3 r4
  refine bodyPost_ret (v := .agg #[.int .i64 T, .int .i64 C, .int .i64 F, .int .i64 KD, .slice xa L xc]) (by simp [results, Tryd.results39, go_sem, r0, r1, r2, r3, r4]) rfl ?_
  exact ⟨xa, xc, rfl, hbY, fun k hk => by have := (hol k hk).1; omega, hBY⟩
end Go.Proofs.YtccknpdnapoboaaDoor
