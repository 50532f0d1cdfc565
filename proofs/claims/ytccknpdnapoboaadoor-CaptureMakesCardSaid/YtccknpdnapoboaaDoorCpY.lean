/- capture.record. -/
import Derived.Test.YtccknpdnapoboaaDoorCpR
import Derived.Test.YtccknpdnapoboaaDoorCpD
import Derived.Test.YtccknpdnapoboaaDoorCpU
import Derived.Deep.DeepCutAuto
import Derived.Deep.CutRange
import Derived.Deep.RegionHeld3
namespace Go.Proofs.YtccknpdnapoboaaDoor
open Go.RowKit

theorem alloc_named {W X : World} {o : Obj} (h : W.alloc o = X) : X.heap[W.heap.size]? = some o ∧ Below W.heap.size W X ∧ X.heap.size = W.heap.size + 1 := by
  subst h
  exact ⟨heap_alloc_new W o, (Below.refl _ _).alloc (Nat.le_refl _) _, by simp⟩
theorem set1 (W : World) (p : Addr) (u : Value) : W.grownBy (W.setCell p u) (some p.block) :=
  ⟨rfl, rfl, rfl, by simp [World.setCell], fun k _ hne => heap_setCell_other _ _ _ _ (fun e => hne (by rw [e]))⟩
set_option linter.unusedSimpArgs false in
theorem set5 {W X : World} {i : Nat} {t : TypeId} {x0 x1 x2 x3 x4 y0 y1 y2 y3 y4 : Value} (h : W.heap[i]? = some (.cells #[x0, x1, x2, x3, x4] t (0, 0)))
    (hX : ((((W.setCell ⟨i, 0, none⟩ y0).setCell ⟨i, 1, none⟩ y1).setCell ⟨i, 2, none⟩ y2).setCell ⟨i, 3, none⟩ y3).setCell ⟨i, 4, none⟩ y4 = X) :
    X.heap[i]? = some (.cells #[y0, y1, y2, y3, y4] t (0, 0)) ∧ W.grownBy X (some i) := by
  subst hX
  refine ⟨?_, (((((set1 W ⟨i, 0, none⟩ y0).trans (set1 _ ⟨i, 1, none⟩ y1)).trans (set1 _ ⟨i, 2, none⟩ y2)).trans (set1 _ ⟨i, 3, none⟩ y3)).trans (set1 _ ⟨i, 4, none⟩ y4))⟩
  · have h0 := heap_setCell_same W i 0 _ t y0 h
    simp only [List.setIfInBounds_toArray, List.set_cons_zero, List.set_cons_succ] at h0
    have h1 := heap_setCell_same _ i 1 _ t y1 h0
    simp only [List.setIfInBounds_toArray, List.set_cons_zero, List.set_cons_succ] at h1
    have h2 := heap_setCell_same _ i 2 _ t y2 h1
    simp only [List.setIfInBounds_toArray, List.set_cons_zero, List.set_cons_succ] at h2
    have h3 := heap_setCell_same _ i 3 _ t y3 h2
    simp only [List.setIfInBounds_toArray, List.set_cons_zero, List.set_cons_succ] at h3
    have h4 := heap_setCell_same _ i 4 _ t y4 h3
    simp only [List.setIfInBounds_toArray, List.set_cons_zero, List.set_cons_succ] at h4
    exact h4
theorem Cells.grown {W X : World} {i : Nat} (hg : W.grownBy X (some i)) : ∀ {l : List (Nat × Nat × Value)}, Cells W l → (∀ x ∈ l, x.1 ≠ i) → Cells X l
  | [], _, _ => trivial
  | (b, o, v) :: l, h, hne => ⟨(World.cell?_of_block (a := ⟨b, o, none⟩) (hg.block b (World.block_lt_of_cell? W _ h.1) (fun e => hne (b, o, v) (by simp) (by simpa using e)))).trans h.1, Cells.grown hg h.2 (fun x hx => hne x (by simp [hx]))⟩
theorem BytesAt.grown {w w' : World} {v : Value} {bs : List Nat} {i : Nat} (h : BytesAt w v bs) (hg : w.grownBy w' (some i)) (hne : v.ownBlock ≠ some i) : BytesAt w' v bs := by
  refine ⟨h.1.grown hg ?_, h.2⟩
  rcases h.nil_or with e | ⟨b, e1, _⟩
  · exact .inl (by rw [e]; rfl)
  · exact .inr ⟨b, e1, fun e => hne (by rw [e1]; exact e.symm)⟩
/-- one element -/
theorem sr_one {w : World} {i : Nat} {t : TypeId} {x : Value} (h : w.heap[i]? = some (.cells #[x] t (0, 0))) (hx : x.oneCell' = true) : SR w (.slice (some ⟨i, 0, none⟩) 1 1) 1 1 [x] :=
  ⟨by unfold maxLen; simp, rfl, by simpa using hx, some ⟨i, 0, none⟩, 1, rfl, fun h => (by cases h), fun _ => ⟨i, 0, rfl, (Array.getElem?_eq_some_iff.1 h).1, fun j u hj => by
    match j, hj with
    | 0, hj =>
      simp at hj
      subst hj
      exact cell_of_row _ _ 0 _ _ _ h⟩⟩
/-- Join of one slice, wherever it lies -/
theorem joinO_any (x : Value) (ds : List Nat) (L : Nat) (hL : ds.length = L) (v : Value) (w : World) (hv : SR w v 1 1 [x]) (h : BytesAt w x ds) (hm : L ≤ 100000) :
    Calls Tryd.prog 31 #[v] w fun e w' => ∃ a c, e = .returned (.slice a L c) ∧ BytesAt w' (.slice a L c) ds ∧ (∀ k, (Value.slice a L c).ownBlock = some k → w.heap.size ≤ k ∧ k < w'.heap.size) ∧ Below w.heap.size w w' := by
  subst hL
  refine (join_any v [(x, ds)] w hv (by simpa using h) (by simpa using (by omega : ds.length ≤ 140737488351232)) (by simp)).mono ?_
  rintro e w' ⟨v', rfl, hown, hB⟩
  simp only [List.flatMap_cons, List.flatMap_nil, List.append_nil] at hown
  have hby := bytesAt_of_own hown rfl h.2.2 (by omega)
  obtain ⟨a, c, rfl⟩ := hby.1.val
  exact ⟨a, c, rfl, hby, fun k hk => hown.lt k hk, hB⟩
/-- what record hands back, or how it ends -/
def RecP (w : World) (L : Nat) (T C F K : Nat) (ds : List Nat) (E : Int) (e : Ending) (w' : World) : Prop :=
  Below w.heap.size w w' ∧ (E ≠ 0 → e = .panicked [stp E false]) ∧
    (E = 0 → ∃ a' c', e = .returned (.tuple #[.agg #[.int .i64 T, .int .i64 C, .int .i64 F, .int .i64 K, .slice a' L c'], .int .i64 (16 + L : Nat)]) ∧ BytesO w.heap.size w' (.slice a' L c') ds)
theorem RecP.err {w w' : World} {L T C F K : Nat} {ds : List Nat} {E : Int} (hE : E ≠ 0) (hB : Below w.heap.size w w') : RecP w L T C F K ds E (.panicked [stp E false]) w' :=
  ⟨hB, fun _ => rfl, fun h => absurd h hE⟩
/-- the sizes of a record's numbers -/
def sz5 : List Nat := [8, 1, 1, 1, 2]
theorem take1_get (bs : List Nat) (i : Nat) (h : i < bs.length) : vnum ((bs.drop i).take 1) = bs.getD i 0 := by
  rw [List.drop_eq_getElem_cons h, List.take_succ_cons, List.take_zero, List.getD_eq_getElem?_getD, List.getElem?_eq_getElem h]
  simp [vnum]
theorem tk5 (bs : List Nat) (h : 13 ≤ bs.length) : tk sz5 bs = [vnum (bs.take 8), bs.getD 8 0, bs.getD 9 0, bs.getD 10 0, r1L bs] := by
  have e : tk sz5 bs = [vnum (bs.take 8), vnum ((bs.drop 8).take 1), vnum (((bs.drop 8).drop 1).take 1), vnum ((((bs.drop 8).drop 1).drop 1).take 1), vnum (((((bs.drop 8).drop 1).drop 1).drop 1).take 2)] := rfl
  rw [e]
  simp only [List.drop_drop, Nat.reduceAdd]
  rw [take1_get bs 8 (by omega), take1_get bs 9 (by omega), take1_get bs 10 (by omega)]
  rfl
set_option maxRecDepth 100000 in
theorem take5_any (a : Option Addr) (n c : Nat) (bs : List Nat) (X : World) (h : BytesAt X (.slice a n c) bs) (hn : bs.length = n) (hc : n ≤ c) (h13 : 13 ≤ n) (hm : n ≤ 100000) :
    Calls Tryd.prog 56 #[.slice a n c, .slice (some ⟨X.heap.size, 0, none⟩) 5 5] (X.alloc (.cells #[.int .i64 8, .int .i64 1, .int .i64 1, .int .i64 1, .int .i64 2] 3)) fun e w' => ∃ g c1 v2,
      e = .returned (.tuple #[.slice (some ⟨g, 0, none⟩) 5 c1, v2, .int .i64 0]) ∧ g < w'.heap.size ∧ Cells w' (blk g 0 0 [.int .u64 (vnum (bs.take 8) : Nat), .int .u64 (bs.getD 8 0 : Nat), .int .u64 (bs.getD 9 0 : Nat), .int .u64 (bs.getD 10 0 : Nat), .int .u64 (r1L bs : Nat)]) ∧ Below X.heap.size X w' := by
  have bP := Blk.new X 3 [.int .i64 8, .int .i64 1, .int .i64 1, .int .i64 1, .int .i64 2]
  have hb : Below X.heap.size X (X.alloc (.cells #[.int .i64 8, .int .i64 1, .int .i64 1, .int .i64 1, .int .i64 2] 3)) := (Below.refl _ _).alloc (Nat.le_refl _) _
  have ht := take_any a c (.slice (some ⟨X.heap.size, 0, none⟩) 5 5) bs sz5 n 5 _ (h.below hb) hn hc ⟨by unfold maxLen sz5; simp, rfl, by simp [icells, sz5, Value.oneCell'], some ⟨X.heap.size, 0, none⟩, 5, rfl, fun h => (by cases h), fun _ => ⟨X.heap.size, 0, rfl, bP.lt, fun j u hj => by rw [Nat.zero_add]; exact bP.cell hj⟩⟩
    (by unfold sz5; decide) rfl (by omega) (by omega)
  refine ht.mono ?_
  rintro e w' ⟨v1, v2, rfl, hB, hr⟩
  have hs13 : sz5.sum = 13 := rfl
  rw [hs13] at hr ⊢
  obtain ⟨hown, _⟩ := hr (by omega)
  rw [tk5 bs (by omega)] at hown
  obtain ⟨g, c1, rfl⟩ := ownsRow_succ (k := 4) hown
  refine ⟨g, c1, v2, by rw [if_neg (by omega)], (hown.lt g rfl).2, ?_, hb.trans (hB.mono hb.size)⟩
  have q := fun j (hj : j < 5) => hown.cellAt j hj
  exact ⟨q 0 (by decide), q 1 (by decide), q 2 (by decide), q 3 (by decide), q 4 (by decide), trivial⟩
set_option linter.unusedSimpArgs false in
set_option linter.unusedVariables false in
set_option maxRecDepth 100000 in
set_option maxHeartbeats 8000000 in
theorem record_any (a : Option Addr) (n c : Nat) (bs : List Nat) (last : Int) (w : World) (hs : Sums w) (h : BytesAt w (.slice a n c) bs) (hn : bs.length = n) (hc : n ≤ c) (hm : n ≤ 100000) :
    Calls Tryd.prog 36 #[.slice a n c, .int .i64 last] w (RecP w (r1L bs) (vnum (bs.take 8)) (bs.getD 8 0) (bs.getD 9 0) (bs.getD 10 0) ((bs.drop 13).take (r1L bs)) (r1E bs last)) := by
  have hE0 : r1E bs last = if bs.length < 13 then 3 else if 260 < r1L bs then 4 else if bs.length < 16 + r1L bs then 3 else
    if vnum ((bs.drop (r1L bs + 13)).take 3) ≠ sumF 0 (bs.take (r1L bs + 13)) then 10 else if cpE (r1R bs) ≠ 0 then 5 else if (r1R bs).t < last then 13 else 0 := rfl
  have hR0 : r1R bs = ⟨vnum (bs.take 8), (bs.getD 8 0 : Nat), (bs.getD 9 0 : Nat), (bs.getD 10 0 : Nat), (bs.drop 13).take (r1L bs)⟩ := rfl
  obtain ⟨E, hE⟩ : ∃ E, r1E bs last = E := ⟨_, rfl⟩
  rw [hE, hn] at hE0
  rw [hE]
  clear hE
  have HBY := Lib.hid h
  have HN := Lib.hid hn
  by_cases h13 : n < 13
  · rw [if_pos h13] at hE0
    subst hE0
    have t1 : decide (13 ≤ n) = false := by simp; omega
    have t1' : decide ((13 : Int) ≤ (n : Int)) = false := by simp; omega
    clear hR0 hs h HBY hn HN
    go_enter Tryd.func36, Tryd.ntmps36
    go_wp2_with fail
    refine (need_no 3 _).mono ?_
    rintro e w' ⟨rfl, rfl⟩
    go_wp2
    exact ⟨rfl, RecP.err (by decide) ((Below.refl _ _).alloc (Nat.le_refl _) _)⟩
  rw [if_neg h13] at hE0
  have t1 : decide (13 ≤ n) = true := by simp; omega
  have t1' : decide ((13 : Int) ≤ (n : Int)) = true := by simp; omega
  have hT64 : vnum (bs.take 8) < 18446744073709551616 := by
    have := vnum_lt (bs.take 8) (fun x hx => h.2.2 x (List.mem_of_mem_take hx))
    rw [List.length_take, Nat.min_eq_left (by omega)] at this
    exact this
  have hget : ∀ i, i < n → bs.getD i 0 < 256 := fun i hi => by
    rw [List.getD_eq_getElem?_getD, List.getElem?_eq_getElem (by omega)]
    exact h.2.2 _ (List.getElem_mem _)
  have hC := hget 8 (by omega)
  have hF := hget 9 (by omega)
  have hKD := hget 10 (by omega)
  have hL : r1L bs < 65536 := by
    have := vnum_lt ((bs.drop 11).take 2) (fun x hx => h.2.2 x (List.mem_of_mem_drop (List.mem_of_mem_take hx)))
    rw [List.length_take, List.length_drop, Nat.min_eq_left (by omega)] at this
    exact this
  have htake := fun X (hX : Below w.heap.size w X) => take5_any a n c bs X (h.below hX) hn hc (by omega) hm
  obtain ⟨T, hT⟩ : ∃ T, vnum (bs.take 8) = T := ⟨_, rfl⟩
  obtain ⟨C, hCC⟩ : ∃ C, bs.getD 8 0 = C := ⟨_, rfl⟩
  obtain ⟨F, hFF⟩ : ∃ F, bs.getD 9 0 = F := ⟨_, rfl⟩
  obtain ⟨KD, hKK⟩ : ∃ KD, bs.getD 10 0 = KD := ⟨_, rfl⟩
  obtain ⟨L, hLL⟩ : ∃ L, r1L bs = L := ⟨_, rfl⟩
  simp only [hT, hCC, hFF, hKK, hLL] at hE0 hR0 hT64 hC hF hKD hL htake ⊢
  have HT := Lib.hid htake
  clear hget htake hT hCC hFF hKK hLL hn
  have HR := Lib.hid hR0
  have HE := Lib.hid hE0
  have HBY0 := Lib.hid h
  have HS := Lib.hid hs
  clear hE0 h hs
  have hb0 : Below w.heap.size w (w.alloc (.cells #[.int .i64 0, .int .i64 0, .int .i64 0, .int .i64 0, .slice none 0 0] 35)) := (Below.refl _ _).alloc (Nat.le_refl _) _
  have ht0 := HT.out _ hb0
  rw [show (w.alloc (.cells #[.int .i64 0, .int .i64 0, .int .i64 0, .int .i64 0, .slice none 0 0] 35)).heap.size = w.heap.size + 1 by simp] at ht0
  have HT0 := Lib.hid ht0
  clear hR0 HT ht0
  have cL : IntKind.i64.wrap (L : Int) = (L : Int) := IntWalk.i64_in _ (by omega)
  have cC : IntKind.i64.wrap (C : Int) = (C : Int) := IntWalk.i64_in _ (by omega)
  have cF : IntKind.i64.wrap (F : Int) = (F : Int) := IntWalk.i64_in _ (by omega)
  have cK : IntKind.i64.wrap (KD : Int) = (KD : Int) := IntWalk.i64_in _ (by omega)
  go_enter Tryd.func36, Tryd.ntmps36
  go_wp2_with fail
  refine (need_ok 3 _).mono ?_
  rintro e w' ⟨rfl, rfl⟩
  go_wp2_with fail
  refine HT0.out.mono ?_
  rintro e w1 ⟨g, c1, v2, rfl, hg, hcs, hB1⟩
  have HB1 := Lib.hid (hb0.trans (hB1.mono (Nat.le_succ _)))
  have hsz1 : w.heap.size < w1.heap.size := by have := hB1.size; simp at this; omega
  have q4 : w1.cell? ⟨g, 4, none⟩ = some (.int .u64 (L : Int)) := hcs.2.2.2.2.1
  have q0 : w1.cell? ⟨g, 0, none⟩ = some (.int .u64 (T : Int)) := hcs.1
  have HK1 := Lib.hid ((hB1.block _ (Nat.lt_succ_self _)).trans (heap_alloc_new w (.cells #[.int .i64 0, .int .i64 0, .int .i64 0, .int .i64 0, .slice none 0 0] 35)))
  have HCS := Lib.hid hcs
  clear hB1 hb0 HT0 hcs
  go_wp2_with fail
  refine (need_ok 0 _).mono ?_
  rintro e w' ⟨rfl, rfl⟩
  by_cases h260 : 260 < L
  · have hE0 := HE.out
    rw [if_pos h260] at hE0
    subst hE0
    clear HE
    have t2 : decide (L ≤ 260) = false := by simp; omega
    have t2' : decide ((L : Int) ≤ (260 : Int)) = false := by simp; omega
    go_wp2_with fail
    refine (need_no 4 _).mono ?_
    rintro e w' ⟨rfl, rfl⟩
    go_wp2
    exact ⟨rfl, RecP.err (by decide) HB1.out⟩
  have hE0 := HE.out
  rw [if_neg h260] at hE0
  replace HE := Lib.hid hE0
  clear hE0
  have t2 : decide (L ≤ 260) = true := by simp; omega
  have t2' : decide ((L : Int) ≤ (260 : Int)) = true := by simp; omega
  go_wp2_with fail
  refine (need_ok 4 _).mono ?_
  rintro e w' ⟨rfl, rfl⟩
  have a1 : IntKind.i64.wrap (13 + (L : Int)) = 13 + (L : Int) := IntWalk.i64_in _ (by omega)
  have a2 : IntKind.i64.wrap (13 + (L : Int) + 3) = 13 + (L : Int) + 3 := IntWalk.i64_in _ (by omega)
  by_cases hlen : n < 16 + L
  · have hE0 := HE.out
    rw [if_pos hlen] at hE0
    subst hE0
    clear HE
    have t3 : decide (13 + (L : Int) + 3 ≤ (n : Int)) = false := by simp; omega
    go_wp2_with fail
    refine (need_no 3 _).mono ?_
    rintro e w' ⟨rfl, rfl⟩
    go_wp2
    exact ⟨rfl, RecP.err (by decide) HB1.out⟩
  have hE0 := HE.out
  rw [if_neg hlen] at hE0
  replace HE := Lib.hid hE0
  clear hE0
  have t3 : decide (13 + (L : Int) + 3 ≤ (n : Int)) = true := by simp; omega
  go_wp2_with fail
  refine (need_ok 3 _).mono ?_
  rintro e w' ⟨rfl, rfl⟩
  obtain ⟨a5, hby5, hrun5⟩ := bytes_to w1 a n c (16 + L) bs (HBY.out.below HB1.out) HN.out hc (by omega)
  rw [show ((16 + L : Nat) : Int) = 13 + (L : Int) + 3 by omega] at hrun5
  have hck := ccheck_any a5 (16 + L) c (13 + L) (bs.take (16 + L)) w1 (HS.out.keep HB1.out) hby5 (by rw [List.length_take, HN.out]; omega) (by omega) (by omega) (by omega)
  rw [List.drop_take, List.take_take, Nat.min_eq_left (by omega : 13 + L ≤ 16 + L), show 16 + L - (13 + L) = 3 by omega, show 13 + L = L + 13 by omega] at hck
  have HCK := Lib.hid hck
  clear hck hby5
  go_wp2_with fail
  refine HCK.out.mono ?_
  rintro e w2 ⟨v5, rfl, hB2⟩
  have HB2 := Lib.hid (HB1.out.trans (hB2.mono HB1.out.size))
  have hsz2 : w.heap.size < w2.heap.size := Nat.lt_of_lt_of_le hsz1 hB2.size
  have HK2 := Lib.hid ((hB2.block _ hsz1).trans HK1.out)
  have HC2 := Lib.hid (HCS.out.keep hB2)
  have hg2 : g < w2.heap.size := Nat.lt_of_lt_of_le hg hB2.size
  have q0 : w2.cell? ⟨g, 0, none⟩ = some (.int .u64 (T : Int)) := HC2.out.1
  clear hB2 HB1 HCK hsz1 hrun5 HK1 HCS hg q4
  by_cases hsum : vnum (List.take 3 (List.drop (L + 13) bs)) = sumF 0 (List.take (L + 13) bs)
  rotate_left
  · have hE0 := HE.out
    rw [if_pos hsum] at hE0
    subst hE0
    clear HE
    simp only [if_neg hsum]
    clear hsum
    go_wp2_with fail
    refine (need_no 10 _).mono ?_
    rintro e w' ⟨rfl, rfl⟩
    go_wp2
    exact ⟨rfl, RecP.err (by decide) HB2.out⟩
  have hE0 := HE.out
  rw [if_neg (by simpa using hsum)] at hE0
  simp only [if_pos hsum]
  replace HE := Lib.hid hE0
  clear hE0 hsum
  go_wp2_with fail
  refine (need_ok 10 _).mono ?_
  rintro e w' ⟨rfl, rfl⟩
  by_cases hT40 : 1099511627776 < T
  · have hE0 := HE.out
    rw [HR.out, cpE_some (.inr (.inl (by omega)))] at hE0
    rw [if_pos (by decide)] at hE0
    subst hE0
    clear HE HR
    have t4 : decide (T ≤ 1099511627776) = false := by simp; omega
    have t4' : decide ((T : Int) ≤ (1099511627776 : Int)) = false := by simp; omega
    go_wp2_with fail
    refine (need_no 5 _).mono ?_
    rintro e w' ⟨rfl, rfl⟩
    go_wp2
    exact ⟨rfl, RecP.err (by decide) HB2.out⟩
  have t4 : decide (T ≤ 1099511627776) = true := by simp; omega
  have t4' : decide ((T : Int) ≤ (1099511627776 : Int)) = true := by simp; omega
  have cT : IntKind.i64.wrap (T : Int) = (T : Int) := IntWalk.i64_in _ (by omega)
  go_wp2_with fail
  refine (need_ok 5 _).mono ?_
  rintro e w' ⟨rfl, rfl⟩
  obtain ⟨a6, c6, hby6, hc6, hrun6⟩ := bytes_mid w2 a n c 13 (13 + L) bs (HBY.out.below HB2.out) HN.out hc (by omega) (by omega)
  simp only [show 13 + L - 13 = L by omega, show ((13 + L : Nat) : Int) = 13 + (L : Int) by omega, show ((13 : Nat) : Int) = 13 by rfl] at hby6 hrun6
  have hdl : (List.take L (List.drop 13 bs)).length = L := by rw [List.length_take, List.length_drop, HN.out]; omega
  obtain ⟨ds, hds⟩ : ∃ ds, List.take L (List.drop 13 bs) = ds := ⟨_, rfl⟩
  have hR0 := HR.out
  rw [hds] at hby6 hdl hR0 ⊢
  replace HR := Lib.hid hR0
  have HBY6 := Lib.hid hby6
  have HDL := Lib.hid hdl
  have HDS := Lib.hid hds
  clear hR0 hby6 hdl hds hc6 q0
  go_upto_region 10 with fail
  go_cut [10] (fun p wx => ∃ i xa xc, p = .pointer (some ⟨i, 0, none⟩) ∧ w2.heap.size ≤ i ∧ wx.heap[i]? = some (.cells #[.int .i64 T, .int .i64 C, .int .i64 F, .int .i64 KD, .slice xa L xc] 35 (0, 0)) ∧ BytesAt wx (.slice xa L xc) ds ∧ (∀ k, (Value.slice xa L xc).ownBlock = some k → w2.heap.size ≤ k) ∧ Below w2.heap.size w2 wx)
  case first =>
    refine wp_region_held_drew (S := (fun W' : World => Below w2.heap.size w2 W' ∧ w2.heap.size ≤ W'.heap.size ∧ Cells W' (blk g 0 0 [.int .u64 (T : Int), .int .u64 (C : Int), .int .u64 (F : Int), .int .u64 (KD : Int), .int .u64 (L : Int)]))) (by kernel_rfl) (⟨(Below.refl _ _).drew, Nat.le_refl _, HC2.out.drew⟩) (fun hHeld => ?_)
    generalize World.drew _ = wd at hHeld ⊢
    have hz := hHeld.2.1
    refine wpAnyH_take (i := 0) (oi := _) (v := ?_) (by rw [List.getElem?_toArray]; rfl) (by kernel_rfl) (by kernel_rfl) (by kernel_rfl) (by exact fun _ _ _ h => h) (Or.inl ⟨by rfl, ?_⟩) (by assumption) ?_
    rotate_left
    · intro w hSw
      try simp only [Cells, blk, List.cons_append, List.nil_append, and_true, Nat.reduceAdd, Nat.add_zero, Nat.zero_add] at hSw
      go_simp
      try with_reducible rfl
    simp only [Act.put, List.setIfInBounds_toArray, List.set_cons_zero, List.set_cons_succ]
    refine wpAnyH_take (i := 1) (oi := _) (v := ?_) (by rw [List.getElem?_toArray]; rfl) (by kernel_rfl) (by kernel_rfl) (by kernel_rfl) (by exact fun _ _ _ h => h) (Or.inl ⟨by rfl, ?_⟩) (by assumption) ?_
    rotate_left
    · intro w hSw
      try simp only [Cells, blk, List.cons_append, List.nil_append, and_true, Nat.reduceAdd, Nat.add_zero, Nat.zero_add] at hSw
      go_simp
      try with_reducible rfl
    simp only [Act.put, List.setIfInBounds_toArray, List.set_cons_zero, List.set_cons_succ]
    refine wpAnyH_take (i := 2) (oi := _) (v := ?_) (by rw [List.getElem?_toArray]; rfl) (by kernel_rfl) (by kernel_rfl) (by kernel_rfl) (by exact fun _ _ _ h => h) (Or.inl ⟨by rfl, ?_⟩) (by assumption) ?_
    rotate_left
    · intro w hSw
      try simp only [Cells, blk, List.cons_append, List.nil_append, and_true, Nat.reduceAdd, Nat.add_zero, Nat.zero_add] at hSw
      go_simp
      try with_reducible rfl
    simp only [Act.put, List.setIfInBounds_toArray, List.set_cons_zero, List.set_cons_succ]
    refine wpAnyH_take (i := 3) (oi := _) (v := ?_) (by rw [List.getElem?_toArray]; rfl) (by kernel_rfl) (by kernel_rfl) (by kernel_rfl) (by exact fun _ _ _ h => h) (Or.inl ⟨by rfl, ?_⟩) (by assumption) ?_
    rotate_left
    · intro w hSw
      try simp only [Cells, blk, List.cons_append, List.nil_append, and_true, Nat.reduceAdd, Nat.add_zero, Nat.zero_add] at hSw
      go_simp
      try with_reducible rfl
    simp only [Act.put, List.setIfInBounds_toArray, List.set_cons_zero, List.set_cons_succ]
    refine wpAnyH_take (i := 4) (oi := _) (v := ?_) (by rw [List.getElem?_toArray]; rfl) (by kernel_rfl) (by kernel_rfl) (by kernel_rfl) (by exact fun _ _ _ h => h) (Or.inl ⟨by rfl, ?_⟩) (by assumption) ?_
    rotate_left
    · intro w hSw
      try simp only [Cells, blk, List.cons_append, List.nil_append, and_true, Nat.reduceAdd, Nat.add_zero, Nat.zero_add] at hSw
      go_simp
      try with_reducible rfl
    simp only [Act.put, List.setIfInBounds_toArray, List.set_cons_zero, List.set_cons_succ]
    refine wpAnyH_take (i := 5) (oi := _) (v := ?_) (by rw [List.getElem?_toArray]; rfl) (by kernel_rfl) (by kernel_rfl) (by kernel_rfl) (by exact fun _ _ _ h => h) (Or.inl ⟨by rfl, ?_⟩) (by assumption) ?_
    rotate_left
    · intro w hSw
      try simp only [Cells, blk, List.cons_append, List.nil_append, and_true, Nat.reduceAdd, Nat.add_zero, Nat.zero_add] at hSw
      go_simp
      try with_reducible rfl
    simp only [Act.put, List.setIfInBounds_toArray, List.set_cons_zero, List.set_cons_succ]
    refine wpAnyH_take (i := 6) (oi := _) (v := ?_) (by rw [List.getElem?_toArray]; rfl) (by kernel_rfl) (by kernel_rfl) (by kernel_rfl) (by exact fun _ _ _ h => h) (Or.inl ⟨by rfl, ?_⟩) (by assumption) ?_
    rotate_left
    · intro w hSw
      try simp only [Cells, blk, List.cons_append, List.nil_append, and_true, Nat.reduceAdd, Nat.add_zero, Nat.zero_add] at hSw
      go_simp
      try with_reducible rfl
    simp only [Act.put, List.setIfInBounds_toArray, List.set_cons_zero, List.set_cons_succ]
    refine wpAnyH_take (i := 7) (oi := _) (v := ?_) (by rw [List.getElem?_toArray]; rfl) (by kernel_rfl) (by kernel_rfl) (by kernel_rfl) (by exact fun _ _ _ h => h) (Or.inl ⟨by rfl, ?_⟩) (by assumption) ?_
    rotate_left
    · intro w hSw
      try simp only [Cells, blk, List.cons_append, List.nil_append, and_true, Nat.reduceAdd, Nat.add_zero, Nat.zero_add] at hSw
      go_simp
      try with_reducible rfl
    simp only [Act.put, List.setIfInBounds_toArray, List.set_cons_zero, List.set_cons_succ]
    refine wpAnyH_take (i := 8) (oi := _) (v := ?_) (by rw [List.getElem?_toArray]; rfl) (by kernel_rfl) (by kernel_rfl) (by kernel_rfl) (by exact fun _ _ _ h => h) (Or.inl ⟨by rfl, ?_⟩) (by assumption) ?_
    rotate_left
    · intro w hSw
      try simp only [Cells, blk, List.cons_append, List.nil_append, and_true, Nat.reduceAdd, Nat.add_zero, Nat.zero_add] at hSw
      go_simp
      try with_reducible rfl
    simp only [Act.put, List.setIfInBounds_toArray, List.set_cons_zero, List.set_cons_succ]
    refine wpAnyH_take (i := 9) (oi := _) (v := ?_) (by rw [List.getElem?_toArray]; rfl) (by kernel_rfl) (by kernel_rfl) (by kernel_rfl) (by exact fun _ _ _ h => h) (Or.inl ⟨by rfl, ?_⟩) (by assumption) ?_
    rotate_left
    · intro w hSw
      try simp only [Cells, blk, List.cons_append, List.nil_append, and_true, Nat.reduceAdd, Nat.add_zero, Nat.zero_add] at hSw
      go_simp
      try with_reducible rfl
    simp only [Act.put, List.setIfInBounds_toArray, List.set_cons_zero, List.set_cons_succ]
    refine wpAnyH_take (i := 10) (oi := _) (v := ?_) (by rw [List.getElem?_toArray]; rfl) (by kernel_rfl) (by kernel_rfl) (by kernel_rfl) (by exact fun _ _ _ h => h) (Or.inl ⟨by rfl, ?_⟩) (by assumption) ?_
    rotate_left
    · intro w hSw
      try simp only [Cells, blk, List.cons_append, List.nil_append, and_true, Nat.reduceAdd, Nat.add_zero, Nat.zero_add] at hSw
      go_simp
      try with_reducible rfl
    simp only [Act.put, List.setIfInBounds_toArray, List.set_cons_zero, List.set_cons_succ]
    refine wpAnyH_take (i := 11) (oi := _) (v := ?_) (by rw [List.getElem?_toArray]; rfl) (by kernel_rfl) (by kernel_rfl) (by kernel_rfl) (by exact fun _ _ _ h => h) (Or.inl ⟨by rfl, ?_⟩) (by assumption) ?_
    rotate_left
    · intro w hSw
      try simp only [Cells, blk, List.cons_append, List.nil_append, and_true, Nat.reduceAdd, Nat.add_zero, Nat.zero_add] at hSw
      go_simp
      try with_reducible rfl
    simp only [Act.put, List.setIfInBounds_toArray, List.set_cons_zero, List.set_cons_succ]
    refine wpAnyH_take (i := 12) (oi := _) (v := ?_) (by rw [List.getElem?_toArray]; rfl) (by kernel_rfl) (by kernel_rfl) (by kernel_rfl) (by exact fun _ _ _ h => h) (Or.inl ⟨by rfl, ?_⟩) (by assumption) ?_
    rotate_left
    · intro w hSw
      try simp only [Cells, blk, List.cons_append, List.nil_append, and_true, Nat.reduceAdd, Nat.add_zero, Nat.zero_add] at hSw
      go_simp
      try with_reducible rfl
    simp only [Act.put, List.setIfInBounds_toArray, List.set_cons_zero, List.set_cons_succ]
    refine wpAnyH_take (i := 13) (oi := _) (v := ?_) (by rw [List.getElem?_toArray]; rfl) (by kernel_rfl) (by kernel_rfl) (by kernel_rfl) (by exact fun _ _ _ h => h) (Or.inl ⟨by rfl, ?_⟩) (by assumption) ?_
    rotate_left
    · intro w hSw
      try simp only [Cells, blk, List.cons_append, List.nil_append, and_true, Nat.reduceAdd, Nat.add_zero, Nat.zero_add] at hSw
      go_simp
      try with_reducible rfl
    simp only [Act.put, List.setIfInBounds_toArray, List.set_cons_zero, List.set_cons_succ]
    refine wpAnyH_take (i := 14) (oi := _) (v := ?_) (by rw [List.getElem?_toArray]; rfl) (by kernel_rfl) (by kernel_rfl) (by kernel_rfl) (by exact fun _ _ _ h => h) (Or.inl ⟨by rfl, ?_⟩) (by assumption) ?_
    rotate_left
    · intro w hSw
      try simp only [Cells, blk, List.cons_append, List.nil_append, and_true, Nat.reduceAdd, Nat.add_zero, Nat.zero_add] at hSw
      go_simp
      try with_reducible rfl
    simp only [Act.put, List.setIfInBounds_toArray, List.set_cons_zero, List.set_cons_succ]
    refine wpAnyH_take (i := 15) (oi := _) (v := ?_) (by rw [List.getElem?_toArray]; rfl) (by kernel_rfl) (by kernel_rfl) (by kernel_rfl) (by exact fun _ _ _ h => h) (Or.inl ⟨by rfl, ?_⟩) (by assumption) ?_
    rotate_left
    · intro w hSw
      try simp only [Cells, blk, List.cons_append, List.nil_append, and_true, Nat.reduceAdd, Nat.add_zero, Nat.zero_add] at hSw
      go_simp
      try with_reducible rfl
    simp only [Act.put, List.setIfInBounds_toArray, List.set_cons_zero, List.set_cons_succ]
    refine wpAnyH_take (i := 16) (oi := _) (v := ?_) (by rw [List.getElem?_toArray]; rfl) (by kernel_rfl) (by kernel_rfl) (by kernel_rfl) (by exact fun _ _ _ h => h) (Or.inl ⟨by rfl, ?_⟩) (by assumption) ?_
    rotate_left
    · intro w hSw
      try simp only [Cells, blk, List.cons_append, List.nil_append, and_true, Nat.reduceAdd, Nat.add_zero, Nat.zero_add] at hSw
      go_simp
      try with_reducible rfl
    simp only [Act.put, List.setIfInBounds_toArray, List.set_cons_zero, List.set_cons_succ]
    refine wpAnyH_take (i := 17) (oi := _) (v := ?_) (by rw [List.getElem?_toArray]; rfl) (by kernel_rfl) (by kernel_rfl) (by kernel_rfl) (by exact fun _ _ _ h => h) (Or.inl ⟨by rfl, ?_⟩) (by assumption) ?_
    rotate_left
    · intro w hSw
      try simp only [Cells, blk, List.cons_append, List.nil_append, and_true, Nat.reduceAdd, Nat.add_zero, Nat.zero_add] at hSw
      go_simp
      try with_reducible rfl
    simp only [Act.put, List.setIfInBounds_toArray, List.set_cons_zero, List.set_cons_succ]
    refine wpAnyH_take (i := 18) (oi := _) (v := ?_) (by rw [List.getElem?_toArray]; rfl) (by kernel_rfl) (by kernel_rfl) (by kernel_rfl) (by exact fun _ _ _ h => h) (Or.inl ⟨by rfl, ?_⟩) (by assumption) ?_
    rotate_left
    · intro w hSw
      try simp only [Cells, blk, List.cons_append, List.nil_append, and_true, Nat.reduceAdd, Nat.add_zero, Nat.zero_add] at hSw
      go_simp
      try with_reducible rfl
    simp only [Act.put, List.setIfInBounds_toArray, List.set_cons_zero, List.set_cons_succ]
    refine wpAnyH_take (i := 19) (oi := _) (v := ?_) (by rw [List.getElem?_toArray]; rfl) (by kernel_rfl) (by kernel_rfl) (by kernel_rfl) (by exact fun _ _ _ h => h) (Or.inl ⟨by rfl, ?_⟩) (by assumption) ?_
    rotate_left
    · intro w hSw
      try simp only [Cells, blk, List.cons_append, List.nil_append, and_true, Nat.reduceAdd, Nat.add_zero, Nat.zero_add] at hSw
      go_simp
      try with_reducible rfl
    simp only [Act.put, List.setIfInBounds_toArray, List.set_cons_zero, List.set_cons_succ]
    refine wpAnyH_ready (rs := [20, 23]) (by kernel_rfl) (by simp) (AllReadyH.cons (o := _) (by rw [List.getElem?_toArray]; rfl) (fun K hK => ?_) (AllReadyH.cons (o := _) (by rw [List.getElem?_toArray]; rfl) (fun K hK => ?_) AllReadyH.nil))
    · go_simp
      generalize hX : World.alloc _ (.cells _ 25) = w20
      obtain ⟨h20, hB20, h20z⟩ := alloc_named hX
      clear hX h20z
      have hsr := sr_one h20 rfl
      have hby := HBY6.out.below (hHeld.1.trans (hB20.mono (by have := hHeld.2.1; omega)))
      clear h20
      refine hK.out _ _ (⟨hHeld.1.trans (hB20.mono (by have := hHeld.2.1; omega)), Nat.le_trans hHeld.2.1 hB20.size, hHeld.2.2.keep hB20⟩) (fun hHeld2 => ?_)
      replace hHeld := hHeld2
      clear hK K hHeld2
      try simp only [Act.put, List.setIfInBounds_toArray, List.set_cons_zero, List.set_cons_succ]
      have hz := hHeld.2.1
      try replace h23 := (hB20.block _ (by have := h23s; omega)).trans h23
      try replace h23s := Nat.le_trans h23s hB20.size
      clear hB20
      refine wpAnyH_ready (rs := [21, 23]) (by kernel_rfl) (by simp) (AllReadyH.cons (o := _) (by rw [List.getElem?_toArray]; rfl) (fun K hK => ?_) (AllReadyH.cons (o := _) (by rw [List.getElem?_toArray]; rfl) (fun K hK => ?_) AllReadyH.nil))
      · go_simp
        go_at_call 31
        refine (joinO_any _ ds L HDL.out _ _ hsr hby (by omega)).mono ?_
        rintro e w21 ⟨xa, xc, rfl, hbo, hbl, hB21⟩
        try replace h23 := (hB21.block _ (by have := h23s; omega)).trans h23
        try have hne : ∀ k, (Value.slice xa L xc).ownBlock = some k → k ≠ _ := fun k hk e => absurd e (Nat.ne_of_gt (Nat.lt_of_lt_of_le h23s (hbl k hk).1))
        try replace h23s := Nat.le_trans h23s hB21.size
        have hol : ∀ k, (Value.slice xa L xc).ownBlock = some k → w2.heap.size ≤ k := fun k hk => Nat.le_trans hHeld.2.1 (hbl k hk).1
        refine hK.out _ _ (⟨hHeld.1.trans (hB21.mono (by have := hHeld.2.1; omega)), Nat.le_trans hHeld.2.1 hB21.size, hHeld.2.2.keep hB21⟩) (fun hHeld2 => ?_)
        replace hHeld := hHeld2
        clear hK K hHeld2
        try simp only [Act.put, List.setIfInBounds_toArray, List.set_cons_zero, List.set_cons_succ]
        have hz := hHeld.2.1
        clear hB21 hsr hby
        try have f0 := cell_of_row _ _ 0 _ _ _ h23
        try have f1 := cell_of_row _ _ 1 _ _ _ h23
        try have f2 := cell_of_row _ _ 2 _ _ _ h23
        try have f3 := cell_of_row _ _ 3 _ _ _ h23
        try have f4 := cell_of_row _ _ 4 _ _ _ h23
        try have z0 := frozen_of_row _ _ 0 _ _ h23
        try have z1 := frozen_of_row _ _ 1 _ _ h23
        try have z2 := frozen_of_row _ _ 2 _ _ h23
        try have z3 := frozen_of_row _ _ 3 _ _ h23
        try have z4 := frozen_of_row _ _ 4 _ _ h23
        try simp at f0 f1 f2 f3 f4
        refine wpAnyH_take (i := 22) (oi := _) (v := ?_) (by rw [List.getElem?_toArray]; rfl) (by kernel_rfl) (by kernel_rfl) (by kernel_rfl) (by exact fun _ _ _ h => h) (Or.inl ⟨by rfl, ?_⟩) (by assumption) ?_
        rotate_left
        · intro w hSw
          try simp only [Cells, blk, List.cons_append, List.nil_append, and_true, Nat.reduceAdd, Nat.add_zero, Nat.zero_add] at hSw
          go_simp
          try with_reducible rfl
        simp only [Act.put, List.setIfInBounds_toArray, List.set_cons_zero, List.set_cons_succ]
        refine wpAnyH_ready (rs := [23]) (by kernel_rfl) (by simp) (AllReadyH.cons (o := _) (by rw [List.getElem?_toArray]; rfl) (fun K hK => ?_) AllReadyH.nil)
        go_simp
        generalize hX : World.alloc _ (.cells _ 35) = w23
        obtain ⟨h23, hB23, h23z⟩ := alloc_named hX
        clear hX
        try have hne : ∀ k, (Value.slice xa L xc).ownBlock = some k → k ≠ _ := fun k hk e => absurd e (Nat.ne_of_lt (hbl k hk).2)
        refine hK.out _ _ (⟨hHeld.1.trans (hB23.mono (by have := hHeld.2.1; omega)), Nat.le_trans hHeld.2.1 hB23.size, hHeld.2.2.keep hB23⟩) (fun hHeld2 => ?_)
        replace hHeld := hHeld2
        clear hK K hHeld2
        try simp only [Act.put, List.setIfInBounds_toArray, List.set_cons_zero, List.set_cons_succ]
        have h23s := Nat.le_of_eq h23z.symm
        clear h23z
        have hi23 := hz
        have hz := hHeld.2.1
        try replace hsr := hsr.below hB23
        try replace hby := hby.below hB23
        try replace hbo := hbo.below hB23
        clear hB23
        try have f0 := cell_of_row _ _ 0 _ _ _ h23
        try have f1 := cell_of_row _ _ 1 _ _ _ h23
        try have f2 := cell_of_row _ _ 2 _ _ _ h23
        try have f3 := cell_of_row _ _ 3 _ _ _ h23
        try have f4 := cell_of_row _ _ 4 _ _ _ h23
        try have z0 := frozen_of_row _ _ 0 _ _ h23
        try have z1 := frozen_of_row _ _ 1 _ _ h23
        try have z2 := frozen_of_row _ _ 2 _ _ h23
        try have z3 := frozen_of_row _ _ 3 _ _ h23
        try have z4 := frozen_of_row _ _ 4 _ _ h23
        try simp at f0 f1 f2 f3 f4
        refine wpAnyH_ready (rs := [24]) (by kernel_rfl) (by simp) (AllReadyH.cons (o := _) (by rw [List.getElem?_toArray]; rfl) (fun K hK => ?_) AllReadyH.nil)
        go_simp
        generalize hX : World.setCell _ _ _ = w24
        obtain ⟨h24, hg24⟩ := set5 h23 hX
        clear hX
        have hbo24 := hbo.grown hg24 (fun e => hne _ e rfl)
        refine hK.out _ _ (⟨hHeld.1.grown hg24 (by have := hHeld.2.1; omega) (fun q hq => by have := hi23; simp at hq; omega), Nat.le_trans hHeld.2.1 hg24.size, hHeld.2.2.grown hg24 (fun x hx => by have := hi23; simp [blk] at hx; rcases hx with rfl | rfl | rfl | rfl | rfl <;> (simp; omega))⟩) (fun hHeld2 => ?_)
        replace hHeld := hHeld2
        clear hK K hHeld2
        try simp only [Act.put, List.setIfInBounds_toArray, List.set_cons_zero, List.set_cons_succ]
        have hz := hHeld.2.1
        refine wpAnyH_done (by kernel_rfl) ?_ _
        go_wp2_with fail
        go_meet
        exact ⟨_, _, _, rfl, hi23, h24, hbo24, hol, hHeld.1⟩
      · go_simp
        generalize hX : World.alloc _ (.cells _ 35) = w23
        obtain ⟨h23, hB23, h23z⟩ := alloc_named hX
        clear hX
        try have hne : ∀ k, (Value.slice xa L xc).ownBlock = some k → k ≠ _ := fun k hk e => absurd e (Nat.ne_of_lt (hbl k hk).2)
        refine hK.out _ _ (⟨hHeld.1.trans (hB23.mono (by have := hHeld.2.1; omega)), Nat.le_trans hHeld.2.1 hB23.size, hHeld.2.2.keep hB23⟩) (fun hHeld2 => ?_)
        replace hHeld := hHeld2
        clear hK K hHeld2
        try simp only [Act.put, List.setIfInBounds_toArray, List.set_cons_zero, List.set_cons_succ]
        have h23s := Nat.le_of_eq h23z.symm
        clear h23z
        have hi23 := hz
        have hz := hHeld.2.1
        try replace hsr := hsr.below hB23
        try replace hby := hby.below hB23
        try replace hbo := hbo.below hB23
        clear hB23
        try have f0 := cell_of_row _ _ 0 _ _ _ h23
        try have f1 := cell_of_row _ _ 1 _ _ _ h23
        try have f2 := cell_of_row _ _ 2 _ _ _ h23
        try have f3 := cell_of_row _ _ 3 _ _ _ h23
        try have f4 := cell_of_row _ _ 4 _ _ _ h23
        try have z0 := frozen_of_row _ _ 0 _ _ h23
        try have z1 := frozen_of_row _ _ 1 _ _ h23
        try have z2 := frozen_of_row _ _ 2 _ _ h23
        try have z3 := frozen_of_row _ _ 3 _ _ h23
        try have z4 := frozen_of_row _ _ 4 _ _ h23
        try simp at f0 f1 f2 f3 f4
        refine wpAnyH_ready (rs := [21]) (by kernel_rfl) (by simp) (AllReadyH.cons (o := _) (by rw [List.getElem?_toArray]; rfl) (fun K hK => ?_) AllReadyH.nil)
        go_simp
        go_at_call 31
        refine (joinO_any _ ds L HDL.out _ _ hsr hby (by omega)).mono ?_
        rintro e w21 ⟨xa, xc, rfl, hbo, hbl, hB21⟩
        try replace h23 := (hB21.block _ (by have := h23s; omega)).trans h23
        try have hne : ∀ k, (Value.slice xa L xc).ownBlock = some k → k ≠ _ := fun k hk e => absurd e (Nat.ne_of_gt (Nat.lt_of_lt_of_le h23s (hbl k hk).1))
        try replace h23s := Nat.le_trans h23s hB21.size
        have hol : ∀ k, (Value.slice xa L xc).ownBlock = some k → w2.heap.size ≤ k := fun k hk => Nat.le_trans hHeld.2.1 (hbl k hk).1
        refine hK.out _ _ (⟨hHeld.1.trans (hB21.mono (by have := hHeld.2.1; omega)), Nat.le_trans hHeld.2.1 hB21.size, hHeld.2.2.keep hB21⟩) (fun hHeld2 => ?_)
        replace hHeld := hHeld2
        clear hK K hHeld2
        try simp only [Act.put, List.setIfInBounds_toArray, List.set_cons_zero, List.set_cons_succ]
        have hz := hHeld.2.1
        clear hB21 hsr hby
        try have f0 := cell_of_row _ _ 0 _ _ _ h23
        try have f1 := cell_of_row _ _ 1 _ _ _ h23
        try have f2 := cell_of_row _ _ 2 _ _ _ h23
        try have f3 := cell_of_row _ _ 3 _ _ _ h23
        try have f4 := cell_of_row _ _ 4 _ _ _ h23
        try have z0 := frozen_of_row _ _ 0 _ _ h23
        try have z1 := frozen_of_row _ _ 1 _ _ h23
        try have z2 := frozen_of_row _ _ 2 _ _ h23
        try have z3 := frozen_of_row _ _ 3 _ _ h23
        try have z4 := frozen_of_row _ _ 4 _ _ h23
        try simp at f0 f1 f2 f3 f4
        refine wpAnyH_take (i := 22) (oi := _) (v := ?_) (by rw [List.getElem?_toArray]; rfl) (by kernel_rfl) (by kernel_rfl) (by kernel_rfl) (by exact fun _ _ _ h => h) (Or.inl ⟨by rfl, ?_⟩) (by assumption) ?_
        rotate_left
        · intro w hSw
          try simp only [Cells, blk, List.cons_append, List.nil_append, and_true, Nat.reduceAdd, Nat.add_zero, Nat.zero_add] at hSw
          go_simp
          try with_reducible rfl
        simp only [Act.put, List.setIfInBounds_toArray, List.set_cons_zero, List.set_cons_succ]
        refine wpAnyH_ready (rs := [24]) (by kernel_rfl) (by simp) (AllReadyH.cons (o := _) (by rw [List.getElem?_toArray]; rfl) (fun K hK => ?_) AllReadyH.nil)
        go_simp
        generalize hX : World.setCell _ _ _ = w24
        obtain ⟨h24, hg24⟩ := set5 h23 hX
        clear hX
        have hbo24 := hbo.grown hg24 (fun e => hne _ e rfl)
        refine hK.out _ _ (⟨hHeld.1.grown hg24 (by have := hHeld.2.1; omega) (fun q hq => by have := hi23; simp at hq; omega), Nat.le_trans hHeld.2.1 hg24.size, hHeld.2.2.grown hg24 (fun x hx => by have := hi23; simp [blk] at hx; rcases hx with rfl | rfl | rfl | rfl | rfl <;> (simp; omega))⟩) (fun hHeld2 => ?_)
        replace hHeld := hHeld2
        clear hK K hHeld2
        try simp only [Act.put, List.setIfInBounds_toArray, List.set_cons_zero, List.set_cons_succ]
        have hz := hHeld.2.1
        refine wpAnyH_done (by kernel_rfl) ?_ _
        go_wp2_with fail
        go_meet
        exact ⟨_, _, _, rfl, hi23, h24, hbo24, hol, hHeld.1⟩
    · go_simp
      generalize hX : World.alloc _ (.cells _ 35) = w23
      obtain ⟨h23, hB23, h23z⟩ := alloc_named hX
      clear hX
      try have hne : ∀ k, (Value.slice xa L xc).ownBlock = some k → k ≠ _ := fun k hk e => absurd e (Nat.ne_of_lt (hbl k hk).2)
      refine hK.out _ _ (⟨hHeld.1.trans (hB23.mono (by have := hHeld.2.1; omega)), Nat.le_trans hHeld.2.1 hB23.size, hHeld.2.2.keep hB23⟩) (fun hHeld2 => ?_)
      replace hHeld := hHeld2
      clear hK K hHeld2
      try simp only [Act.put, List.setIfInBounds_toArray, List.set_cons_zero, List.set_cons_succ]
      have h23s := Nat.le_of_eq h23z.symm
      clear h23z
      have hi23 := hz
      have hz := hHeld.2.1
      try replace hsr := hsr.below hB23
      try replace hby := hby.below hB23
      try replace hbo := hbo.below hB23
      clear hB23
      try have f0 := cell_of_row _ _ 0 _ _ _ h23
      try have f1 := cell_of_row _ _ 1 _ _ _ h23
      try have f2 := cell_of_row _ _ 2 _ _ _ h23
      try have f3 := cell_of_row _ _ 3 _ _ _ h23
      try have f4 := cell_of_row _ _ 4 _ _ _ h23
      try have z0 := frozen_of_row _ _ 0 _ _ h23
      try have z1 := frozen_of_row _ _ 1 _ _ h23
      try have z2 := frozen_of_row _ _ 2 _ _ h23
      try have z3 := frozen_of_row _ _ 3 _ _ h23
      try have z4 := frozen_of_row _ _ 4 _ _ h23
      try simp at f0 f1 f2 f3 f4
      refine wpAnyH_ready (rs := [20]) (by kernel_rfl) (by simp) (AllReadyH.cons (o := _) (by rw [List.getElem?_toArray]; rfl) (fun K hK => ?_) AllReadyH.nil)
      go_simp
      generalize hX : World.alloc _ (.cells _ 25) = w20
      obtain ⟨h20, hB20, h20z⟩ := alloc_named hX
      clear hX h20z
      have hsr := sr_one h20 rfl
      have hby := HBY6.out.below (hHeld.1.trans (hB20.mono (by have := hHeld.2.1; omega)))
      clear h20
      refine hK.out _ _ (⟨hHeld.1.trans (hB20.mono (by have := hHeld.2.1; omega)), Nat.le_trans hHeld.2.1 hB20.size, hHeld.2.2.keep hB20⟩) (fun hHeld2 => ?_)
      replace hHeld := hHeld2
      clear hK K hHeld2
      try simp only [Act.put, List.setIfInBounds_toArray, List.set_cons_zero, List.set_cons_succ]
      have hz := hHeld.2.1
      try replace h23 := (hB20.block _ (by have := h23s; omega)).trans h23
      try replace h23s := Nat.le_trans h23s hB20.size
      clear hB20
      refine wpAnyH_ready (rs := [21]) (by kernel_rfl) (by simp) (AllReadyH.cons (o := _) (by rw [List.getElem?_toArray]; rfl) (fun K hK => ?_) AllReadyH.nil)
      go_simp
      go_at_call 31
      refine (joinO_any _ ds L HDL.out _ _ hsr hby (by omega)).mono ?_
      rintro e w21 ⟨xa, xc, rfl, hbo, hbl, hB21⟩
      try replace h23 := (hB21.block _ (by have := h23s; omega)).trans h23
      try have hne : ∀ k, (Value.slice xa L xc).ownBlock = some k → k ≠ _ := fun k hk e => absurd e (Nat.ne_of_gt (Nat.lt_of_lt_of_le h23s (hbl k hk).1))
      try replace h23s := Nat.le_trans h23s hB21.size
      have hol : ∀ k, (Value.slice xa L xc).ownBlock = some k → w2.heap.size ≤ k := fun k hk => Nat.le_trans hHeld.2.1 (hbl k hk).1
      refine hK.out _ _ (⟨hHeld.1.trans (hB21.mono (by have := hHeld.2.1; omega)), Nat.le_trans hHeld.2.1 hB21.size, hHeld.2.2.keep hB21⟩) (fun hHeld2 => ?_)
      replace hHeld := hHeld2
      clear hK K hHeld2
      try simp only [Act.put, List.setIfInBounds_toArray, List.set_cons_zero, List.set_cons_succ]
      have hz := hHeld.2.1
      clear hB21 hsr hby
      try have f0 := cell_of_row _ _ 0 _ _ _ h23
      try have f1 := cell_of_row _ _ 1 _ _ _ h23
      try have f2 := cell_of_row _ _ 2 _ _ _ h23
      try have f3 := cell_of_row _ _ 3 _ _ _ h23
      try have f4 := cell_of_row _ _ 4 _ _ _ h23
      try have z0 := frozen_of_row _ _ 0 _ _ h23
      try have z1 := frozen_of_row _ _ 1 _ _ h23
      try have z2 := frozen_of_row _ _ 2 _ _ h23
      try have z3 := frozen_of_row _ _ 3 _ _ h23
      try have z4 := frozen_of_row _ _ 4 _ _ h23
      try simp at f0 f1 f2 f3 f4
      refine wpAnyH_take (i := 22) (oi := _) (v := ?_) (by rw [List.getElem?_toArray]; rfl) (by kernel_rfl) (by kernel_rfl) (by kernel_rfl) (by exact fun _ _ _ h => h) (Or.inl ⟨by rfl, ?_⟩) (by assumption) ?_
      rotate_left
      · intro w hSw
        try simp only [Cells, blk, List.cons_append, List.nil_append, and_true, Nat.reduceAdd, Nat.add_zero, Nat.zero_add] at hSw
        go_simp
        try with_reducible rfl
      simp only [Act.put, List.setIfInBounds_toArray, List.set_cons_zero, List.set_cons_succ]
      refine wpAnyH_ready (rs := [24]) (by kernel_rfl) (by simp) (AllReadyH.cons (o := _) (by rw [List.getElem?_toArray]; rfl) (fun K hK => ?_) AllReadyH.nil)
      go_simp
      generalize hX : World.setCell _ _ _ = w24
      obtain ⟨h24, hg24⟩ := set5 h23 hX
      clear hX
      have hbo24 := hbo.grown hg24 (fun e => hne _ e rfl)
      refine hK.out _ _ (⟨hHeld.1.grown hg24 (by have := hHeld.2.1; omega) (fun q hq => by have := hi23; simp at hq; omega), Nat.le_trans hHeld.2.1 hg24.size, hHeld.2.2.grown hg24 (fun x hx => by have := hi23; simp [blk] at hx; rcases hx with rfl | rfl | rfl | rfl | rfl <;> (simp; omega))⟩) (fun hHeld2 => ?_)
      replace hHeld := hHeld2
      clear hK K hHeld2
      try simp only [Act.put, List.setIfInBounds_toArray, List.set_cons_zero, List.set_cons_succ]
      have hz := hHeld.2.1
      refine wpAnyH_done (by kernel_rfl) ?_ _
      go_wp2_with fail
      go_meet
      exact ⟨_, _, _, rfl, hi23, h24, hbo24, hol, hHeld.1⟩
  case rest =>
  obtain ⟨i, xa, xc, rfl, hi2, hi, hbo, hol, hB3⟩ := hcut
  rename World => V
  have HB3 := Lib.hid (HB2.out.trans (hB3.mono HB2.out.size))
  have HK3 := Lib.hid ((hB3.block _ hsz2).trans HK2.out)
  have hszV : w.heap.size < V.heap.size := Nat.lt_of_lt_of_le hsz2 hB3.size
  have hiV : i < V.heap.size := (Array.getElem?_eq_some_iff.1 hi).1
  have f0 := cell_of_row _ _ 0 _ _ _ hi
  have f1 := cell_of_row _ _ 1 _ _ _ hi
  have f2 := cell_of_row _ _ 2 _ _ _ hi
  have f3 := cell_of_row _ _ 3 _ _ _ hi
  have f4 := cell_of_row _ _ 4 _ _ _ hi
  simp at f0 f1 f2 f3 f4
  have hck := check_any (T : Int) (C : Int) (F : Int) (KD : Int) xa L xc ds HDL.out V
  have hE0 := HE.out
  rw [HR.out] at hE0
  obtain ⟨EC, hEC⟩ : ∃ x, cpE ⟨(T : Int), (C : Int), (F : Int), (KD : Int), ds⟩ = x := ⟨_, rfl⟩
  rw [hEC] at hck hE0
  replace HE := Lib.hid hE0
  have HCK := Lib.hid hck
  have HI := Lib.hid hi
  have HBO := Lib.hid hbo
  have HOL := Lib.hid hol
  clear hck hE0 hEC hB3 HB2 HK2 HC2 hi hbo hol HBY HBY0 HBY6 HR hrun6 hg2 q0
  go_wp2_with fail
  refine HCK.out.mono ?_
  rintro e w4 ⟨rfl, hB4⟩
  have HB4 := Lib.hid (HB3.out.trans (hB4.mono HB3.out.size))
  have HK4 := Lib.hid ((hB4.block _ hszV).trans HK3.out)
  have HI4 := Lib.hid ((hB4.block _ hiV).trans HI.out)
  have HBO4 := Lib.hid (HBO.out.below hB4)
  have hsz4 : w.heap.size < w4.heap.size := Nat.lt_of_lt_of_le hszV hB4.size
  clear hB4 HB3 HK3 HI HBO HCK f0 f1 f2 f3 f4 hszV hiV
  by_cases hec : EC = 0
  rotate_left
  · have hE0 := HE.out
    rw [if_pos hec] at hE0
    subst hE0
    clear HE
    have t5 : (EC == 0) = false := by simpa using hec
    go_wp2_with fail
    refine (need_no 5 _).mono ?_
    rintro e w' ⟨rfl, rfl⟩
    go_wp2
    exact ⟨rfl, RecP.err (by decide) HB4.out⟩
  subst hec
  have hE0 := HE.out
  simp only [ne_eq, not_true_eq_false, if_false] at hE0
  replace HE := Lib.hid hE0
  clear hE0
  have f0 := cell_of_row _ _ 0 _ _ _ HI4.out
  have f1 := cell_of_row _ _ 1 _ _ _ HI4.out
  have f2 := cell_of_row _ _ 2 _ _ _ HI4.out
  have f3 := cell_of_row _ _ 3 _ _ _ HI4.out
  have f4 := cell_of_row _ _ 4 _ _ _ HI4.out
  simp at f0 f1 f2 f3 f4
  go_wp2_with fail
  refine (need_ok 5 _).mono ?_
  rintro e w' ⟨rfl, rfl⟩
  by_cases hlast : (T : Int) < last
  · have hE0 := HE.out
    rw [if_pos hlast] at hE0
    subst hE0
    clear HE
    have t6 : decide (last ≤ (T : Int)) = false := by simp; omega
    go_wp2_with fail
    refine (need_no 13 _).mono ?_
    rintro e w' ⟨rfl, rfl⟩
    go_wp2
    exact ⟨rfl, RecP.err (by decide) HB4.out⟩
  have hE0 := HE.out
  rw [if_neg hlast] at hE0
  subst hE0
  clear HE
  have t6 : decide (last ≤ (T : Int)) = true := by simp; omega
  go_wp2_with fail
  refine (need_ok 13 _).mono ?_
  rintro e w' ⟨rfl, rfl⟩
  have g0 := cell_of_row _ _ 0 _ _ _ HK4.out
  have g1 := cell_of_row _ _ 1 _ _ _ HK4.out
  have g2 := cell_of_row _ _ 2 _ _ _ HK4.out
  have g3 := cell_of_row _ _ 3 _ _ _ HK4.out
  have g4 := cell_of_row _ _ 4 _ _ _ HK4.out
  simp at g0 g1 g2 g3 g4
  have z0 := frozen_of_row _ _ 0 _ _ HK4.out
  have z1 := frozen_of_row _ _ 1 _ _ HK4.out
  have z2 := frozen_of_row _ _ 2 _ _ HK4.out
  have z3 := frozen_of_row _ _ 3 _ _ HK4.out
  have z4 := frozen_of_row _ _ 4 _ _ HK4.out
  go_wp2_with fail
  generalize hX : World.setCell _ _ _ = X
  obtain ⟨hX5, hgX⟩ := set5 HK4.out hX
  clear hX f0 f1 f2 f3 f4 g0 g1 g2 g3 g4 z0 z1 z2 z3 z4
  have hbX := HBO4.out.grown hgX (fun e => absurd (HOL.out _ e) (by omega))
  have hBX := HB4.out.grown hgX (Nat.le_of_lt hsz4) (fun q hq => by simp at hq; omega)
  have r0 := cell_of_row _ _ 0 _ _ _ hX5
  have r1 := cell_of_row _ _ 1 _ _ _ hX5
  have r2 := cell_of_row _ _ 2 _ _ _ hX5
  have r3 := cell_of_row _ _ 3 _ _ _ hX5
  have r4 := cell_of_row _ _ 4 _ _ _ hX5
  simp at r0 r1 r2 r3 r4
  refine bodyPost_ret (by simp [results, Tryd.results36, go_sem, r0, r1, r2, r3, r4] <;> rfl) rfl ?_
  rw [HDS.out]
  refine ⟨hBX, fun h => absurd rfl h, fun _ => ⟨xa, xc, by rw [show ((16 + L : Nat) : Int) = 13 + (L : Int) + 3 by omega], hbX, fun k hk => ?_⟩⟩
  have := HOL.out k hk
  omega
end Go.Proofs.YtccknpdnapoboaaDoor
