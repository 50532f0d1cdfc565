/- Walks of assess: tallies: copies, fresh ones, one more packet, halved ones. -/
import Derived.Test.YtoaiiceglfmfcaaAssB
namespace Go.Proofs.Ytoaiiceglfmfcaa
open Go.RowKit

/-- the call has returned a new row that holds the tallies l -/
def Made (base : Nat) (l : List (Int × Int)) (w : World) (e : Ending) (w' : World) : Prop :=
  ∃ g c, e = .returned (.slice (some ⟨g, 0, none⟩) l.length c) ∧ w'.ownsRow base 52 2 (.slice (some ⟨g, 0, none⟩) l.length c) l.length (tcells l) ∧ Below base w w'

theorem copied_any (v : Value) (l : List (Int × Int)) (hl : l.length ≤ 1000) (w : World) (h : SR w v l.length 2 (tcells l)) :
    Calls Try.prog 33 #[v] w (Made w.heap.size l w) := by
  obtain ⟨i0, hi, hz0, hz1, hz2⟩ := info_parts Try.info_tally
  obtain ⟨n, hn⟩ : ∃ n, l.length = n := ⟨_, rfl⟩
  unfold Made
  rw [hn] at h hl ⊢
  clear hn
  have hb : Below w.heap.size w (w.alloc (.cells #[] 52)) := (Below.refl _ _).alloc (Nat.le_refl _) _
  have hown := World.ownsRow_made (base := w.heap.size) (e := 52) (size := 2) w #[] 0 (Nat.le_refl _) (by unfold maxLen; omega) rfl
  have hsr := Lib.hid (h.below hb)
  go_enter Try.func33, Try.ntmps33
  go_wp2_with (at_builtin; refine wpList_append_all rfl _ _ 45 rfl w.heap.size 52 i0 _ 2 16 Try.underlying45 hi hz0 hz1 hz2 rfl (by decide) _ 0 [] rfl hown v n (tcells l) rfl hsr.out (by unfold maxLen; omega) (by omega) (by simp) ?_)
  intro v' w1 hown' hgrow hnil
  go_wp2
  go_ret
  rcases hown'.2 with ⟨rfl, _⟩ | ⟨g, cap, cur, rfl, _⟩
  · exact absurd rfl hnil
  · exact ⟨g, cap, rfl, hown', hb.grown hgrow (by simp) (fun k e => by cases e; exact Nat.le_refl _)⟩

theorem clone_any (v : Value) (l : List (Int × Int)) (hl : l.length ≤ 1000) (w : World) (h : SR w v l.length 2 (tcells l)) :
    Calls Try.prog 55 #[v] w (Made w.heap.size l w) := by
  obtain ⟨i0, hi, hz0, hz1, hz2⟩ := info_parts Try.info_tally
  obtain ⟨n, hn⟩ : ∃ n, l.length = n := ⟨_, rfl⟩
  unfold Made
  rw [hn] at h hl ⊢
  clear hn
  have hsr := Lib.hid h
  obtain ⟨_, _, _, ao, cap, rfl, _, _⟩ := h
  go_enter Try.func55, Try.ntmps55
  go_wp2_with (first
    | (at_make; refine wpList_make_full _ rfl _ _ 45 rfl w.heap.size 52 i0 _ 2 Try.underlying45 hi hz0 hz1 _ _ _ _ n rfl rfl rfl rfl (by rw [hz2]; omega) (by unfold maxLen; omega) (Nat.le_refl _) ?_; intro w1 hown1 hgrow1; have hb1 := (Below.refl w.heap.size w).grown hgrow1 (Nat.le_refl _) (fun k e => by cases e))
    | (refine wpList_copy_all rfl (.tmp 7) (.tmp 8) 45 45 rfl 52 i0 2 Try.underlying45 hi hz1 w.heap.size _ n _ _ (tcells l) _ rfl rfl hown1 (hsr.out.below hb1) ?_))
  intro w2 hown2 hgrow2
  go_wp2
  go_ret
  exact ⟨_, _, rfl, hown2, hb1.grown hgrow2 hb1.size (fun k e => by cases e; exact Nat.le_refl _)⟩

def zeros37 : List (Int × Int) := List.replicate 37 (0, 0)
theorem zeros_cells : (madeCells #[Value.int IntKind.i64 0, Value.int IntKind.i64 0] 74).toList = tcells zeros37 := by
  simp [madeCells, zeros37, tcells, List.replicate]
  rfl
theorem fresh_any (w : World) : Calls Try.prog 30 #[] w (Made w.heap.size zeros37 w) := by
  obtain ⟨i0, hi, hz0, hz1, hz2⟩ := info_parts Try.info_tally
  go_enter Try.func30, Try.ntmps30
  go_wp2_with (at_make; refine wpList_make_full _ rfl _ _ 45 rfl w.heap.size 52 i0 _ 2 Try.underlying45 hi hz0 hz1 _ _ _ _ 37 rfl rfl rfl rfl (by rw [hz2]; omega) (by unfold maxLen; omega) (Nat.le_refl _) ?_)
  intro w1 hown1 hgrow1
  go_wp2
  go_ret
  rw [zeros_cells] at hown1
  exact ⟨_, _, rfl, hown1, (Below.refl w.heap.size w).grown hgrow1 (Nat.le_refl _) (fun k e => by cases e)⟩
theorem rfresh_any (w : World) : Calls Try.prog 31 #[] w (Made w.heap.size zeros37 w) := by
  obtain ⟨i0, hi, hz0, hz1, hz2⟩ := info_parts Try.info_tally
  go_enter Try.func31, Try.ntmps31
  go_wp2_with (at_make; refine wpList_make_full _ rfl _ _ 45 rfl w.heap.size 52 i0 _ 2 Try.underlying45 hi hz0 hz1 _ _ _ _ 37 rfl rfl rfl rfl (by rw [hz2]; omega) (by unfold maxLen; omega) (Nat.le_refl _) ?_)
  intro w1 hown1 hgrow1
  go_wp2
  go_ret
  rw [zeros_cells] at hown1
  exact ⟨_, _, rfl, hown1, (Below.refl w.heap.size w).grown hgrow1 (Nat.le_refl _) (fun k e => by cases e)⟩

/-- one more packet -/
def incI (x : Int) : Int := if x < 65536 then wrap64 (x + 1) else x
def recL (l : List (Int × Int)) (ch : Int) (ok : Bool) : List (Int × Int) :=
  if h : 0 ≤ ch ∧ ch.toNat < l.length then l.set ch.toNat (if ok = true then (incI (l[ch.toNat]'h.2).1, (l[ch.toNat]'h.2).2) else ((l[ch.toNat]'h.2).1, incI (l[ch.toNat]'h.2).2)) else l
theorem tcells_set : ∀ (l : List (Int × Int)) (k : Nat) (t : Int × Int), tcells (l.set k t) = ((tcells l).set (k * 2) (.int .i64 t.1)).set (k * 2 + 1) (.int .i64 t.2)
  | [], k, t => by simp [tcells]
  | u :: l, 0, t => by simp [tcells]
  | u :: l, k+1, t => by
    rw [show (k + 1) * 2 = k * 2 + 2 by omega]
    simp [tcells, tcells_set l k t]
theorem set_same {α : Type} : ∀ (l : List α) (k : Nat) (x : α), l[k]? = some x → l.set k x = l
  | [], k, x, h => by simp at h
  | u :: l, 0, x, h => by simp at h; simp [h]
  | u :: l, k+1, x, h => by simp at h; simp [set_same l k x h]
theorem tcells_set1 (l : List (Int × Int)) (k : Nat) (h : k < l.length) (x : Int) : (tcells l).set (k * 2) (.int .i64 x) = tcells (l.set k (x, l[k].2)) := by
  obtain ⟨h1, h2⟩ := tcells_get l k h
  rw [tcells_set]
  rw [set_same _ (k * 2 + 1)]
  rw [List.getElem?_set_ne (by omega)]
  exact h2
theorem tcells_set2 (l : List (Int × Int)) (k : Nat) (h : k < l.length) (x : Int) : (tcells l).set (k * 2 + 1) (.int .i64 x) = tcells (l.set k (l[k].1, x)) := by
  obtain ⟨h1, h2⟩ := tcells_get l k h
  rw [tcells_set, set_same _ (k * 2) _ h1]

theorem recL_out (l : List (Int × Int)) (ch : Int) (ok : Bool) (h : ¬ (0 ≤ ch ∧ ch < (l.length : Int))) : recL l ch ok = l := by
  unfold recL; rw [dif_neg (by omega)]
theorem recL_in (l : List (Int × Int)) (k : Nat) (ok : Bool) (h : k < l.length) : recL l (k : Int) ok = l.set k (if ok = true then (incI l[k].1, l[k].2) else (l[k].1, incI l[k].2)) := by
  unfold recL; rw [dif_pos ⟨by omega, by simpa using h⟩]; simp
theorem record_any (v : Value) (l : List (Int × Int)) (ch : Int) (ok : Bool) (hl : l.length ≤ 1000) (w : World) (h : SR w v l.length 2 (tcells l)) :
    Calls Try.prog 32 #[v, .int .i64 ch, .bool ok] w (Made w.heap.size (recL l ch ok) w) := by
  by_cases hin : 0 ≤ ch ∧ ch < (l.length : Int)
  · obtain ⟨k, rfl⟩ := Int.eq_ofNat_of_zero_le hin.1
    have hk : k < l.length := by omega
    obtain ⟨p1, p2⟩ := tcells_get l k hk
    have hs1 := Lib.hid (tcells_set1 l k hk (incI l[k].1))
    have hs2 := Lib.hid (tcells_set2 l k hk (incI l[k].2))
    have hs0 := Lib.hid (set_same l k l[k] (by simp [hk]))
    have hrec := recL_in l k ok hk
    rw [hrec]
    clear hrec
    obtain ⟨⟨x, y⟩, he⟩ : ∃ t, l[k] = t := ⟨_, rfl⟩
    rw [he] at hs0 hs1 hs2 p1 p2 ⊢
    simp only at hs0 hs1 hs2 p1 p2 ⊢
    obtain ⟨n, hn⟩ : ∃ n, l.length = n := ⟨_, rfl⟩
    have HN := Lib.hid hn
    have hd1 : decide ((k : Int) < 0) = false := by simp
    have hc := clone_any v l hl w h
    unfold Made at hc
    unfold Made
    rw [hn] at hk hl hin hc
    rw [List.length_set, hn]
    clear hn he h
    have HC := Lib.hid hc
    clear hc
    cases ok
    · by_cases hz : y < 65536
      · show Calls _ _ _ _ _
        have hinc : incI y = wrap64 (y + 1) := by unfold incI; rw [if_pos hz]
        have HI := Lib.hid hinc
        clear hinc
        go_enter Try.func32, Try.ntmps32
        go_wp2_with fail
        refine HC.out.mono ?_
        rintro e w1 ⟨g, c, rfl, hown, hB⟩
        have c2 := (hown.cellAt (k * 2 + 1) (by omega)).trans p2
        have f2 := hown.frozenAt (k * 2 + 1)
        have hge : w.heap.size ≤ g := (hown.lt g rfl).1
        have hst := hown.stored (k * 2 + 1) (.int .i64 (wrap64 (y + 1)))
        rw [← HI.out, hs2.out] at hst
        have HST := Lib.hid hst
        clear hst hown
        go_wp2
        go_ret
        rw [← HI.out]
        exact ⟨g, c, rfl, HST.out.1, hB.setCell (p := ⟨g, k * 2 + 1, none⟩) hge _⟩
      · show Calls _ _ _ _ _
        have hinc : incI y = y := by unfold incI; rw [if_neg hz]
        have HI := Lib.hid hinc
        clear hinc
        go_enter Try.func32, Try.ntmps32
        go_wp2_with fail
        refine HC.out.mono ?_
        rintro e w1 ⟨g, c, rfl, hown, hB⟩
        have c2 := (hown.cellAt (k * 2 + 1) (by omega)).trans p2
        have f2 := hown.frozenAt (k * 2 + 1)
        have hge : w.heap.size ≤ g := (hown.lt g rfl).1
        go_wp2
        go_ret
        exact ⟨g, c, rfl, by rw [HI.out, hs0.out]; exact hown, hB⟩
    · by_cases hz : x < 65536
      · show Calls _ _ _ _ _
        have hinc : incI x = wrap64 (x + 1) := by unfold incI; rw [if_pos hz]
        have HI := Lib.hid hinc
        clear hinc
        go_enter Try.func32, Try.ntmps32
        go_wp2_with fail
        refine HC.out.mono ?_
        rintro e w1 ⟨g, c, rfl, hown, hB⟩
        have c2 := (hown.cellAt (k * 2) (by omega)).trans p1
        have f2 := hown.frozenAt (k * 2)
        have hge : w.heap.size ≤ g := (hown.lt g rfl).1
        have hst := hown.stored (k * 2) (.int .i64 (wrap64 (x + 1)))
        rw [← HI.out, hs1.out] at hst
        have HST := Lib.hid hst
        clear hst hown
        go_wp2
        go_ret
        rw [← HI.out]
        exact ⟨g, c, rfl, HST.out.1, hB.setCell (p := ⟨g, k * 2, none⟩) hge _⟩
      · show Calls _ _ _ _ _
        have hinc : incI x = x := by unfold incI; rw [if_neg hz]
        have HI := Lib.hid hinc
        clear hinc
        go_enter Try.func32, Try.ntmps32
        go_wp2_with fail
        refine HC.out.mono ?_
        rintro e w1 ⟨g, c, rfl, hown, hB⟩
        have c2 := (hown.cellAt (k * 2) (by omega)).trans p1
        have f2 := hown.frozenAt (k * 2)
        have hge : w.heap.size ≤ g := (hown.lt g rfl).1
        go_wp2
        go_ret
        exact ⟨g, c, rfl, by rw [HI.out, hs0.out]; exact hown, hB⟩
  · rw [recL_out l ch ok hin]
    have hc := clone_any v l hl w h
    unfold Made at hc ⊢
    obtain ⟨n, hn⟩ : ∃ n, l.length = n := ⟨_, rfl⟩
    rw [hn] at hc hin ⊢
    have HC := Lib.hid hc
    clear hn h hc hl
    by_cases h0 : ch < 0
    · go_enter Try.func32, Try.ntmps32
      go_wp2_with fail
      refine HC.out.mono ?_
      rintro e w1 ⟨g, c, rfl, hown, hB⟩
      go_wp2
      go_ret
      exact ⟨g, c, rfl, hown, hB⟩
    · have h1 : (n : Int) ≤ ch := by omega
      clear hin
      go_enter Try.func32, Try.ntmps32
      go_wp2_with fail
      refine HC.out.mono ?_
      rintro e w1 ⟨g, c, rfl, hown, hB⟩
      go_wp2
      go_ret
      exact ⟨g, c, rfl, hown, hB⟩
theorem rrecord_any (v : Value) (l : List (Int × Int)) (ch : Int) (ok : Bool) (hl : l.length ≤ 1000) (w : World) (h : SR w v l.length 2 (tcells l)) :
    Calls Try.prog 34 #[v, .int .i64 ch, .bool ok] w (Made w.heap.size (recL l ch ok) w) := by
  obtain ⟨i0, hi, hz0, hz1, hz2⟩ := info_parts Try.info_tally
  have hb : Below w.heap.size w (w.alloc (.cells #[] 52)) := (Below.refl _ _).alloc (Nat.le_refl _) _
  have hown0 := World.ownsRow_made (base := w.heap.size) (e := 52) (size := 2) w #[] 0 (Nat.le_refl _) (by unfold maxLen; omega) rfl
  have hsr := Lib.hid (h.below hb)
  obtain ⟨_, _, _, ao, cap, rfl, _, _⟩ := h
  by_cases hin : 0 ≤ ch ∧ ch < (l.length : Int)
  · obtain ⟨k, rfl⟩ := Int.eq_ofNat_of_zero_le hin.1
    have hk : k < l.length := by omega
    obtain ⟨p1, p2⟩ := tcells_get l k hk
    have hs1 := Lib.hid (tcells_set1 l k hk (incI l[k].1))
    have hs2 := Lib.hid (tcells_set2 l k hk (incI l[k].2))
    have hs0 := Lib.hid (set_same l k l[k] (by simp [hk]))
    have hrec := recL_in l k ok hk
    rw [hrec]
    clear hrec
    obtain ⟨⟨x, y⟩, he⟩ : ∃ t, l[k] = t := ⟨_, rfl⟩
    rw [he] at hs0 hs1 hs2 p1 p2 ⊢
    simp only at hs0 hs1 hs2 p1 p2 ⊢
    unfold Made
    rw [List.length_set]
    obtain ⟨n, hn⟩ : ∃ n, l.length = n := ⟨_, rfl⟩
    have hd1 : decide ((k : Int) < 0) = false := by simp
    rw [hn] at hk hl hin hsr ⊢
    clear hn he
    cases ok
    · by_cases hz : y < 65536
      · show Calls _ _ _ _ _
        have hinc : incI y = wrap64 (y + 1) := by unfold incI; rw [if_pos hz]
        have HI := Lib.hid hinc
        clear hinc
        go_enter Try.func34, Try.ntmps34
        go_wp2_with (at_builtin; refine wpList_append_all rfl _ _ 45 rfl w.heap.size 52 i0 _ 2 16 Try.underlying45 hi hz0 hz1 hz2 rfl (by decide) _ 0 [] rfl hown0 _ n (tcells l) rfl hsr.out (by unfold maxLen; omega) (by omega) (by simp) ?_)
        intro v' w1 hown' hgrow hnil
        have hB := hb.grown hgrow (by simp) (fun k e => by cases e; exact Nat.le_refl _)
        obtain ⟨g, c, rfl⟩ : ∃ g c, v' = .slice (some ⟨g, 0, none⟩) n c := by
          rcases hown'.2 with ⟨rfl, _⟩ | ⟨g, cap, cur, rfl, _⟩
          · exact absurd rfl hnil
          · exact ⟨g, cap, rfl⟩
        have c2 := (hown'.cellAt (k * 2 + 1) (by omega)).trans p2
        have f2 := hown'.frozenAt (k * 2 + 1)
        have hge : w.heap.size ≤ g := (hown'.lt g rfl).1
        clear hgrow hnil
        have hst := hown'.stored (k * 2 + 1) (.int .i64 (wrap64 (y + 1)))
        rw [← HI.out, hs2.out] at hst
        have HST := Lib.hid hst
        clear hst hown'
        go_wp2
        go_ret
        rw [← HI.out]
        exact ⟨g, c, rfl, HST.out.1, hB.setCell (p := ⟨g, k * 2 + 1, none⟩) hge _⟩
      · show Calls _ _ _ _ _
        have hinc : incI y = y := by unfold incI; rw [if_neg hz]
        have HI := Lib.hid hinc
        clear hinc
        go_enter Try.func34, Try.ntmps34
        go_wp2_with (at_builtin; refine wpList_append_all rfl _ _ 45 rfl w.heap.size 52 i0 _ 2 16 Try.underlying45 hi hz0 hz1 hz2 rfl (by decide) _ 0 [] rfl hown0 _ n (tcells l) rfl hsr.out (by unfold maxLen; omega) (by omega) (by simp) ?_)
        intro v' w1 hown' hgrow hnil
        have hB := hb.grown hgrow (by simp) (fun k e => by cases e; exact Nat.le_refl _)
        obtain ⟨g, c, rfl⟩ : ∃ g c, v' = .slice (some ⟨g, 0, none⟩) n c := by
          rcases hown'.2 with ⟨rfl, _⟩ | ⟨g, cap, cur, rfl, _⟩
          · exact absurd rfl hnil
          · exact ⟨g, cap, rfl⟩
        have c2 := (hown'.cellAt (k * 2 + 1) (by omega)).trans p2
        have f2 := hown'.frozenAt (k * 2 + 1)
        have hge : w.heap.size ≤ g := (hown'.lt g rfl).1
        clear hgrow hnil
        go_wp2
        go_ret
        exact ⟨g, c, rfl, by rw [HI.out, hs0.out]; exact hown', hB⟩
    · by_cases hz : x < 65536
      · show Calls _ _ _ _ _
        have hinc : incI x = wrap64 (x + 1) := by unfold incI; rw [if_pos hz]
        have HI := Lib.hid hinc
        clear hinc
        go_enter Try.func34, Try.ntmps34
        go_wp2_with (at_builtin; refine wpList_append_all rfl _ _ 45 rfl w.heap.size 52 i0 _ 2 16 Try.underlying45 hi hz0 hz1 hz2 rfl (by decide) _ 0 [] rfl hown0 _ n (tcells l) rfl hsr.out (by unfold maxLen; omega) (by omega) (by simp) ?_)
        intro v' w1 hown' hgrow hnil
        have hB := hb.grown hgrow (by simp) (fun k e => by cases e; exact Nat.le_refl _)
        obtain ⟨g, c, rfl⟩ : ∃ g c, v' = .slice (some ⟨g, 0, none⟩) n c := by
          rcases hown'.2 with ⟨rfl, _⟩ | ⟨g, cap, cur, rfl, _⟩
          · exact absurd rfl hnil
          · exact ⟨g, cap, rfl⟩
        have c2 := (hown'.cellAt (k * 2) (by omega)).trans p1
        have f2 := hown'.frozenAt (k * 2)
        have hge : w.heap.size ≤ g := (hown'.lt g rfl).1
        clear hgrow hnil
        have hst := hown'.stored (k * 2) (.int .i64 (wrap64 (x + 1)))
        rw [← HI.out, hs1.out] at hst
        have HST := Lib.hid hst
        clear hst hown'
        go_wp2
        go_ret
        rw [← HI.out]
        exact ⟨g, c, rfl, HST.out.1, hB.setCell (p := ⟨g, k * 2, none⟩) hge _⟩
      · show Calls _ _ _ _ _
        have hinc : incI x = x := by unfold incI; rw [if_neg hz]
        have HI := Lib.hid hinc
        clear hinc
        go_enter Try.func34, Try.ntmps34
        go_wp2_with (at_builtin; refine wpList_append_all rfl _ _ 45 rfl w.heap.size 52 i0 _ 2 16 Try.underlying45 hi hz0 hz1 hz2 rfl (by decide) _ 0 [] rfl hown0 _ n (tcells l) rfl hsr.out (by unfold maxLen; omega) (by omega) (by simp) ?_)
        intro v' w1 hown' hgrow hnil
        have hB := hb.grown hgrow (by simp) (fun k e => by cases e; exact Nat.le_refl _)
        obtain ⟨g, c, rfl⟩ : ∃ g c, v' = .slice (some ⟨g, 0, none⟩) n c := by
          rcases hown'.2 with ⟨rfl, _⟩ | ⟨g, cap, cur, rfl, _⟩
          · exact absurd rfl hnil
          · exact ⟨g, cap, rfl⟩
        have c2 := (hown'.cellAt (k * 2) (by omega)).trans p1
        have f2 := hown'.frozenAt (k * 2)
        have hge : w.heap.size ≤ g := (hown'.lt g rfl).1
        clear hgrow hnil
        go_wp2
        go_ret
        exact ⟨g, c, rfl, by rw [HI.out, hs0.out]; exact hown', hB⟩
  · rw [recL_out l ch ok hin]
    unfold Made
    obtain ⟨n, hn⟩ : ∃ n, l.length = n := ⟨_, rfl⟩
    rw [hn] at hin hsr hl ⊢
    clear hn
    by_cases h0 : ch < 0
    · show Calls _ _ _ _ _
      go_enter Try.func34, Try.ntmps34
      go_wp2_with (at_builtin; refine wpList_append_all rfl _ _ 45 rfl w.heap.size 52 i0 _ 2 16 Try.underlying45 hi hz0 hz1 hz2 rfl (by decide) _ 0 [] rfl hown0 _ n (tcells l) rfl hsr.out (by unfold maxLen; omega) (by omega) (by simp) ?_)
      intro v' w1 hown' hgrow hnil
      have hB := hb.grown hgrow (by simp) (fun k e => by cases e; exact Nat.le_refl _)
      obtain ⟨g, c, rfl⟩ : ∃ g c, v' = .slice (some ⟨g, 0, none⟩) n c := by
        rcases hown'.2 with ⟨rfl, _⟩ | ⟨g, cap, cur, rfl, _⟩
        · exact absurd rfl hnil
        · exact ⟨g, cap, rfl⟩
      clear hgrow hnil
      go_wp2
      go_ret
      exact ⟨g, c, rfl, hown', hB⟩
    · have h1 : (n : Int) ≤ ch := by omega
      clear hin
      go_enter Try.func34, Try.ntmps34
      go_wp2_with (at_builtin; refine wpList_append_all rfl _ _ 45 rfl w.heap.size 52 i0 _ 2 16 Try.underlying45 hi hz0 hz1 hz2 rfl (by decide) _ 0 [] rfl hown0 _ n (tcells l) rfl hsr.out (by unfold maxLen; omega) (by omega) (by simp) ?_)
      intro v' w1 hown' hgrow hnil
      have hB := hb.grown hgrow (by simp) (fun k e => by cases e; exact Nat.le_refl _)
      obtain ⟨g, c, rfl⟩ : ∃ g c, v' = .slice (some ⟨g, 0, none⟩) n c := by
        rcases hown'.2 with ⟨rfl, _⟩ | ⟨g, cap, cur, rfl, _⟩
        · exact absurd rfl hnil
        · exact ⟨g, cap, rfl⟩
      clear hgrow hnil
      go_wp2
      go_ret
      exact ⟨g, c, rfl, hown', hB⟩
end Go.Proofs.Ytoaiiceglfmfcaa
