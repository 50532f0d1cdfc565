/- attpdu: the bytes of an element, and of a list. -/
import Derived.Test.YthnffdlnhfhabaaAtF
namespace Go.Proofs.Ythnffdlnhfhabaa
open Go.RowKit

theorem all2 {α : Type} {P : α → Prop} {a b : α} (h1 : P a) (h2 : P b) : ∀ p ∈ [a, b], P p := by
  intro p hp
  simp only [List.mem_cons, List.not_mem_nil, or_false] at hp
  rcases hp with rfl | rfl
  · exact h1
  · exact h2
theorem all3 {α : Type} {P : α → Prop} {a b c : α} (h1 : P a) (h2 : P b) (h3 : P c) : ∀ p ∈ [a, b, c], P p := by
  intro p hp
  simp only [List.mem_cons, List.not_mem_nil, or_false] at hp
  rcases hp with rfl | rfl | rfl
  · exact h1
  · exact h2
  · exact h3
/-- the bytes of an element -/
def itB (k : Int) (t : It) : List Nat := putB t.ha 2 ++ (if k = 5 then encB t.hi t.lo else if k = 17 then putB t.la 2 ++ t.bs else t.bs)
theorem itB_len (k : Int) (t : It) (h : t.bs.length = t.n) : (itB k t).length = sizeI k t.hi t.lo t.n := by
  unfold itB sizeI
  rw [List.length_append, putB_len]
  split
  · rfl
  · split
    · rw [List.length_append, putB_len, h]; omega
    · rw [h]
theorem itB_lt (k : Int) (t : It) (h : ∀ x ∈ t.bs, x < 256) : ∀ x ∈ itB k t, x < 256 := by
  intro x hx
  unfold itB at hx
  rcases List.mem_append.1 hx with hx | hx
  · exact putB_lt _ _ x hx
  · split at hx
    · exact encB_lt _ _ x hx
    · split at hx
      · rcases List.mem_append.1 hx with hx | hx
        · exact putB_lt _ _ x hx
        · exact h x hx
      · exact h x hx
theorem byt0 (N : Nat) : IntKind.u8.wrap (N : Int) = ((byt N 0 : Nat) : Int) := by
  have := byt_wrap N 0
  simpa using this
theorem byt1 (N : Nat) : IntKind.u8.wrap ((N : Int) / 256) = ((byt N 1 : Nat) : Int) := by
  have := byt_wrap N 1
  simpa using this
theorem putB2 (N : Nat) : putB N 2 = [byt N 0, byt N 1] := rfl
/-- two bytes in a block of their own -/
theorem two_bytes (w : World) (N cap : Nat) : BytesAt (w.alloc (.cells #[.int .u8 (byt N 0 : Nat), .int .u8 (byt N 1 : Nat)] 5)) (.slice (some ⟨w.heap.size, 0, none⟩) 2 cap) (putB N 2) :=
  bytesAt_of_blk (t := 5) (bs := putB N 2) (Blk.new w 5 [.int .u8 (byt N 0 : Nat), .int .u8 (byt N 1 : Nat)]) (putB_len N 2) (putB_lt N 2) (by omega)
/-- Join of a literal of slices -/
theorem joinL_any (ps : List (Value × List Nat)) (t : TypeId) (n : Nat) (hn : ps.length = n) (w : World) (h : ∀ p ∈ ps, BytesAt w p.1 p.2) (hm : (ps.flatMap (·.2)).length ≤ 1099511627776) (hk : n ≤ 1000) :
    Calls Try.prog 54 #[.slice (some ⟨w.heap.size, 0, none⟩) n n] (w.alloc (.cells (ps.map (·.1)).toArray t)) fun e w' => ∃ v', e = .returned v' ∧ BytesAt w' v' (ps.flatMap (·.2)) ∧ Below w.heap.size w w' := by
  subst hn
  have hal : Below w.heap.size w (w.alloc (.cells (ps.map (·.1)).toArray t)) := (Below.refl _ _).alloc (Nat.le_refl _) _
  have bP := Blk.new w t (ps.map (·.1))
  have h1 : ∀ u ∈ ps.map (·.1), u.oneCell' = true := fun u hu => by
    obtain ⟨p, hp, rfl⟩ := List.mem_map.1 hu
    obtain ⟨_, _, e⟩ := (h p hp).1.val
    rw [e]
    rfl
  have hlt : ∀ x ∈ ps.flatMap (·.2), x < 256 := fun x hx => by
    obtain ⟨p, hp, hx⟩ := List.mem_flatMap.1 hx
    exact (h p hp).2.2 x hx
  refine (join_any (.slice (some ⟨w.heap.size, 0, none⟩) ps.length ps.length) ps _ ⟨by unfold maxLen; omega, by simp, h1, some ⟨w.heap.size, 0, none⟩, ps.length, rfl, fun h => (by cases h), fun _ => ⟨w.heap.size, 0, rfl, bP.lt, fun j u hj => by rw [Nat.zero_add]; exact bP.cell hj⟩⟩ (fun p hp => (h p hp).below hal) hm (by omega)).mono ?_
  rintro e w' ⟨v', rfl, hown, hB⟩
  exact ⟨v', rfl, bytesAt_of_own hown rfl hlt hm, hal.trans (hB.mono (by simp))⟩
set_option linter.unusedSimpArgs false in
set_option linter.unusedVariables false in
set_option maxRecDepth 100000 in
set_option maxHeartbeats 2000000 in
theorem element_any (k : Int) (t : It) (w : World) (ht : ItOk w t) (hn : t.n ≤ 1000000) :
    Calls Try.prog 57 #[.int .i64 k, .agg (itc t).toArray] w fun e w' => ∃ v, e = .returned v ∧ BytesAt w' v (itB k t) ∧ Below w.heap.size w w' := by
  obtain ⟨ha, la, hi, lo, a, n, c, bs⟩ := t
  obtain ⟨h1, h2, h3, h4, h5, hby⟩ := ht
  simp only at h1 h2 h3 h4 h5 hby hn
  simp only [itc, itB]
  have he := fun W => encode_any hi lo h3 h4 W
  have hel := encB_16 hi lo
  generalize encB hi lo = X at he hel
  have HE := Lib.hid he
  have hB0 : Below w.heap.size w (w.alloc (.cells #[.int .u16 ha, .int .u16 la, .int .u64 hi, .int .u64 lo, .slice a n c] 46)) := (Below.refl _ _).alloc (Nat.le_refl _) _
  have T0 := cells_new w [.int .u16 ha, .int .u16 la, .int .u64 hi, .int .u64 lo, .slice a n c] 46
  have b0 := byt0 ha
  have b1 := byt1 ha
  have c0 := byt0 la
  have c1 := byt1 la
  have i1 : (ha : Int) < 65536 := by omega
  have i2 : (la : Int) < 65536 := by omega
  have hpl : (putB ha 2).length = 2 := putB_len _ _
  have hpl2 : (putB la 2).length = 2 := putB_len _ _
  have hbl : bs.length ≤ 1000000 := by omega
  have HBY := Lib.hid hby
  have HT0 := Lib.hid T0
  have HB0 := Lib.hid hB0
  have F1 := Lib.hid h5
  clear he hby T0 hB0 h5
  -- the first two bytes
  by_cases hk5 : k = 5
  · subst hk5
    rw [if_pos rfl]
    go_enter Try.func57, Try.ntmps57
    go_upto_region 1 with fail
    generalize hV : World.alloc _ _ = V at HT0 HB0 ⊢
    have hVs : w.heap.size < V.heap.size := by rw [← hV]; simp
    clear hV
    have TV := HT0.out
    have hOpen := TV
    simp only [Cells, blk, List.cons_append, List.nil_append, and_true, Nat.reduceAdd, Nat.add_zero, Nat.zero_add] at hOpen
    obtain ⟨x0, x1, x2, x3, x4⟩ := hOpen
    go_upto_region 4 with fail
    have b2 := two_bytes V ha 2
    have hB1 := HB0.out.alloc HB0.out.size (.cells #[.int .u8 (byt ha 0 : Nat), .int .u8 (byt ha 1 : Nat)] 5)
    go_wp2_with fail
    refine (HE.out _).mono ?_
    rintro e w1 ⟨v1, rfl, hv1, hB2⟩
    obtain ⟨a1, n1, rfl⟩ := hv1.1.val
    have b2' := b2.below hB2
    have hBw := hB1.trans (hB2.mono hB1.size)
    have hj := joinL_any [(.slice (some ⟨V.heap.size, 0, none⟩) 2 2, putB ha 2), (.slice a1 X.length n1, X)] 26 2 rfl w1 (all2 b2' hv1) (by simp only [List.flatMap_cons, List.flatMap_nil, List.append_nil, List.length_append, hpl]; omega) (by decide)
    simp only [List.flatMap_cons, List.flatMap_nil, List.append_nil, List.map_cons, List.map_nil, World.size_alloc] at hj
    have HJ := Lib.hid hj
    have HBW := Lib.hid hBw
    clear b2 b2' hv1 hB1 hB2 hj hBw TV x0 x1 x2 x3 x4 hpl hpl2 hel hbl b0 b1 c0 c1 i1 i2 hVs HBY F1
    go_wp2_with fail
    refine HJ.out.mono ?_
    rintro e w2 ⟨v2, rfl, hv2, hB3⟩
    have hBf := HBW.out.trans (hB3.mono (by have := HBW.out.size; simpa using this))
    clear hB3 HBW HJ
    go_wp2
    go_ret
    exact ⟨_, rfl, hv2, hBf⟩
  · rw [if_neg hk5]
    have t1 : (k == 5) = false := by simpa using hk5
    by_cases hk17 : k = 17
    · subst hk17
      rw [if_pos rfl]
      go_enter Try.func57, Try.ntmps57
      go_upto_region 1 with fail
      generalize hV : World.alloc _ _ = V at HT0 HB0 ⊢
      have hVs : w.heap.size < V.heap.size := by rw [← hV]; simp
      clear hV
      have TV := HT0.out
      have hOpen := TV
      simp only [Cells, blk, List.cons_append, List.nil_append, and_true, Nat.reduceAdd, Nat.add_zero, Nat.zero_add] at hOpen
      obtain ⟨x0, x1, x2, x3, x4⟩ := hOpen
      have b2 := two_bytes V ha 2
      have hB1 := HB0.out.alloc HB0.out.size (.cells #[.int .u8 (byt ha 0 : Nat), .int .u8 (byt ha 1 : Nat)] 5)
      have b3 := two_bytes (V.alloc (.cells #[.int .u8 (byt ha 0 : Nat), .int .u8 (byt ha 1 : Nat)] 5)) la 2
      have hnew : Below (V.alloc (.cells #[.int .u8 (byt ha 0 : Nat), .int .u8 (byt ha 1 : Nat)] 5)).heap.size (V.alloc (.cells #[.int .u8 (byt ha 0 : Nat), .int .u8 (byt ha 1 : Nat)] 5)) ((V.alloc (.cells #[.int .u8 (byt ha 0 : Nat), .int .u8 (byt ha 1 : Nat)] 5)).alloc (.cells #[.int .u8 (byt la 0 : Nat), .int .u8 (byt la 1 : Nat)] 5)) := (Below.refl _ _).alloc (Nat.le_refl _) _
      have b2' := b2.below hnew
      have hB2 := hB1.trans (hnew.mono hB1.size)
      have hj := joinL_any [(.slice (some ⟨V.heap.size, 0, none⟩) 2 2, putB ha 2), (.slice (some ⟨V.heap.size + 1, 0, none⟩) 2 2, putB la 2), (.slice a n c, bs)] 26 3 rfl _ (all3 b2' (by simpa using b3) (HBY.out.below hB2)) (by simp only [List.flatMap_cons, List.flatMap_nil, List.append_nil, List.length_append, hpl, hpl2]; omega) (by decide)
      simp only [List.flatMap_cons, List.flatMap_nil, List.append_nil, List.map_cons, List.map_nil, World.size_alloc] at hj
      have HJ := Lib.hid hj
      have HBW := Lib.hid hB2
      clear b2 b2' b3 hB1 hB2 hj hnew TV hpl hpl2 hel hbl
      go_wp2_with fail
      refine HJ.out.mono ?_
      rintro e w2 ⟨v2, rfl, hv2, hB3⟩
      have hBf := HBW.out.trans (hB3.mono (by have := HBW.out.size; simpa using this))
      clear hB3 HBW HJ
      go_wp2
      go_ret
      exact ⟨_, rfl, hv2, hBf⟩
    · rw [if_neg hk17]
      have t2 : (k == 17) = false := by simpa using hk17
      go_enter Try.func57, Try.ntmps57
      go_upto_region 1 with fail
      generalize hV : World.alloc _ _ = V at HT0 HB0 ⊢
      have hVs : w.heap.size < V.heap.size := by rw [← hV]; simp
      clear hV
      have TV := HT0.out
      have hOpen := TV
      simp only [Cells, blk, List.cons_append, List.nil_append, and_true, Nat.reduceAdd, Nat.add_zero, Nat.zero_add] at hOpen
      obtain ⟨x0, x1, x2, x3, x4⟩ := hOpen
      have b2 := two_bytes V ha 2
      have hB1 := HB0.out.alloc HB0.out.size (.cells #[.int .u8 (byt ha 0 : Nat), .int .u8 (byt ha 1 : Nat)] 5)
      have hj := joinL_any [(.slice (some ⟨V.heap.size, 0, none⟩) 2 2, putB ha 2), (.slice a n c, bs)] 26 2 rfl _ (all2 b2 (HBY.out.below hB1)) (by simp only [List.flatMap_cons, List.flatMap_nil, List.append_nil, List.length_append, hpl]; omega) (by decide)
      simp only [List.flatMap_cons, List.flatMap_nil, List.append_nil, List.map_cons, List.map_nil, World.size_alloc] at hj
      have HJ := Lib.hid hj
      have HBW := Lib.hid hB1
      clear b2 hB1 hj TV hpl hpl2 hel hbl
      go_wp2_with fail
      refine HJ.out.mono ?_
      rintro e w2 ⟨v2, rfl, hv2, hB3⟩
      have hBf := HBW.out.trans (hB3.mono (by have := HBW.out.size; simpa using this))
      clear hB3 HBW HJ
      go_wp2
      go_ret
      exact ⟨_, rfl, hv2, hBf⟩
end Go.Proofs.Ythnffdlnhfhabaa
