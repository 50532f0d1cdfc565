/- attpdu: an element out of bytes. -/
import Derived.Test.YthnffdlnhfhabaaAtM
namespace Go.Proofs.Ythnffdlnhfhabaa
open Go.RowKit

theorem vnum2_lt (l : List Nat) (h : ∀ x ∈ l, x < 256) : vnum (l.take 2) < 65536 := by
  have h1 := vnum_lt (l.take 2) fun x hx => h x (List.mem_of_mem_take hx)
  have h2 : (l.take 2).length ≤ 2 := List.length_take_le _ _
  have h3 := Nat.pow_le_pow_right (n := 256) (by decide) h2
  have : 256 ^ 2 = 65536 := rfl
  omega
theorem decR_lt (l : List Nat) (h : ∀ x ∈ l, x < 256) : (decR l).1 < 18446744073709551616 ∧ (decR l).2.1 < 18446744073709551616 := by
  unfold decR
  split
  · have := vnum_lt l h
    rename_i h2
    rw [h2] at this
    constructor
    · show _ * _ + _ < _; omega
    · show 9223372588214596859 < 18446744073709551616; decide
  · split
    · decide
    · split
      · decide
      · split
        · decide
        · have h1 := vnum_lt (l.drop 8) fun x hx => h x (List.mem_of_mem_drop hx)
          have h2 := vnum_lt (l.take 8) fun x hx => h x (List.mem_of_mem_take hx)
          have l1 : (l.drop 8).length ≤ 8 := by rw [List.length_drop]; omega
          have l2 : (l.take 8).length ≤ 8 := List.length_take_le _ _
          have p1 := Nat.pow_le_pow_right (n := 256) (by decide) l1
          have p2 := Nat.pow_le_pow_right (n := 256) (by decide) l2
          have e8 : 256 ^ 8 = 18446744073709551616 := rfl
          exact ⟨show vnum _ < _ by omega, show vnum _ < _ by omega⟩
theorem bytesAt_nil (w : World) : BytesAt w (.slice none 0 0) [] := ⟨⟨Nat.zero_le _, rfl, by simp [bcells], none, 0, rfl, fun _ => ⟨rfl, rfl⟩, fun h => absurd h (by simp)⟩, Nat.zero_le _, by simp⟩
/-- another block is written: a row of one's own stays -/
theorem own_set {W : World} {base e sz n : Nat} {v : Value} {xs : List Value} (h : W.ownsRow base e sz v n xs) {B : Nat} {t : TypeId} {cs : List Value} (hb : Blk W B t cs) (hte : t ≠ e) (o : Nat) (u : Value) : (W.setCell ⟨B, o, none⟩ u).ownsRow base e sz v n xs := by
  refine ⟨h.1, ?_⟩
  rcases h.2 with hn | ⟨g, cap, cur, rfl, hb', hg, rest⟩
  · exact .inl hn
  · have hne : g ≠ B := by
      intro e1
      rw [e1, show W.heap[B]? = _ from hb] at hg
      simp at hg
      exact hte hg.2
    exact .inr ⟨g, cap, cur, rfl, hb', (Below.heap_setCell W ⟨B, o, none⟩ u g hne).trans hg, rest⟩
/-- another row grows: a row of one's own stays -/
theorem own_grow {W W' : World} {base e sz n base' e' sz' n' : Nat} {v v' : Value} {xs xs' : List Value} (h : W.ownsRow base e sz v n xs) (hr : W.ownsRow base' e' sz' v' n' xs') (hte : e ≠ e') (hg : W.grownBy W' v'.ownBlock) : W'.ownsRow base e sz v n xs := by
  refine ⟨h.1, ?_⟩
  rcases h.2 with hn | ⟨g, cap, cur, rfl, hb', hgb, rest⟩
  · exact .inl hn
  · refine .inr ⟨g, cap, cur, rfl, hb', (hg.block g (Array.getElem?_eq_some_iff.1 hgb).1 ?_).trans hgb, rest⟩
    rcases hr.2 with ⟨rfl, _⟩ | ⟨g', cap', cur', rfl, _, hgb', _⟩
    · simp [Value.ownBlock]
    · intro e1
      obtain rfl : g = g' := by simpa [Value.ownBlock] using e1
      rw [hgb] at hgb'
      simp at hgb'
      exact hte hgb'.2
theorem own_slice {W : World} {base e sz n : Nat} {v : Value} {xs : List Value} (h : W.ownsRow base e sz v n xs) : ∃ a c, v = .slice a n c := by
  rcases h.2 with ⟨rfl, rfl⟩ | ⟨g, cap, cur, rfl, _⟩
  · exact ⟨_, _, rfl⟩
  · exact ⟨_, _, rfl⟩
/-- an element with a value of one's own -/
def ItOwn (W : World) (base : Nat) (t : It) : Prop := t.ha < 65536 ∧ t.la < 65536 ∧ t.hi < 18446744073709551616 ∧ t.lo < 18446744073709551616 ∧ t.bs.length = t.n ∧ (∀ x ∈ t.bs, x < 256) ∧ W.ownsRow base 5 1 (.slice t.a t.n t.c) t.n (bcells t.bs)
theorem ItOwn.ok {W : World} {base : Nat} {t : It} (h : ItOwn W base t) (hn : t.n ≤ 1099511627776) : ItOk W t := ⟨h.1, h.2.1, h.2.2.1, h.2.2.2.1, h.2.2.2.2.1, bytesAt_of_own h.2.2.2.2.2.2 h.2.2.2.2.1 h.2.2.2.2.2.1 hn⟩
/-- Join of one slice: a row of one's own -/
theorem joinL_own (v : Value) (bs : List Nat) (t : TypeId) (w : World) (h : BytesAt w v bs) (hm : bs.length ≤ 1099511627776) :
    Calls Try.prog 54 #[.slice (some ⟨w.heap.size, 0, none⟩) 1 1] (w.alloc (.cells #[v] t)) fun e w' => ∃ v', e = .returned v' ∧ w'.ownsRow w.heap.size 5 1 v' bs.length (bcells bs) ∧ Below w.heap.size w w' := by
  have hal : Below w.heap.size w (w.alloc (.cells #[v] t)) := (Below.refl _ _).alloc (Nat.le_refl _) _
  have bP := Blk.new w t [v]
  have h1 : v.oneCell' = true := by
    obtain ⟨_, _, e⟩ := h.1.val
    rw [e]
    rfl
  have hj := join_any (.slice (some ⟨w.heap.size, 0, none⟩) 1 1) [(v, bs)] (w.alloc (.cells #[v] t)) ⟨by unfold maxLen; simp, by simp, by simpa using h1, some ⟨w.heap.size, 0, none⟩, 1, rfl, fun h => (by cases h), fun _ => ⟨w.heap.size, 0, rfl, bP.lt, fun j u hj => by rw [Nat.zero_add]; exact bP.cell hj⟩⟩ (by intro p hp; simp only [List.mem_singleton] at hp; subst hp; exact h.below hal) (by simpa using hm) (by simp)
  simp only [List.flatMap_cons, List.flatMap_nil, List.append_nil] at hj
  refine hj.mono ?_
  rintro e w' ⟨v', rfl, hown, hB⟩
  exact ⟨v', rfl, own_base hown (by simp), hal.trans (hB.mono (by simp))⟩
theorem list_ge2 (bs : List Nat) (h : 2 ≤ bs.length) : ∃ x y r, bs = x :: y :: r := by
  match bs, h with
  | x :: y :: r, _ => exact ⟨x, y, r, rfl⟩
set_option linter.unusedSimpArgs false in
set_option linter.unusedVariables false in
set_option maxRecDepth 100000 in
set_option maxHeartbeats 4000000 in
theorem item_any (k : Int) (a : Option Addr) (n c : Nat) (bs : List Nat) (w : World) (h : BytesAt w (.slice a n c) bs) (hn : bs.length = n) (hc : n ≤ c) (h2 : 2 ≤ n) (h4 : k = 17 → 4 ≤ n) (hm : n ≤ 1000) :
    Calls Try.prog 95 #[.int .i64 k, .slice a n c] w fun e w' => ∃ a' c', e = .returned (.tuple #[.agg (itc (itD k bs a' c')).toArray, .int .i64 (erD k bs)]) ∧ ItOwn w' w.heap.size (itD k bs a' c') ∧ Below w.heap.size w w' := by
  have HBY := Lib.hid h
  obtain ⟨⟨_, _, _, ao, cap, e0, _, hcell⟩, _, hlt⟩ := h
  rw [hn] at e0 hcell
  cases e0
  obtain ⟨b, off, rfl, hb, hc0⟩ := hcell (by omega)
  obtain ⟨x0, x1, r, rfl⟩ := list_ge2 bs (by omega)
  have y0 : x0 < 256 := hlt x0 (by simp)
  have y1 : x1 < 256 := hlt x1 (by simp)
  have k0 := hc0 0 (.int .u8 (x0 : Int)) rfl
  have k1 := hc0 1 (.int .u8 (x1 : Int)) rfl
  obtain ⟨a2, c2, hby2, hc2, hrun2⟩ := bytes_from w _ n c 2 _ HBY.out hn hc h2
  have hlen2 : r.length = n - 2 := by simp at hn; omega
  have ho := or16i x0 x1 y0 y1
  have hV1 : vnum [x0, x1] < 65536 := vnum2_lt [x0, x1] (by intro x hx; simp only [List.mem_cons, List.not_mem_nil, or_false] at hx; rcases hx with rfl | rfl <;> assumption)
  have hit : ∀ a' c', itD k (x0 :: x1 :: r) a' c' = ⟨vnum [x0, x1], if k = 17 then vnum (r.take 2) else 0, if k = 5 then (decR r).1 else 0, if k = 5 then (decR r).2.1 else 0, a', if k = 5 then 0 else if k = 17 then n - 4 else n - 2, c', if k = 5 then [] else if k = 17 then r.drop 2 else r⟩ := fun a' c' => by unfold itD; simp [← hn]
  have her : erD k (x0 :: x1 :: r) = if k = 5 then (decR r).2.2 else 0 := rfl
  simp only [hit, her]
  clear hit her
  simp only [List.drop_succ_cons, List.drop_zero] at hby2
  obtain ⟨V, hV⟩ : ∃ V, vnum [x0, x1] = V := ⟨_, rfl⟩
  rw [hV] at ho hV1 ⊢
  obtain ⟨n2, hn2⟩ : ∃ n2, n - 2 = n2 := ⟨_, rfl⟩
  simp only [hn2] at hby2 hc2 hrun2 hlen2 ⊢
  obtain ⟨LA, hLA⟩ : ∃ x, (if k = 17 then vnum (r.take 2) else 0) = x := ⟨_, rfl⟩
  obtain ⟨HI, hHI⟩ : ∃ x, (if k = 5 then (decR r).1 else 0) = x := ⟨_, rfl⟩
  obtain ⟨LO, hLO⟩ : ∃ x, (if k = 5 then (decR r).2.1 else 0) = x := ⟨_, rfl⟩
  obtain ⟨NV, hNV⟩ : ∃ x, (if k = 5 then 0 else if k = 17 then n - 4 else n2) = x := ⟨_, rfl⟩
  obtain ⟨BV, hBV⟩ : ∃ x, (if k = 5 then [] else if k = 17 then r.drop 2 else r) = x := ⟨_, rfl⟩
  obtain ⟨ER, hER⟩ : ∃ x, (if k = 5 then (decR r).2.2 else 0) = x := ⟨_, rfl⟩
  simp only [hLA, hHI, hLO, hNV, hBV, hER]
  have HLA := Lib.hid hLA
  have HHI := Lib.hid hHI
  have HLO := Lib.hid hLO
  have HNV := Lib.hid hNV
  have HBV := Lib.hid hBV
  have HER := Lib.hid hER
  clear hLA hHI hLO hNV hBV hER
  have bld := build_item V
  have hrlt : ∀ x ∈ r, x < 256 := fun x hx => hlt x (by simp [hx])
  have z0 : (0 : Int) ≤ (x0 : Int) := by omega
  have z1 : (0 : Int) ≤ (x1 : Int) := by omega
  have q0 : (x0 : Int) < 256 := by omega
  have q1 : (x1 : Int) < 256 := by omega
  have u0 : IntKind.u16.wrap (x0 : Int) = (x0 : Int) := IntWalk.u16_in _ (by omega)
  have u1 : IntKind.u16.wrap (x1 : Int) = (x1 : Int) := IntWalk.u16_in _ (by omega)
  have u2 : IntKind.u16.wrap ((x1 : Int) * 256) = (x1 : Int) * 256 := IntWalk.u16_in _ (by omega)
  have n0 : (0 : Int) < (n : Int) := by omega
  have n1 : (1 : Int) < (n : Int) := by omega
  have hB0 := (Below.refl w.heap.size w).alloc (Nat.le_refl _) (.cells #[.int .u16 0, .int .u16 0, .int .u64 0, .int .u64 0, .slice none 0 0] 46)
  have bR := Blk.new w 46 [.int .u16 0, .int .u16 0, .int .u64 0, .int .u64 0, .slice none 0 0]
  have d0 := kc (j := off + 0) k0 hB0
  have d1 := kc k1 hB0
  simp only [Nat.add_zero] at d0
  have HLT := Lib.hid hrlt
  have HBY2 := Lib.hid hby2
  have HLEN2 := Lib.hid hlen2
  clear hcell hc0 hlt k0 k1 hV hby2 hlen2 hrlt HBY hn
  go_enter Try.func95, Try.ntmps95
  go_upto_region 1 with fail
  generalize hX : World.alloc _ _ = X at bR hB0 d0 d1 ⊢
  have hXs : X.heap.size = w.heap.size + 1 := by rw [← hX]; simp
  clear hX
  go_region
  generalize hX1 : World.drew _ = X1
  have bI : Blk X1 (w.heap.size + 1) 46 [.int .u16 V, .int .u16 0, .int .u64 0, .int .u64 0, .slice none 0 0] := by
    rw [← hX1]
    have := (Blk.new X 46 [.int .u16 V, .int .u16 0, .int .u64 0, .int .u64 0, .slice none 0 0]).drew
    rwa [hXs] at this
  have bR1 : Blk X1 w.heap.size 46 [.int .u16 0, .int .u16 0, .int .u64 0, .int .u64 0, .slice none 0 0] := by rw [← hX1]; exact (bR.alloc _).drew
  have hB1 : Below w.heap.size w X1 := by rw [← hX1]; exact (hB0.alloc hB0.size _).drew
  have hX1s : w.heap.size + 1 < X1.heap.size := bI.lt
  have hr2 : ∀ W, (Instr.slice 26 (.slice (some ⟨b, off, none⟩) n c) (some (.int .i64 2)) none none).run Try.prog W = .ok (.slice a2 n2 c2) W := hrun2
  have HB1 := Lib.hid hB1
  clear hX1 hX1s hXs bR d0 d1 hB0 hB1 hrun2 z0 z1 q0 q1 u0 u1 u2 ho bld y0 y1 n0 n1
  have g5 : ∀ o, X1.frozen? ⟨w.heap.size + 1, o, none⟩ = false := fun o => bI.frozen o
  by_cases hk5 : k = 5
  · subst hk5
    have hd := fun W hB => decode_any _ r W (HBY2.out.below (w' := W) hB) (by rw [HLEN2.out]; omega)
    obtain ⟨⟨D1, D2, D3⟩, hD⟩ : ∃ D, decR r = D := ⟨_, rfl⟩
    simp only [hD] at hd
    have e1 := HLA.out
    have e2 := HHI.out
    have e3 := HLO.out
    have e4 := HNV.out
    have e5 := HBV.out
    have e6 := HER.out
    simp only [hD, if_true, if_neg (show ¬ (5 : Int) = 17 by decide)] at e1 e2 e3 e4 e5 e6
    subst e1 e2 e3 e4 e5 e6
    have HDL := Lib.hid (decR_lt r HLT.out)
    simp only [hD] at HDL
    have HDD := Lib.hid hd
    have HBR := Lib.hid bR1
    have HBI := Lib.hid bI
    have hX1l := bI.lt
    clear hd hD bR1 bI
    go_wp2_with fail
    refine (HDD.out _ HB1.out).mono ?_
    rintro e w2 ⟨rfl, hB2⟩
    have bR2 := HBR.out.below hB2
    have bI2 := HBI.out.below hB2
    have hB3 := HB1.out.trans (hB2.mono HB1.out.size)
    have hsz := hB2.size
    clear hB2
    have bU := Blk.new w2 25 [.int .u64 D1, .int .u64 D2]
    have bI3 := bI2.alloc (.cells #[.int .u64 D1, .int .u64 D2] 25)
    have bR3 := bR2.alloc (.cells #[.int .u64 D1, .int .u64 D2] 25)
    have hB4 := hB3.alloc hB3.size (.cells #[.int .u64 D1, .int .u64 D2] 25)
    have hlU := bI2.lt
    clear bR2 bI2 hB3 hsz
    go_upto_region 6 with fail
    generalize hY : World.alloc _ _ = Y at bU bI3 bR3 hB4 ⊢
    clear hY
    have T1 := bU.cells
    have hOpen := T1
    simp only [Cells, blk, List.cons_append, List.nil_append, and_true, Nat.reduceAdd, Nat.add_zero, Nat.zero_add] at hOpen
    obtain ⟨e0, e1⟩ := hOpen
    have g5 := bI3.frozen 2
    have g6 := bI3.frozen 3
    have bI4 := (bI3.setAt (j := 2) (.int .u64 D1)).setAt (j := 3) (.int .u64 D2)
    have bR4 := (bR3.other (B' := w.heap.size + 1) (o := 2) (by omega) (.int .u64 D1)).other (B' := w.heap.size + 1) (o := 3) (by omega) (.int .u64 D2)
    have hB5 := (hB4.setCell (p := ⟨w.heap.size + 1, 2, none⟩) (by simp) (.int .u64 D1)).setCell (p := ⟨w.heap.size + 1, 3, none⟩) (by simp) (.int .u64 D2)
    simp only [List.set_cons_zero, List.set_cons_succ] at bI4
    have T0 := bI3.cells
    have hOpen := T0
    simp only [Cells, blk, List.cons_append, List.nil_append, and_true, Nat.reduceAdd, Nat.add_zero, Nat.zero_add] at hOpen
    obtain ⟨c0, c1, c2, c3, c4⟩ := hOpen
    clear T1 T0
    go_upto_region 7 with fail
    generalize hY2 : World.setCell _ _ _ = Y2 at bI4 bR4 hB5 ⊢
    clear hY2 c0 c1 c2 c3 c4 e0 e1 bU bI3 bR3 hB4 g5 g6
    have T0 := bI4.cells
    have hOpen := T0
    simp only [Cells, blk, List.cons_append, List.nil_append, and_true, Nat.reduceAdd, Nat.add_zero, Nat.zero_add] at hOpen
    obtain ⟨c0, c1, c2, c3, c4⟩ := hOpen
    have f0 := bR4.frozen 0
    have f1 := bR4.frozen 1
    have f2 := bR4.frozen 2
    have f3 := bR4.frozen 3
    have f4 := bR4.frozen 4
    have TR := bR4.cells
    have hOpen := TR
    simp only [Cells, blk, List.cons_append, List.nil_append, and_true, Nat.reduceAdd, Nat.add_zero, Nat.zero_add] at hOpen
    obtain ⟨k0, k1, k2, k3, k4⟩ := hOpen
    clear T0 TR
    go_wp2
    have b5 := ((((bR4.setAt (j := 0) (.int .u16 V)).setAt (j := 1) (.int .u16 0)).setAt (j := 2) (.int .u64 D1)).setAt (j := 3) (.int .u64 D2)).setAt (j := 4) (.slice none 0 0)
    obtain ⟨r0, r1, r2, r3, r4, _⟩ := b5.cells
    simp only [Nat.zero_add, Nat.add_zero, List.set_cons_zero, List.set_cons_succ] at r0 r1 r2 r3 r4
    refine bodyPost_ret (v := .tuple #[.agg #[.int .u16 V, .int .u16 0, .int .u64 D1, .int .u64 D2, .slice none 0 0], .int .i64 D3]) (by simp [results, Try.results95, go_sem, r0, r1, r2, r3, r4]) rfl ?_
    have hBf := ((((hB5.setCell (p := ⟨w.heap.size, 0, none⟩) (by simp) (.int .u16 V)).setCell (p := ⟨w.heap.size, 1, none⟩) (by simp) (.int .u16 0)).setCell (p := ⟨w.heap.size, 2, none⟩) (by simp) (.int .u64 D1)).setCell (p := ⟨w.heap.size, 3, none⟩) (by simp) (.int .u64 D2)).setCell (p := ⟨w.heap.size, 4, none⟩) (by simp) (.slice none 0 0)
    exact ⟨none, 0, rfl, ⟨hV1, show 0 < 65536 by decide, HDL.out.1, HDL.out.2, rfl, by simp, by simpa [bcells] using World.ownsRow_nil _ w.heap.size 5 1⟩, hBf⟩
  · have t1 : (k == 5) = false := by simpa using hk5
    have e2 := HHI.out
    have e3 := HLO.out
    have e6 := HER.out
    rw [if_neg hk5] at e2 e3 e6
    subst e2 e3 e6
    have e4 := HNV.out
    have e5 := HBV.out
    rw [if_neg hk5] at e4 e5
    by_cases hk17 : k = 17
    · subst hk17
      have hn4 := h4 rfl
      have e1 := HLA.out
      rw [if_pos rfl] at e1 e4 e5
      obtain ⟨y0, y1, r2, rfl⟩ := list_ge2 r (by have := HLEN2.out; omega)
      have hbw := HBY2.out.below HB1.out
      obtain ⟨a4, C4, hby4, hc4, hrun4⟩ := bytes_from w a2 n2 c2 2 _ HBY2.out HLEN2.out hc2 (by omega)
      have hr4 : ∀ W, (Instr.slice 26 (.slice a2 n2 c2) (some (.int .i64 2)) none none).run Try.prog W = .ok (.slice a4 (n2 - 2) C4) W := hrun4
      simp only [List.drop_succ_cons, List.drop_zero] at hby4 e5
      have hl4 : r2.length = n - 4 := by have := HLEN2.out; simp only [List.length_cons] at this; omega
      obtain ⟨n4, hn4'⟩ : ∃ n4, n2 - 2 = n4 := ⟨_, rfl⟩
      rw [show n - 4 = n4 by omega] at e4 hl4
      rw [hn4'] at hby4 hr4
      subst e4 e5
      have e1 : vnum [y0, y1] = LA := by simpa using e1
      have z0 : y0 < 256 := HLT.out y0 (by simp)
      have z1 : y1 < 256 := HLT.out y1 (by simp)
      have ho := or16i y0 y1 z0 z1
      have hLA1 : LA < 65536 := by
        rw [← e1]
        exact vnum2_lt [y0, y1] (by intro x hx; simp only [List.mem_cons, List.not_mem_nil, or_false] at hx; rcases hx with rfl | rfl <;> assumption)
      rw [e1] at ho
      obtain ⟨⟨_, _, _, ao, cap, e0, _, hcell⟩, _, _⟩ := hbw
      obtain ⟨b', off', rfl, hb', hc0⟩ := hcell (by simp)
      rw [HLEN2.out] at e0
      cases e0
      have k0 := hc0 0 (.int .u8 (y0 : Int)) rfl
      have k1 := hc0 1 (.int .u8 (y1 : Int)) rfl
      simp only [Nat.add_zero] at k0
      have q0 : (y0 : Int) < 256 := by omega
      have q1 : (y1 : Int) < 256 := by omega
      have q2 : (0 : Int) ≤ (y0 : Int) := by omega
      have q3 : (0 : Int) ≤ (y1 : Int) := by omega
      have u0 : IntKind.u16.wrap (y0 : Int) = (y0 : Int) := IntWalk.u16_in _ (by omega)
      have u1 : IntKind.u16.wrap (y1 : Int) = (y1 : Int) := IntWalk.u16_in _ (by omega)
      have u2 : IntKind.u16.wrap ((y1 : Int) * 256) = (y1 : Int) * 256 := IntWalk.u16_in _ (by omega)
      have n0 : (0 : Int) < (n2 : Int) := by omega
      have n1 : (1 : Int) < (n2 : Int) := by omega
      have T0 := bI.cells
      have hOpen := T0
      simp only [Cells, blk, List.cons_append, List.nil_append, and_true, Nat.reduceAdd, Nat.add_zero, Nat.zero_add] at hOpen
      obtain ⟨c0, c1, c2, c3, c4⟩ := hOpen
      have g6 := bI.frozen 1
      have HBY4 := Lib.hid hby4
      have HLEN4 := Lib.hid hl4
      clear T0 hby4 hl4 hrun4 hcell hc0 e1 g5
      go_upto_region 9 with fail
      go_region
      generalize hZ : World.drew _ = Z
      have hbi : Blk Z (w.heap.size + 1) 46 [.int .u16 V, .int .u16 LA, .int .u64 0, .int .u64 0, .slice none 0 0] := by rw [← hZ]; exact (bI.setAt (j := 1) _).drew
      have hbr : Blk Z w.heap.size 46 [.int .u16 0, .int .u16 0, .int .u64 0, .int .u64 0, .slice none 0 0] := by rw [← hZ]; exact (bR1.other (by omega) _).drew
      have hb1 : Below w.heap.size w Z := by rw [← hZ]; exact (HB1.out.setCell (p := ⟨w.heap.size + 1, 1, none⟩) (by simp) _).drew
      have hbw : BytesAt Z (.slice a4 n4 C4) r2 := HBY4.out.below hb1
      clear hZ k0 k1 q0 q1 q2 q3 u0 u1 u2 n0 n1 bI bR1 c0 c1 c2 c3 c4 g6 ho
      have hj := joinL_own (.slice a4 n4 C4) r2 26 Z hbw (by have := HLEN4.out; omega)
      have HJ := Lib.hid hj
      have HBI := Lib.hid hbi
      have HBR := Lib.hid hbr
      have HBW := Lib.hid hb1
      have hlW := HBI.out.lt
      clear hj hbi hbr hb1
      go_wp2_with fail
      refine HJ.out.mono ?_
      rintro e w2 ⟨v2, rfl, hv2, hB2⟩
      obtain ⟨a3, C3, rfl⟩ := own_slice hv2
      obtain ⟨N3, hN3⟩ : ∃ N, r2.length = N := ⟨_, rfl⟩
      obtain rfl : N3 = n4 := by rw [← hN3]; exact HLEN4.out
      rw [hN3] at hv2
      have HLTF : Hid (∀ x ∈ r2, x < 256) := Lib.hid (fun x hx => HLT.out x (by simp [hx]))
      have bI3 := HBI.out.below hB2
      have bR3 := HBR.out.below hB2
      have hB4 := HBW.out.trans (hB2.mono HBW.out.size)
      have hv3 := own_set (own_base hv2 (HBW.out.size)) bI3 (by decide) 4 (.slice a3 N3 C3)
      have bI4 := bI3.setAt (j := 4) (.slice a3 N3 C3)
      have bR4 := bR3.other (B' := w.heap.size + 1) (o := 4) (by omega) (.slice a3 N3 C3)
      have hB5 := hB4.setCell (p := ⟨w.heap.size + 1, 4, none⟩) (by simp) (.slice a3 N3 C3)
      simp only [List.set_cons_zero, List.set_cons_succ] at bI4
      have T0 := bI3.cells
      have hOpen := T0
      simp only [Cells, blk, List.cons_append, List.nil_append, and_true, Nat.reduceAdd, Nat.add_zero, Nat.zero_add] at hOpen
      obtain ⟨c0, c1, c2, c3, c4⟩ := hOpen
      have g5 := bI3.frozen 4
      clear T0 hB2 HJ HBI HBR HBW
      go_upto_region 12 with fail
      clear c0 c1 c2 c3 c4 g5
      generalize hY2 : World.setCell _ _ _ = Y2 at bI4 bR4 hB5 hv3 ⊢
      clear hY2
      have T0 := bI4.cells
      have hOpen := T0
      simp only [Cells, blk, List.cons_append, List.nil_append, and_true, Nat.reduceAdd, Nat.add_zero, Nat.zero_add] at hOpen
      obtain ⟨c0, c1, c2, c3, c4⟩ := hOpen
      have f0 := bR4.frozen 0
      have f1 := bR4.frozen 1
      have f2 := bR4.frozen 2
      have f3 := bR4.frozen 3
      have f4 := bR4.frozen 4
      have TR := bR4.cells
      have hOpen := TR
      simp only [Cells, blk, List.cons_append, List.nil_append, and_true, Nat.reduceAdd, Nat.add_zero, Nat.zero_add] at hOpen
      obtain ⟨k0, k1, k2, k3, k4⟩ := hOpen
      clear T0 TR bI4
      have p0 := bR4.setAt (j := 0) (.int .u16 V)
      have p1 := p0.setAt (j := 1) (.int .u16 LA)
      have p2 := p1.setAt (j := 2) (.int .u64 0)
      have p3 := p2.setAt (j := 3) (.int .u64 0)
      have p4 := p3.setAt (j := 4) (.slice a3 N3 C3)
      simp only [List.set_cons_zero, List.set_cons_succ] at p0 p1 p2 p3 p4
      have hvF := own_set (own_set (own_set (own_set (own_set hv3 bR4 (by decide) 0 (.int .u16 V)) p0 (by decide) 1 (.int .u16 LA)) p1 (by decide) 2 (.int .u64 0)) p2 (by decide) 3 (.int .u64 0)) p3 (by decide) 4 (.slice a3 N3 C3)
      obtain ⟨r0, r1, r2, r3, r4, _⟩ := p4.cells
      simp only [Nat.zero_add, Nat.add_zero] at r0 r1 r2 r3 r4
      have hBf := ((((hB5.setCell (p := ⟨w.heap.size, 0, none⟩) (by simp) (.int .u16 V)).setCell (p := ⟨w.heap.size, 1, none⟩) (by simp) (.int .u16 LA)).setCell (p := ⟨w.heap.size, 2, none⟩) (by simp) (.int .u64 0)).setCell (p := ⟨w.heap.size, 3, none⟩) (by simp) (.int .u64 0)).setCell (p := ⟨w.heap.size, 4, none⟩) (by simp) (.slice a3 N3 C3)
      have HR := Lib.hid (And.intro hvF hBf)
      clear p0 p1 p2 p3 p4 hvF hBf bR4 hB5 hv3
      go_wp2
      refine bodyPost_ret (v := .tuple #[.agg #[.int .u16 V, .int .u16 LA, .int .u64 0, .int .u64 0,   .slice a3 N3 C3], .int .i64 0]) (by simp [results, Try.results95, go_sem, r0, r1, r2, r3, r4]) rfl ?_
      exact ⟨a3, C3, rfl, ⟨hV1, hLA1, show 0 < 18446744073709551616 by decide, show 0 < 18446744073709551616 by decide, hN3, HLTF.out, HR.out.1⟩, HR.out.2⟩
    · have t2 : (k == 17) = false := by simpa using hk17
      have e1 := HLA.out
      rw [if_neg hk17] at e1 e4 e5
      subst e1 e4 e5
      have hbw := HBY2.out.below HB1.out
      have hbi := bI
      have hbr := bR1
      have hb1 := HB1.out
      have hj := joinL_own (.slice a2 n2 c2) r 26 X1 hbw (by have := HLEN2.out; omega)
      have HJ := Lib.hid hj
      have HBI := Lib.hid hbi
      have HBR := Lib.hid hbr
      have HBW := Lib.hid hb1
      have hlW := HBI.out.lt
      clear hj hbi hbr hb1
      go_wp2_with fail
      refine HJ.out.mono ?_
      rintro e w2 ⟨v2, rfl, hv2, hB2⟩
      obtain ⟨a3, C3, rfl⟩ := own_slice hv2
      obtain ⟨N3, hN3⟩ : ∃ N, r.length = N := ⟨_, rfl⟩
      obtain rfl : N3 = n2 := by rw [← hN3]; exact HLEN2.out
      rw [hN3] at hv2
      have HLTF : Hid (∀ x ∈ r, x < 256) := Lib.hid (fun x hx => HLT.out x (by simp [hx]))
      have bI3 := HBI.out.below hB2
      have bR3 := HBR.out.below hB2
      have hB4 := HBW.out.trans (hB2.mono HBW.out.size)
      have hv3 := own_set (own_base hv2 (HBW.out.size)) bI3 (by decide) 4 (.slice a3 N3 C3)
      have bI4 := bI3.setAt (j := 4) (.slice a3 N3 C3)
      have bR4 := bR3.other (B' := w.heap.size + 1) (o := 4) (by omega) (.slice a3 N3 C3)
      have hB5 := hB4.setCell (p := ⟨w.heap.size + 1, 4, none⟩) (by simp) (.slice a3 N3 C3)
      simp only [List.set_cons_zero, List.set_cons_succ] at bI4
      have T0 := bI3.cells
      have hOpen := T0
      simp only [Cells, blk, List.cons_append, List.nil_append, and_true, Nat.reduceAdd, Nat.add_zero, Nat.zero_add] at hOpen
      obtain ⟨c0, c1, c2, c3, c4⟩ := hOpen
      have g5 := bI3.frozen 4
      clear T0 hB2 HJ HBI HBR HBW
      go_upto_region 12 with fail
      clear c0 c1 c2 c3 c4 g5
      generalize hY2 : World.setCell _ _ _ = Y2 at bI4 bR4 hB5 hv3 ⊢
      clear hY2
      have T0 := bI4.cells
      have hOpen := T0
      simp only [Cells, blk, List.cons_append, List.nil_append, and_true, Nat.reduceAdd, Nat.add_zero, Nat.zero_add] at hOpen
      obtain ⟨c0, c1, c2, c3, c4⟩ := hOpen
      have f0 := bR4.frozen 0
      have f1 := bR4.frozen 1
      have f2 := bR4.frozen 2
      have f3 := bR4.frozen 3
      have f4 := bR4.frozen 4
      have TR := bR4.cells
      have hOpen := TR
      simp only [Cells, blk, List.cons_append, List.nil_append, and_true, Nat.reduceAdd, Nat.add_zero, Nat.zero_add] at hOpen
      obtain ⟨k0, k1, k2, k3, k4⟩ := hOpen
      clear T0 TR bI4
      have p0 := bR4.setAt (j := 0) (.int .u16 V)
      have p1 := p0.setAt (j := 1) (.int .u16 0)
      have p2 := p1.setAt (j := 2) (.int .u64 0)
      have p3 := p2.setAt (j := 3) (.int .u64 0)
      have p4 := p3.setAt (j := 4) (.slice a3 N3 C3)
      simp only [List.set_cons_zero, List.set_cons_succ] at p0 p1 p2 p3 p4
      have hvF := own_set (own_set (own_set (own_set (own_set hv3 bR4 (by decide) 0 (.int .u16 V)) p0 (by decide) 1 (.int .u16 0)) p1 (by decide) 2 (.int .u64 0)) p2 (by decide) 3 (.int .u64 0)) p3 (by decide) 4 (.slice a3 N3 C3)
      obtain ⟨r0, r1, r2, r3, r4, _⟩ := p4.cells
      simp only [Nat.zero_add, Nat.add_zero] at r0 r1 r2 r3 r4
      have hBf := ((((hB5.setCell (p := ⟨w.heap.size, 0, none⟩) (by simp) (.int .u16 V)).setCell (p := ⟨w.heap.size, 1, none⟩) (by simp) (.int .u16 0)).setCell (p := ⟨w.heap.size, 2, none⟩) (by simp) (.int .u64 0)).setCell (p := ⟨w.heap.size, 3, none⟩) (by simp) (.int .u64 0)).setCell (p := ⟨w.heap.size, 4, none⟩) (by simp) (.slice a3 N3 C3)
      have HR := Lib.hid (And.intro hvF hBf)
      clear p0 p1 p2 p3 p4 hvF hBf bR4 hB5 hv3
      go_wp2
      refine bodyPost_ret (v := .tuple #[.agg #[.int .u16 V, .int .u16 0, .int .u64 0, .int .u64 0, .slice a3 N3 C3], .int .i64 0]) (by simp [results, Try.results95, go_sem, r0, r1, r2, r3, r4]) rfl ?_
      exact ⟨a3, C3, rfl, ⟨hV1, show 0 < 65536 by decide, show 0 < 18446744073709551616 by decide, show 0 < 18446744073709551616 by decide, hN3, HLTF.out, HR.out.1⟩, HR.out.2⟩
end Go.Proofs.Ythnffdlnhfhabaa
