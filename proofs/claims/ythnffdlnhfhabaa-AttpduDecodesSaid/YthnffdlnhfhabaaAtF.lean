/- attpdu: elements of lists; list. -/
import Derived.Test.YthnffdlnhfhabaaAtE
namespace Go.Proofs.Ythnffdlnhfhabaa
open Go.RowKit

/-- an element of a list -/
structure It where
  ha : Nat
  la : Nat
  hi : Nat
  lo : Nat
  a : Option Addr
  n : Nat
  c : Nat
  bs : List Nat
def itc (t : It) : List Value := [.int .u16 t.ha, .int .u16 t.la, .int .u64 t.hi, .int .u64 t.lo, .slice t.a t.n t.c]
/-- it can be read -/
def ItOk (W : World) (t : It) : Prop := t.ha < 65536 ∧ t.la < 65536 ∧ t.hi < 18446744073709551616 ∧ t.lo < 18446744073709551616 ∧ t.bs.length = t.n ∧ BytesAt W (.slice t.a t.n t.c) t.bs
def Items (W : World) (v : Value) (m : Nat) (its : List It) : Prop := its.length = m ∧ SR W v m 5 (its.flatMap itc) ∧ ∀ t ∈ its, ItOk W t
theorem ItOk.below {W W' : World} {t : It} (h : ItOk W t) (hb : Below W.heap.size W W') : ItOk W' t := ⟨h.1, h.2.1, h.2.2.1, h.2.2.2.1, h.2.2.2.2.1, h.2.2.2.2.2.below hb⟩
theorem Items.below {W W' : World} {v : Value} {m : Nat} {its : List It} (h : Items W v m its) (hb : Below W.heap.size W W') : Items W' v m its := ⟨h.1, h.2.1.below hb, fun t ht => (h.2.2 t ht).below hb⟩
theorem itc_get (its : List It) (k j : Nat) (hk : k < its.length) (hj : j < 5) : (its.flatMap itc)[k * 5 + j]? = (itc its[k])[j]? := flat_get itc 5 (fun _ => rfl) its k j hk hj
/-- the error of an element -/
def chkIt (k : Int) (last L : Nat) (t : It) : Int := if unuI k t.la t.hi t.lo t.n = false then 1 else if t.ha = 0 then 5 else if t.ha ≤ last ∨ (k = 17 ∧ t.la < t.ha) then 13 else if sizeI k t.hi t.lo t.n ≠ L then 11 else 0
def chkIts (k : Int) (last L : Nat) : List It → Int
  | [] => 0
  | t :: l => if chkIt k last L t = 0 then chkIts k (max t.ha t.la) L l else chkIt k last L t
/-- the error of a list -/
def chkL (k : Int) : List It → Int
  | [] => 1
  | t :: l => if chkIts k 0 (sizeI k t.hi t.lo t.n) (t :: l) = 0 then (if sizeI k t.hi t.lo t.n ≤ 255 ∧ (t :: l).length ≤ 515 / sizeI k t.hi t.lo t.n then 0 else 4) else chkIts k 0 (sizeI k t.hi t.lo t.n) (t :: l)
theorem sizeI_lo (k : Int) (hi lo n : Nat) : 2 ≤ sizeI k hi lo n := by
  unfold sizeI
  split
  · omega
  · split <;> omega
theorem chkIts_step (k : Int) (last L : Nat) (its : List It) (j : Nat) (h : j < its.length) : chkIts k last L (its.drop j) = if chkIt k last L its[j] = 0 then chkIts k (max its[j].ha its[j].la) L (its.drop (j + 1)) else chkIt k last L its[j] := by
  rw [List.drop_eq_getElem_cons h, chkIts]
set_option linter.unusedSimpArgs false in
set_option linter.unusedVariables false in
set_option maxRecDepth 100000 in
set_option maxHeartbeats 2000000 in
theorem list_any (ki ak : Int) (ha la hi lo : Nat) (of mt co : Int) (cm : Bool) (a1 a2 : Option Addr) (n c m d : Nat) (its : List It) (w : World) (hits : Items w (.slice a2 m d) m its) (hm : m ≤ 1000) (hbn : ∀ t ∈ its, t.n ≤ 1099511627776) :
    Calls Try.prog 49 #[.agg #[.int .i64 ki, .int .i64 ak, .int .u16 ha, .int .u16 la, .int .u64 hi, .int .u64 lo, .int .i64 of, .int .i64 mt, .int .i64 co, .bool cm, .slice a1 n c, .slice a2 m d]] w fun e w' => e = .returned (.int .i64 (chkL ki its)) ∧ Below w.heap.size w w' := by
  have hB : Below w.heap.size w (w.alloc (.cells #[.int .i64 ki, .int .i64 ak, .int .u16 ha, .int .u16 la, .int .u64 hi, .int .u64 lo, .int .i64 of, .int .i64 mt, .int .i64 co, .bool cm, .slice a1 n c, .slice a2 m d] 29)) := (Below.refl _ _).alloc (Nat.le_refl _) _
  have T0 := cells_new w [.int .i64 ki, .int .i64 ak, .int .u16 ha, .int .u16 la, .int .u64 hi, .int .u64 lo, .int .i64 of, .int .i64 mt, .int .i64 co, .bool cm, .slice a1 n c, .slice a2 m d] 29
  cases its with
  | nil =>
    obtain rfl : 0 = m := hits.1
    go_enter Try.func49, Try.ntmps49
    go_wp2
    go_ret
    exact ⟨rfl, hB⟩
  | cons t0 rest =>
    obtain ⟨hlen, hsr, hok⟩ := hits
    obtain ⟨_, _, _, ao, cap, e0, _, hcell⟩ := hsr
    cases e0
    have hm0 : 0 < m := by rw [← hlen]; simp
    obtain ⟨b, off, rfl, hb, hc⟩ := hcell hm0
    obtain ⟨its, hi'⟩ : ∃ its, t0 :: rest = its := ⟨_, rfl⟩
    have hchk : chkL ki (t0 :: rest) = if chkIts ki 0 (sizeI ki t0.hi t0.lo t0.n) its = 0 then (if sizeI ki t0.hi t0.lo t0.n ≤ 255 ∧ m ≤ 515 / sizeI ki t0.hi t0.lo t0.n then 0 else 4) else chkIts ki 0 (sizeI ki t0.hi t0.lo t0.n) its := by
      rw [← hi', ← hlen, chkL]
    rw [hchk]
    have hg0 : its[0]? = some t0 := by rw [← hi']; rfl
    clear hchk
    rw [hi'] at hlen hok hc hbn
    have hcells : ∀ j (h : j < its.length), Cells w (blk b (off + j * 5) 0 (itc its[j])) := fun j h => by
      have hh := fun i (hi5 : i < 5) => itc_get its j i h hi5
      refine ⟨?_, ?_, ?_, ?_, ?_, trivial⟩
      all_goals
        rw [Nat.add_assoc]
        refine hc _ _ ?_
        rw [hh _ (by decide)]
        rfl
    have h0l : 0 < its.length := by rw [hlen]; exact hm0
    have h00 : its[0] = t0 := by
      rw [List.getElem?_eq_getElem h0l] at hg0
      exact Option.some.inj hg0
    have c0 := hcells 0 h0l
    have ok0 := hok _ (List.getElem_mem h0l)
    have hn0 := hbn _ (List.getElem_mem h0l)
    rw [h00] at c0 ok0 hn0
    obtain ⟨xa, xl, xh, xo, aa, an, ac, abs⟩ := t0
    simp only [itc] at c0 ok0 hn0 ⊢
    obtain ⟨_, _, hxh, hxo, _, _⟩ := ok0
    have hsz := fun W => size_any ki xa xl xh xo aa an ac hxh hxo hn0 W
    have hL2 := sizeI_lo ki xh xo an
    have hLb : sizeI ki xh xo an ≤ 1099511627800 := by
      have := encB_16 xh xo
      have hn0' : an ≤ 1099511627776 := hn0
      unfold sizeI
      split
      · omega
      · split <;> omega
    obtain ⟨L, hL⟩ : ∃ L, sizeI ki xh xo an = L := ⟨_, rfl⟩
    simp only [hL] at hsz hL2 hLb ⊢
    obtain ⟨R, hR⟩ : ∃ R, chkIts ki 0 L its = R := ⟨_, rfl⟩
    rw [hR]
    obtain ⟨RES, hRES⟩ : ∃ X, X = (if R = 0 then (if L ≤ 255 ∧ m ≤ 515 / L then (0 : Int) else 4) else R) := ⟨_, rfl⟩
    rw [← hRES]
    have HRES := Lib.hid hRES
    clear hRES
    have HSZ := Lib.hid hsz
    have HLEN := Lib.hid hlen
    have HOK := Lib.hid hok
    have HBN := Lib.hid hbn
    have HCE := Lib.hid hcells
    have HR := Lib.hid hR
    have hbw : b < w.heap.size := hb
    clear hi' hg0 hlen hok hc hbn hcells h0l h00 hxh hxo hsz hL hR hn0 hcell hb
    go_enter Try.func49, Try.ntmps49
    go_upto_region 4 with fail
    generalize hV : World.alloc _ _ = V at T0 hB ⊢
    have hVs : w.heap.size < V.heap.size := by rw [← hV]; simp
    clear hV
    have TV := T0.app (c0.keep hB)
    have HT0 := Lib.hid T0
    have HB := Lib.hid hB
    clear T0 c0 hB
    refine wp_region_held_drew (S := (fun W' : World => Cells W' (blk w.heap.size 0 0 [.int .i64 ki, .int .i64 ak, .int .u16 ha, .int .u16 la, .int .u64 hi, .int .u64 lo, .int .i64 of, .int .i64 mt, .int .i64 co, .bool cm, .slice a1 n c, .slice (some ⟨b, off, none⟩) m d] ++ blk b (off + 0 * 5) 0 [.int .u16 xa, .int .u16 xl, .int .u64 xh, .int .u64 xo, .slice aa an ac]))) (by kernel_rfl) (TV.drew) (fun hHeld => ?_)
    refine wpAnyH_take (i := 0) (oi := _) (v := ?_) (by rw [List.getElem?_toArray]; rfl) (by kernel_rfl) (by kernel_rfl) (by kernel_rfl) (by exact fun _ _ _ h => h) (Or.inl ⟨by rfl, ?_⟩) (by assumption) ?_
    rotate_left
    · intro w hSw
      try simp only [Cells, blk, List.cons_append, List.nil_append, and_true, Nat.reduceAdd, Nat.add_zero, Nat.zero_add] at hSw
      go_simp
      try with_reducible rfl
    simp only [Act.put, List.setIfInBounds_toArray, List.set_cons_zero, List.set_cons_succ]
    refine wpAnyH_take (i := 1) (oi := _) (v := ?_) (by rw [List.getElem?_toArray]; rfl) (by kernel_rfl) (by kernel_rfl) (by kernel_rfl) (by exact fun _ _ _ h => h) (Or.inl ⟨by rfl, ?_⟩) (by assumption) ?_
    rotate_left
    · intro w hSw
      try simp only [Cells, blk, List.cons_append, List.nil_append, and_true, Nat.reduceAdd, Nat.add_zero, Nat.zero_add] at hSw
      go_simp
      try with_reducible rfl
    simp only [Act.put, List.setIfInBounds_toArray, List.set_cons_zero, List.set_cons_succ]
    refine wpAnyH_take (i := 2) (oi := _) (v := ?_) (by rw [List.getElem?_toArray]; rfl) (by kernel_rfl) (by kernel_rfl) (by kernel_rfl) (by exact fun _ _ _ h => h) (Or.inl ⟨by rfl, ?_⟩) (by assumption) ?_
    rotate_left
    · intro w hSw
      try simp only [Cells, blk, List.cons_append, List.nil_append, and_true, Nat.reduceAdd, Nat.add_zero, Nat.zero_add] at hSw
      go_simp
      try with_reducible rfl
    simp only [Act.put, List.setIfInBounds_toArray, List.set_cons_zero, List.set_cons_succ]
    refine wpAnyH_take (i := 3) (oi := _) (v := ?_) (by rw [List.getElem?_toArray]; rfl) (by kernel_rfl) (by kernel_rfl) (by kernel_rfl) (by exact fun _ _ _ h => h) (Or.inl ⟨by rfl, ?_⟩) (by assumption) ?_
    rotate_left
    · intro w hSw
      try simp only [Cells, blk, List.cons_append, List.nil_append, and_true, Nat.reduceAdd, Nat.add_zero, Nat.zero_add] at hSw
      go_simp
      try with_reducible rfl
    simp only [Act.put, List.setIfInBounds_toArray, List.set_cons_zero, List.set_cons_succ]
    refine wpAnyH_take (i := 4) (oi := _) (v := ?_) (by rw [List.getElem?_toArray]; rfl) (by kernel_rfl) (by kernel_rfl) (by kernel_rfl) (by exact fun _ _ _ h => h) (Or.inl ⟨by rfl, ?_⟩) (by assumption) ?_
    rotate_left
    · intro w hSw
      try simp only [Cells, blk, List.cons_append, List.nil_append, and_true, Nat.reduceAdd, Nat.add_zero, Nat.zero_add] at hSw
      go_simp
      try with_reducible rfl
    simp only [Act.put, List.setIfInBounds_toArray, List.set_cons_zero, List.set_cons_succ]
    refine wpAnyH_take (i := 5) (oi := _) (v := ?_) (by rw [List.getElem?_toArray]; rfl) (by kernel_rfl) (by kernel_rfl) (by kernel_rfl) (by exact fun _ _ _ h => h) (Or.inl ⟨by rfl, ?_⟩) (by assumption) ?_
    rotate_left
    · intro w hSw
      try simp only [Cells, blk, List.cons_append, List.nil_append, and_true, Nat.reduceAdd, Nat.add_zero, Nat.zero_add] at hSw
      go_simp
      try with_reducible rfl
    simp only [Act.put, List.setIfInBounds_toArray, List.set_cons_zero, List.set_cons_succ]
    refine wpAnyH_ready (rs := [6]) (by kernel_rfl) (by simp) (AllReadyH.cons (o := _) (by rw [List.getElem?_toArray]; rfl) (fun K hK => ?_) AllReadyH.nil)
    go_simp
    go_at_call 55
    refine (HSZ.out _).mono ?_
    rintro e w2 ⟨rfl, hB2⟩
    have TW := Cells.keep (W := V.drew) TV.drew hB2
    have hb2 : Below V.heap.size V w2 := (Below.refl V.heap.size V).drew.trans hB2
    clear hHeld
    refine hK.out _ _ (TW) (fun hHeld => ?_)
    clear hK K
    try simp only [Act.put, List.setIfInBounds_toArray, List.set_cons_zero, List.set_cons_succ]
    refine wpAnyH_take (i := 7) (oi := _) (v := ?_) (by rw [List.getElem?_toArray]; rfl) (by kernel_rfl) (by kernel_rfl) (by kernel_rfl) (by exact fun _ _ _ h => h) (Or.inl ⟨by rfl, ?_⟩) (by assumption) ?_
    rotate_left
    · intro w hSw
      try simp only [Cells, blk, List.cons_append, List.nil_append, and_true, Nat.reduceAdd, Nat.add_zero, Nat.zero_add] at hSw
      go_simp
      try with_reducible rfl
    simp only [Act.put, List.setIfInBounds_toArray, List.set_cons_zero, List.set_cons_succ]
    refine wpAnyH_done (by kernel_rfl) ?_ _
    have hBW := HB.out.trans (hb2.mono HB.out.size)
    have T12 := HT0.out.keep hb2
    have HBW := Lib.hid hBW
    have HT12 := Lib.hid T12
    have hws : w.heap.size < w2.heap.size := Nat.lt_of_lt_of_le hVs hb2.size
    clear TW TV hHeld hB2 hb2 HT0 HB
    have TO := HT12.out
    have hOpen := TO
    simp only [Cells, blk, List.cons_append, List.nil_append, and_true, Nat.reduceAdd, Nat.add_zero, Nat.zero_add] at hOpen
    obtain ⟨y0, y1, y2, y3, y4, y5, y6, y7, y8, y9, yA, yB⟩ := hOpen
    clear TO
    go_wp2
    clear y0 y1 y2 y3 y4 y5 y6 y7 y8 y9 yA yB
    go_loopw [3, 6, 21] (fun la' _ i wr => ∃ k last : Nat, i = .int .i64 k ∧ k ≤ m ∧ la' = .int .u16 last ∧ last < 65536 ∧ Hid (R = chkIts ki last L (its.drop k)) ∧ Below w2.heap.size w2 wr) (fun _ _ i _ => m - (intOf i).toNat)
    case atStart => exact ⟨0, 0, by simp, Nat.zero_le _, by simp, by decide, Lib.hid HR.out.symm, Below.refl _ _⟩
    case round =>
      obtain ⟨k, last, rfl, hk, rfl, hlast, hst, hBr⟩ := hrel
      have w1 : IntKind.i64.wrap ((k : Int) + 1) = (k : Int) + 1 := IntWalk.i64_in _ (by omega)
      by_cases hlt : k < m
      · have g1 : decide (k < m) = true := by simpa using hlt
        have hkl : k < its.length := by rw [HLEN.out]; exact hlt
        have cK := (HCE.out k hkl).keep (HBW.out.trans (hBr.mono HBW.out.size))
        have okK := HOK.out _ (List.getElem_mem hkl)
        have hnK := HBN.out _ (List.getElem_mem hkl)
        have hwr : w.heap.size < wr.heap.size := Nat.lt_of_lt_of_le hws hBr.size
        have hstp := chkIts_step ki last L its k hkl
        have T12r := HT12.out.keep hBr
        obtain ⟨t, ht⟩ : ∃ t, its[k] = t := ⟨_, rfl⟩
        rw [ht] at cK okK hnK hstp
        obtain ⟨xa, xl, xh, xo, aa, an, ac, abs⟩ := t
        simp only [itc] at cK okK hnK hstp
        obtain ⟨hxa, hxl, hxh, hxo, _, _⟩ := okK
        have hsz := fun W => size_any ki xa xl xh xo aa an ac hxh hxo hnK W
        have hun := fun W => unused_any ki xa xl xh xo aa an ac W
        have hLT := cells_new wr [.int .u16 xa, .int .u16 xl, .int .u64 xh, .int .u64 xo, .slice aa an ac] 46
        have hBr1 := hBr.alloc hBr.size (.cells #[.int .u16 xa, .int .u16 xl, .int .u64 xh, .int .u64 xo, .slice aa an ac] 46)
        have hnew : Below wr.heap.size wr (wr.alloc (.cells #[.int .u16 xa, .int .u16 xl, .int .u64 xh, .int .u64 xo, .slice aa an ac] 46)) := (Below.refl _ _).alloc (Nat.le_refl _) _
        have T12s := T12r.keep hnew
        have HLT := Lib.hid (hLT.app T12s)
        have HBr1 := Lib.hid hBr1
        have HST := Lib.hid (hst.out.trans hstp)
        unfold chkIt at HST
        obtain ⟨q1, hq1⟩ : ∃ q, unuI ki xl xh xo an = q := ⟨_, rfl⟩
        obtain ⟨S, hS⟩ : ∃ S, sizeI ki xh xo an = S := ⟨_, rfl⟩
        simp only [hS] at hsz HST
        simp only [hq1] at hun HST
        have hSb : S ≤ 1099511627800 := by
          rw [← hS]
          have := encB_16 xh xo
          have hn0' : an ≤ 1099511627776 := hnK
          unfold sizeI
          split
          · omega
          · split <;> omega
        have HSZ2 := Lib.hid hsz
        have HUN := Lib.hid hun
        have hcK := HT12.out
        have TK := cK.app T12r
        clear hstp hst hsz hun hLT T12s hq1 hS ht hkl hxh hxo hBr hBr1 hnew cK T12r hcK hnK
        have hOpen := TK
        simp only [Cells, blk, List.cons_append, List.nil_append, and_true, Nat.reduceAdd, Nat.add_zero, Nat.zero_add] at hOpen
        obtain ⟨x0, x1, x2, x3, x4, y0, y1, y2, y3, y4, y5, y6, y7, y8, y9, yA, yB⟩ := hOpen
        clear TK
        cases q1
        · have hR' : R = 1 := by have := HST.out; simpa using this
          obtain rfl : RES = 1 := by rw [HRES.out, hR', if_neg (by decide)]
          clear hR'
          clear HST
          go_wp2_with fail
          refine (HUN.out _).mono ?_
          rintro e w3 ⟨rfl, hB3⟩
          have hBr3 := HBr1.out.trans (hB3.mono HBr1.out.size)
          clear hB3
          go_wp2
          go_ret
          exact ⟨rfl, HBW.out.trans (hBr3.mono HBW.out.size)⟩
        · go_wp2_with fail
          refine (HUN.out _).mono ?_
          rintro e w3 ⟨rfl, hB3⟩
          have hBr3 := HBr1.out.trans (hB3.mono HBr1.out.size)
          have TK := HLT.out.keep hB3
          have HBr3 := Lib.hid hBr3
          have HTK := Lib.hid TK
          clear x0 x1 x2 x3 x4 y0 y1 y2 y3 y4 y5 y6 y7 y8 y9 yA yB HLT HBr1 hB3 hBr3
          have hOpen := TK
          simp only [Cells, blk, List.cons_append, List.nil_append, and_true, Nat.reduceAdd, Nat.add_zero, Nat.zero_add] at hOpen
          obtain ⟨x0, x1, x2, x3, x4, y0, y1, y2, y3, y4, y5, y6, y7, y8, y9, yA, yB⟩ := hOpen
          clear TK
          by_cases hxa0 : xa = 0
          · have hR' : R = 5 := by have := HST.out; simpa [hxa0] using this
            have t1 : ((xa : Int) == 0) = true := by simpa using hxa0
            obtain rfl : RES = 5 := by rw [HRES.out, hR', if_neg (by decide)]
            clear hR'
            clear HST hxa0
            go_wp2
            go_ret
            exact ⟨rfl, HBW.out.trans (HBr3.out.mono HBW.out.size)⟩
          have t1 : ((xa : Int) == 0) = false := by simpa using hxa0
          by_cases hle : xa ≤ last
          · have hR' : R = 13 := by have := HST.out; simpa [hxa0, hle] using this
            have t2 : decide (xa ≤ last) = true := by simpa using hle
            obtain rfl : RES = 13 := by rw [HRES.out, hR', if_neg (by decide)]
            clear hR'
            clear HST hxa0 hle
            go_wp2
            go_ret
            exact ⟨rfl, HBW.out.trans (HBr3.out.mono HBW.out.size)⟩
          have t2 : decide (xa ≤ last) = false := by simpa using hle
          have HST2 : Hid (R = if (if ki = 17 ∧ xl < xa then (13 : Int) else if S ≠ L then 11 else 0) = 0 then chkIts ki (max xa xl) L (its.drop (k + 1)) else if ki = 17 ∧ xl < xa then 13 else if S ≠ L then 11 else 0) := Lib.hid (by
            have := HST.out
            simp only [Bool.true_eq_false, if_false, hxa0, hle, false_or] at this
            exact this)
          clear HST hxa0 hle
          by_cases h17 : ki = 17 ∧ xl < xa
          · have hR' : R = 13 := by have := HST2.out; rw [if_pos h17] at this; simpa using this
            obtain ⟨h17, hlx⟩ := h17
            have t3 : (ki == 17) = true := by simpa using h17
            have t4 : decide (xl < xa) = true := by simpa using hlx
            obtain rfl : RES = 13 := by rw [HRES.out, hR', if_neg (by decide)]
            clear hR'
            clear HST2 h17 hlx
            go_wp2
            go_ret
            exact ⟨rfl, HBW.out.trans (HBr3.out.mono HBW.out.size)⟩
          have HST3 : Hid (R = if (if S ≠ L then (11 : Int) else 0) = 0 then chkIts ki (max xa xl) L (its.drop (k + 1)) else if S ≠ L then 11 else 0) := Lib.hid (by
            have := HST2.out
            rw [if_neg h17] at this
            exact this)
          clear HST2
          have hcase : ((ki == 17) = false) ∨ ((ki == 17) = true ∧ decide (xl < xa) = false) := by
            by_cases e : ki = 17
            · exact .inr ⟨by simpa using e, by simp; exact Nat.le_of_not_lt fun h => h17 ⟨e, h⟩⟩
            · exact .inl (by simpa using e)
          clear h17
          rcases hcase with t3 | ⟨t3, t4⟩
          all_goals
            go_wp2_with fail
            refine (HSZ2.out _).mono ?_
            rintro e w4 ⟨rfl, hB4⟩
            have hBr4 := HBr3.out.trans (hB4.mono HBr3.out.size)
            have TK := HTK.out.keep hB4
            clear x0 x1 x2 x3 x4 y0 y1 y2 y3 y4 y5 y6 y7 y8 y9 yA yB HTK hB4 HBr3
            have hOpen := TK
            simp only [Cells, blk, List.cons_append, List.nil_append, and_true, Nat.reduceAdd, Nat.add_zero, Nat.zero_add] at hOpen
            obtain ⟨x0, x1, x2, x3, x4, y0, y1, y2, y3, y4, y5, y6, y7, y8, y9, yA, yB⟩ := hOpen
            clear TK
            by_cases hSL : S = L
            · have hR' : R = chkIts ki (max xa xl) L (its.drop (k + 1)) := by have := HST3.out; simpa [hSL] using this
              have t5 : (S != L) = false := by simpa using hSL
              have t5' : ((S : Int) != (L : Int)) = false := by simp; omega
              have HR2 := Lib.hid hR'
              clear HST3 hR' hSL
              go_wp2
              refine ⟨⟨k + 1, max xa xl, by simp, hlt, by rw [show ((max xa xl : Nat) : Int) = max (xa : Int) (xl : Int) by omega], by omega, HR2, hBr4⟩, ?_⟩
              simp [intOf]
              omega
            · have hR' : R = 11 := by have := HST3.out; simpa [hSL] using this
              have t5 : (S != L) = true := by simpa using hSL
              have t5' : ((S : Int) != (L : Int)) = true := by simp; omega
              obtain rfl : RES = 11 := by rw [HRES.out, hR', if_neg (by decide)]
              clear hR'
              clear HST3 hSL
              go_wp2
              go_ret
              exact ⟨rfl, HBW.out.trans (hBr4.mono HBW.out.size)⟩
      · have g1 : decide (k < m) = false := by simpa using hlt
        obtain rfl : m = k := by omega
        have hR0 : R = 0 := by rw [hst.out, List.drop_of_length_le (by rw [HLEN.out]; exact Nat.le_refl _)]; rfl
        obtain ⟨Q, hQ⟩ : ∃ Q, 515 / L = Q := ⟨_, rfl⟩
        have e1 : IntKind.i64.wrap (Int.tdiv 515 (L : Int)) = (Q : Int) := by
          rw [Int.tdiv_eq_ediv_of_nonneg (by decide), IntWalk.i64_in _ ⟨by have : (0 : Int) ≤ 515 / (L : Int) := Int.ediv_nonneg (by decide) (by omega); omega, by have : (515 : Int) / (L : Int) ≤ 515 := Int.ediv_le_self _ (by decide); omega⟩, ← hQ]
          rfl
        have e2 : ((L : Int) == 0) = false := by simp; omega
        have e3 : (0 : Int) ≤ (L : Int) := by omega
        have e5 : ¬ L = 0 := by omega
        have e4 : (1 : Int) ≤ (L : Int) := by omega
        have hun := fun W => unless_any (decide ((L : Int) ≤ 255) && decide (m ≤ Q)) 4 W
        have hres : (if L ≤ 255 ∧ m ≤ 515 / L then (0 : Int) else 4) = unlessI (decide ((L : Int) ≤ 255) && decide (m ≤ Q)) 4 := by
          rw [hQ]
          unfold unlessI
          by_cases h1 : L ≤ 255 <;> by_cases h2 : m ≤ Q <;> simp [h1, h2] <;> omega
        obtain ⟨bq, hbq⟩ : ∃ b, (decide ((L : Int) ≤ 255) && decide (m ≤ Q)) = b := ⟨_, rfl⟩
        have hRE : RES = unlessI bq 4 := by rw [HRES.out, hR0, if_pos rfl, hres, hbq]
        subst hRE
        have HUN := Lib.hid hun
        have T12r := HT12.out.keep hBr
        clear hst hR0 hQ hres hun
        obtain ⟨q, hq⟩ : ∃ q, decide ((L : Int) ≤ 255) = q := ⟨_, rfl⟩
        rw [hq] at HUN hbq
        cases q
        · go_upto_region 19 with fail
          refine wp_region_held_drew (S := (fun W' : World => Cells W' (blk w.heap.size 0 0 [.int .i64 ki, .int .i64 ak, .int .u16 ha, .int .u16 la, .int .u64 hi, .int .u64 lo, .int .i64 of, .int .i64 mt, .int .i64 co, .bool cm, .slice a1 n c, .slice (some ⟨b, off, none⟩) m d]))) (by kernel_rfl) (T12r.drew) (fun hHeld => ?_)
          refine wpAnyH_take (i := 0) (oi := _) (v := ?_) (by rw [List.getElem?_toArray]; rfl) (by kernel_rfl) (by kernel_rfl) (by kernel_rfl) (by exact fun _ _ _ h => h) (Or.inl ⟨by rfl, ?_⟩) (by assumption) ?_
          rotate_left
          · intro w hSw
            try simp only [Cells, blk, List.cons_append, List.nil_append, and_true, Nat.reduceAdd, Nat.add_zero, Nat.zero_add] at hSw
            go_simp
            try with_reducible rfl
          simp only [Act.put, List.setIfInBounds_toArray, List.set_cons_zero, List.set_cons_succ]
          refine wpAnyH_take (i := 1) (oi := _) (v := ?_) (by rw [List.getElem?_toArray]; rfl) (by kernel_rfl) (by kernel_rfl) (by kernel_rfl) (by exact fun _ _ _ h => h) (Or.inl ⟨by rfl, ?_⟩) (by assumption) ?_
          rotate_left
          · intro w hSw
            try simp only [Cells, blk, List.cons_append, List.nil_append, and_true, Nat.reduceAdd, Nat.add_zero, Nat.zero_add] at hSw
            go_simp
            try with_reducible rfl
          simp only [Act.put, List.setIfInBounds_toArray, List.set_cons_zero, List.set_cons_succ]
          refine wpAnyH_take (i := 2) (oi := _) (v := ?_) (by rw [List.getElem?_toArray]; rfl) (by kernel_rfl) (by kernel_rfl) (by kernel_rfl) (by exact fun _ _ _ h => h) (Or.inl ⟨by rfl, ?_⟩) (by assumption) ?_
          rotate_left
          · intro w hSw
            try simp only [Cells, blk, List.cons_append, List.nil_append, and_true, Nat.reduceAdd, Nat.add_zero, Nat.zero_add] at hSw
            go_simp
            try with_reducible rfl
          simp only [Act.put, List.setIfInBounds_toArray, List.set_cons_zero, List.set_cons_succ]
          refine wpAnyH_take (i := 3) (oi := _) (v := undef) (by rw [List.getElem?_toArray]; rfl) (by kernel_rfl) (by kernel_rfl) (by kernel_rfl) (by exact fun _ _ _ h => h) (Or.inr ⟨by rfl, rfl⟩) (by assumption) ?_
          simp only [Act.put, List.setIfInBounds_toArray, List.set_cons_zero, List.set_cons_succ]
          refine wpAnyH_take (i := 4) (oi := _) (v := undef) (by rw [List.getElem?_toArray]; rfl) (by kernel_rfl) (by kernel_rfl) (by kernel_rfl) (by exact fun _ _ _ h => h) (Or.inr ⟨by rfl, rfl⟩) (by assumption) ?_
          simp only [Act.put, List.setIfInBounds_toArray, List.set_cons_zero, List.set_cons_succ]
          refine wpAnyH_take (i := 5) (oi := _) (v := undef) (by rw [List.getElem?_toArray]; rfl) (by kernel_rfl) (by kernel_rfl) (by kernel_rfl) (by exact fun _ _ _ h => h) (Or.inr ⟨by rfl, rfl⟩) (by assumption) ?_
          simp only [Act.put, List.setIfInBounds_toArray, List.set_cons_zero, List.set_cons_succ]
          refine wpAnyH_take (i := 6) (oi := _) (v := undef) (by rw [List.getElem?_toArray]; rfl) (by kernel_rfl) (by kernel_rfl) (by kernel_rfl) (by exact fun _ _ _ h => h) (Or.inr ⟨by rfl, rfl⟩) (by assumption) ?_
          simp only [Act.put, List.setIfInBounds_toArray, List.set_cons_zero, List.set_cons_succ]
          refine wpAnyH_take (i := 7) (oi := _) (v := undef) (by rw [List.getElem?_toArray]; rfl) (by kernel_rfl) (by kernel_rfl) (by kernel_rfl) (by exact fun _ _ _ h => h) (Or.inr ⟨by rfl, rfl⟩) (by assumption) ?_
          simp only [Act.put, List.setIfInBounds_toArray, List.set_cons_zero, List.set_cons_succ]
          refine wpAnyH_take (i := 8) (oi := _) (v := undef) (by rw [List.getElem?_toArray]; rfl) (by kernel_rfl) (by kernel_rfl) (by kernel_rfl) (by exact fun _ _ _ h => h) (Or.inr ⟨by rfl, rfl⟩) (by assumption) ?_
          simp only [Act.put, List.setIfInBounds_toArray, List.set_cons_zero, List.set_cons_succ]
          refine wpAnyH_take (i := 9) (oi := _) (v := ?_) (by rw [List.getElem?_toArray]; rfl) (by kernel_rfl) (by kernel_rfl) (by kernel_rfl) (by exact fun _ _ _ h => h) (Or.inl ⟨by rfl, ?_⟩) (by assumption) ?_
          rotate_left
          · intro w hSw
            try simp only [Cells, blk, List.cons_append, List.nil_append, and_true, Nat.reduceAdd, Nat.add_zero, Nat.zero_add] at hSw
            go_simp
            try with_reducible rfl
          simp only [Act.put, List.setIfInBounds_toArray, List.set_cons_zero, List.set_cons_succ]
          refine wpAnyH_ready (rs := [10]) (by kernel_rfl) (by simp) (AllReadyH.cons (o := _) (by rw [List.getElem?_toArray]; rfl) (fun K hK => ?_) AllReadyH.nil)
          go_simp
          go_at_call 47
          first
          | (refine (HUN.out _).mono ?_)
          | (have h := HUN.out; simp only [Bool.false_and, Bool.true_and] at h; refine (h _).mono ?_)
          rintro e w3 ⟨rfl, rfl⟩
          clear hHeld
          refine hK.out _ _ (T12r.drew) (fun hHeld => ?_)
          clear hK K
          try simp only [Act.put, List.setIfInBounds_toArray, List.set_cons_zero, List.set_cons_succ]
          refine wpAnyH_take (i := 11) (oi := _) (v := ?_) (by rw [List.getElem?_toArray]; rfl) (by kernel_rfl) (by kernel_rfl) (by kernel_rfl) (by exact fun _ _ _ h => h) (Or.inl ⟨by rfl, ?_⟩) (by assumption) ?_
          rotate_left
          · intro w hSw
            try simp only [Cells, blk, List.cons_append, List.nil_append, and_true, Nat.reduceAdd, Nat.add_zero, Nat.zero_add] at hSw
            go_simp
            try with_reducible rfl
          simp only [Act.put, List.setIfInBounds_toArray, List.set_cons_zero, List.set_cons_succ]
          refine wpAnyH_done (by kernel_rfl) ?_ _
          go_wp2
          go_ret
          rw [Bool.false_and] at hbq
          subst hbq
          exact ⟨rfl, HBW.out.trans (hBr.drew.mono HBW.out.size)⟩
        · have h := HUN.out
          rw [hbq] at h
          have HUN2 := Lib.hid h
          clear h
          go_upto_region 19 with fail
          refine wp_region_held_drew (S := (fun W' : World => Cells W' (blk w.heap.size 0 0 [.int .i64 ki, .int .i64 ak, .int .u16 ha, .int .u16 la, .int .u64 hi, .int .u64 lo, .int .i64 of, .int .i64 mt, .int .i64 co, .bool cm, .slice a1 n c, .slice (some ⟨b, off, none⟩) m d]))) (by kernel_rfl) (T12r.drew) (fun hHeld => ?_)
          refine wpAnyH_take (i := 0) (oi := _) (v := ?_) (by rw [List.getElem?_toArray]; rfl) (by kernel_rfl) (by kernel_rfl) (by kernel_rfl) (by exact fun _ _ _ h => h) (Or.inl ⟨by rfl, ?_⟩) (by assumption) ?_
          rotate_left
          · intro w hSw
            try simp only [Cells, blk, List.cons_append, List.nil_append, and_true, Nat.reduceAdd, Nat.add_zero, Nat.zero_add] at hSw
            go_simp
            try with_reducible rfl
          simp only [Act.put, List.setIfInBounds_toArray, List.set_cons_zero, List.set_cons_succ]
          refine wpAnyH_take (i := 1) (oi := _) (v := ?_) (by rw [List.getElem?_toArray]; rfl) (by kernel_rfl) (by kernel_rfl) (by kernel_rfl) (by exact fun _ _ _ h => h) (Or.inl ⟨by rfl, ?_⟩) (by assumption) ?_
          rotate_left
          · intro w hSw
            try simp only [Cells, blk, List.cons_append, List.nil_append, and_true, Nat.reduceAdd, Nat.add_zero, Nat.zero_add] at hSw
            go_simp
            try with_reducible rfl
          simp only [Act.put, List.setIfInBounds_toArray, List.set_cons_zero, List.set_cons_succ]
          refine wpAnyH_take (i := 2) (oi := _) (v := ?_) (by rw [List.getElem?_toArray]; rfl) (by kernel_rfl) (by kernel_rfl) (by kernel_rfl) (by exact fun _ _ _ h => h) (Or.inl ⟨by rfl, ?_⟩) (by assumption) ?_
          rotate_left
          · intro w hSw
            try simp only [Cells, blk, List.cons_append, List.nil_append, and_true, Nat.reduceAdd, Nat.add_zero, Nat.zero_add] at hSw
            go_simp
            try with_reducible rfl
          simp only [Act.put, List.setIfInBounds_toArray, List.set_cons_zero, List.set_cons_succ]
          refine wpAnyH_take (i := 3) (oi := _) (v := ?_) (by rw [List.getElem?_toArray]; rfl) (by kernel_rfl) (by kernel_rfl) (by kernel_rfl) (by exact fun _ _ _ h => h) (Or.inl ⟨by rfl, ?_⟩) (by assumption) ?_
          rotate_left
          · intro w hSw
            try simp only [Cells, blk, List.cons_append, List.nil_append, and_true, Nat.reduceAdd, Nat.add_zero, Nat.zero_add] at hSw
            go_simp
            try with_reducible rfl
          simp only [Act.put, List.setIfInBounds_toArray, List.set_cons_zero, List.set_cons_succ]
          refine wpAnyH_take (i := 4) (oi := _) (v := ?_) (by rw [List.getElem?_toArray]; rfl) (by kernel_rfl) (by kernel_rfl) (by kernel_rfl) (by exact fun _ _ _ h => h) (Or.inl ⟨by rfl, ?_⟩) (by assumption) ?_
          rotate_left
          · intro w hSw
            try simp only [Cells, blk, List.cons_append, List.nil_append, and_true, Nat.reduceAdd, Nat.add_zero, Nat.zero_add] at hSw
            go_simp
            try with_reducible rfl
          simp only [Act.put, List.setIfInBounds_toArray, List.set_cons_zero, List.set_cons_succ]
          refine wpAnyH_take (i := 5) (oi := _) (v := ?_) (by rw [List.getElem?_toArray]; rfl) (by kernel_rfl) (by kernel_rfl) (by kernel_rfl) (by exact fun _ _ _ h => h) (Or.inl ⟨by rfl, ?_⟩) (by assumption) ?_
          rotate_left
          · intro w hSw
            try simp only [Cells, blk, List.cons_append, List.nil_append, and_true, Nat.reduceAdd, Nat.add_zero, Nat.zero_add] at hSw
            go_simp
            try with_reducible rfl
          simp only [Act.put, List.setIfInBounds_toArray, List.set_cons_zero, List.set_cons_succ]
          refine wpAnyH_take (i := 6) (oi := _) (v := ?_) (by rw [List.getElem?_toArray]; rfl) (by kernel_rfl) (by kernel_rfl) (by kernel_rfl) (by exact fun _ _ _ h => h) (Or.inl ⟨by rfl, ?_⟩) (by assumption) ?_
          rotate_left
          · intro w hSw
            try simp only [Cells, blk, List.cons_append, List.nil_append, and_true, Nat.reduceAdd, Nat.add_zero, Nat.zero_add] at hSw
            go_simp
            try with_reducible rfl
          simp only [Act.put, List.setIfInBounds_toArray, List.set_cons_zero, List.set_cons_succ]
          refine wpAnyH_take (i := 7) (oi := _) (v := ?_) (by rw [List.getElem?_toArray]; rfl) (by kernel_rfl) (by kernel_rfl) (by kernel_rfl) (by exact fun _ _ _ h => h) (Or.inl ⟨by rfl, ?_⟩) (by assumption) ?_
          rotate_left
          · intro w hSw
            try simp only [Cells, blk, List.cons_append, List.nil_append, and_true, Nat.reduceAdd, Nat.add_zero, Nat.zero_add] at hSw
            go_simp
            try with_reducible rfl
          simp only [Act.put, List.setIfInBounds_toArray, List.set_cons_zero, List.set_cons_succ]
          refine wpAnyH_take (i := 8) (oi := _) (v := ?_) (by rw [List.getElem?_toArray]; rfl) (by kernel_rfl) (by kernel_rfl) (by kernel_rfl) (by exact fun _ _ _ h => h) (Or.inl ⟨by rfl, ?_⟩) (by assumption) ?_
          rotate_left
          · intro w hSw
            try simp only [Cells, blk, List.cons_append, List.nil_append, and_true, Nat.reduceAdd, Nat.add_zero, Nat.zero_add] at hSw
            go_simp
            try with_reducible rfl
          simp only [Act.put, List.setIfInBounds_toArray, List.set_cons_zero, List.set_cons_succ]
          refine wpAnyH_take (i := 9) (oi := _) (v := ?_) (by rw [List.getElem?_toArray]; rfl) (by kernel_rfl) (by kernel_rfl) (by kernel_rfl) (by exact fun _ _ _ h => h) (Or.inl ⟨by rfl, ?_⟩) (by assumption) ?_
          rotate_left
          · intro w hSw
            try simp only [Cells, blk, List.cons_append, List.nil_append, and_true, Nat.reduceAdd, Nat.add_zero, Nat.zero_add] at hSw
            go_simp
            try with_reducible rfl
          simp only [Act.put, List.setIfInBounds_toArray, List.set_cons_zero, List.set_cons_succ]
          refine wpAnyH_ready (rs := [10]) (by kernel_rfl) (by simp) (AllReadyH.cons (o := _) (by rw [List.getElem?_toArray]; rfl) (fun K hK => ?_) AllReadyH.nil)
          go_simp
          go_at_call 47
          refine (HUN2.out _).mono ?_
          rintro e w3 ⟨rfl, rfl⟩
          clear hHeld
          refine hK.out _ _ (T12r.drew) (fun hHeld => ?_)
          clear hK K
          try simp only [Act.put, List.setIfInBounds_toArray, List.set_cons_zero, List.set_cons_succ]
          refine wpAnyH_take (i := 11) (oi := _) (v := ?_) (by rw [List.getElem?_toArray]; rfl) (by kernel_rfl) (by kernel_rfl) (by kernel_rfl) (by exact fun _ _ _ h => h) (Or.inl ⟨by rfl, ?_⟩) (by assumption) ?_
          rotate_left
          · intro w hSw
            try simp only [Cells, blk, List.cons_append, List.nil_append, and_true, Nat.reduceAdd, Nat.add_zero, Nat.zero_add] at hSw
            go_simp
            try with_reducible rfl
          simp only [Act.put, List.setIfInBounds_toArray, List.set_cons_zero, List.set_cons_succ]
          refine wpAnyH_done (by kernel_rfl) ?_ _
          go_wp2
          go_ret
          exact ⟨rfl, HBW.out.trans (hBr.drew.mono HBW.out.size)⟩
end Go.Proofs.Ythnffdlnhfhabaa
