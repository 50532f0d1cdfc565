/- Walks of air: IndexFunc and ContainsFunc at the jams' closure; the collisions' closure. -/
import Derived.Test.YthemdbgcamkecaaAirI
namespace Go.Proofs.Ythemdbgcamkecaa
open Go.RowKit

theorem any_take_succ {α : Type} (l : List α) (p : α → Bool) (k : Nat) (h : k < l.length) : (l.take (k + 1)).any p = ((l.take k).any p || p l[k]) := by
  rw [List.take_succ_eq_append_getElem h, List.any_append]; simp

set_option maxHeartbeats 1000000 in
theorem indexf_any (jv : Value) (js : List (Int × Int × Int)) (b : Nat) (id fr ch st : Int) (a : Option Addr) (n c : Nat) (h1 : -1125899906842624 ≤ st ∧ st ≤ 1125899906842624) (h2 : n ≤ 140737488355328) (w : World)
    (h : SR w jv js.length 3 (jcells js)) (T : Cells w (blk b 0 0 [.int .i64 id, .int .i64 fr, .int .i64 ch, .int .i64 st, .slice a n c])) :
    Calls Try.prog 53 #[jv, .func (.func 37) #[] #[.pointer (some ⟨b, 0, none⟩)]] w
      fun e w' => ∃ z : Int, e = .returned (.int .i64 z) ∧ decide (0 ≤ z) = js.any (hitJ ch st (endI st n)) ∧ Below w.heap.size w w' := by
  obtain ⟨m, hm⟩ : ∃ m, js.length = m := ⟨_, rfl⟩
  obtain ⟨hmx, _, _, ao, cap, rfl, _, hcell⟩ := h
  unfold maxLen at hmx
  rw [hm] at hmx hcell ⊢
  have HM := Lib.hid hm
  have HC := Lib.hid hcell
  have cj := fun C S E w' hb => jam1_any C S E b id fr ch st a n c h1 h2 w' (T.keep hb)
  obtain ⟨p, hp⟩ : ∃ p, hitJ ch st (endI st n) = p := ⟨_, rfl⟩
  rw [hp] at cj ⊢
  have CJ := Lib.hid cj
  clear hm hcell cj hp T
  go_enter Try.func53, Try.ntmps53
  go_wp2_with fail
  go_loopw [8, 5] (fun i _ wr => ∃ k : Nat, k ≤ m ∧ i = .int .i64 k ∧ Hid ((js.take k).any p = false) ∧ Below w.heap.size w wr) (fun i _ _ => m - (intOf i).toNat)
  case atStart => exact ⟨0, by omega, rfl, rfl, Below.refl _ _⟩
  case round =>
    obtain ⟨k, hk, rfl, hz, hB⟩ := hrel
    by_cases hlt : k < m
    · have hkl : k < js.length := by rw [HM.out]; exact hlt
      obtain ⟨b2, off, rfl, hb, hx⟩ := HC.out (by omega)
      obtain ⟨e1, e2, e3⟩ := jcells_get js k hkl
      have d1 := (hB.cell (p := ⟨b2, off + k * 3, none⟩) hb).trans (hx _ _ e1)
      have d2 := (hB.cell (p := ⟨b2, off + k * 3 + 1, none⟩) hb).trans (hx _ _ e2)
      have d3 := (hB.cell (p := ⟨b2, off + k * 3 + 2, none⟩) hb).trans (hx _ _ e3)
      have hv := any_take_succ js p k hkl
      have ha : p js[k] = true → js.any p = true := fun h => List.any_eq_true.2 ⟨_, List.getElem_mem hkl, h⟩
      rw [hz.out, Bool.false_or] at hv
      obtain ⟨⟨C, S, E⟩, he⟩ : ∃ t, js[k] = t := ⟨_, rfl⟩
      rw [he] at d1 d2 d3 hv ha
      simp only at d1 d2 d3
      have hi0 : (0 : Int) ≤ (k : Int) := by omega
      have hi1 : (k : Int) < (m : Int) := by omega
      obtain ⟨q, hq⟩ : ∃ q, p (C, S, E) = q := ⟨_, rfl⟩
      have cq := CJ.out C S E _ hB
      rw [hq] at cq hv ha
      have CQ := Lib.hid cq
      have HV := Lib.hid hv
      have HA := Lib.hid ha
      clear cq hv ha hq he e1 e2 e3 hx
      go_wp2_with fail
      refine CQ.out.mono ?_
      rintro e w2 ⟨rfl, hB2⟩
      have hBn := hB.trans (hB2.mono hB.size)
      cases q
      · go_wp2
        go_roundw
        case rel => exact ⟨k + 1, by omega, by go_num, HV.out, hBn⟩
        case measure => simp [intOf]; omega
      · go_wp2
        go_ret
        refine ⟨_, rfl, ?_, hBn⟩
        rw [HA.out (by first | rfl | trivial)]
        simp
    · have e : js.take k = js := List.take_of_length_le (by rw [HM.out]; omega)
      have ha := hz.out
      rw [e] at ha
      have HA := Lib.hid ha
      clear ha e
      go_wp2
      go_ret
      refine ⟨_, rfl, ?_, hB⟩
      rw [HA.out]
      rfl
theorem containsf_any (jv : Value) (js : List (Int × Int × Int)) (b : Nat) (id fr ch st : Int) (a : Option Addr) (n c : Nat) (h1 : -1125899906842624 ≤ st ∧ st ≤ 1125899906842624) (h2 : n ≤ 140737488355328) (w : World)
    (h : SR w jv js.length 3 (jcells js)) (T : Cells w (blk b 0 0 [.int .i64 id, .int .i64 fr, .int .i64 ch, .int .i64 st, .slice a n c])) :
    Calls Try.prog 40 #[jv, .func (.func 37) #[] #[.pointer (some ⟨b, 0, none⟩)]] w
      fun e w' => e = .returned (.bool (js.any (hitJ ch st (endI st n)))) ∧ Below w.heap.size w w' := by
  have ci := indexf_any jv js b id fr ch st a n c h1 h2 w h T
  have CI := Lib.hid ci
  clear ci T h
  go_enter Try.func40, Try.ntmps40
  go_wp2_with fail
  refine CI.out.mono ?_
  rintro e w2 ⟨z, rfl, hz, hB2⟩
  have HZ := Lib.hid hz
  clear hz
  go_wp2
  go_ret
  exact ⟨ret_bool HZ.out, hB2⟩

/-- whether x collides with t at a device -/
def colB (ls : List (Int × Int)) (to : Int) (t x : Tr) : Bool :=
  if x.fr = to then togB x.st t.st (endI x.st x.bs.length) (endI t.st t.bs.length)
  else rngB ls x.fr to && overB x.ch t.ch x.st t.st (endI x.st x.bs.length) (endI t.st t.bs.length)
/-- what Check grants -/
def Fits (t : Tr) : Prop := 0 ≤ t.st ∧ t.st ≤ 1099511627776 ∧ t.bs.length ≤ 260
/-- the closure's collision -/
def colI (ls : List (Int × Int)) (to i : Int) (t : Tr) (ts : List Tr) (k : Nat) : Bool := if (k : Int) = i then false else colB ls to t (ts.getD k default)

set_option maxHeartbeats 2000000 in
theorem col2_any (k : Nat) (i to : Int) (bs bi bt bx ba : Nat) (ao : Option Addr) (cap : Nat) (ts : List Tr) (t : Tr) (ta : Option Addr) (tc : Nat) (d : Int) (lv jv sv : Value) (ls : List (Int × Int)) (w : World)
    (hk : k < ts.length) (hf : ∀ x ∈ ts, Fits x) (ht : Fits t) (hs : Txs w (.slice ao ts.length cap) ts) (hl : SR w lv ls.length 2 (tcells ls))
    (T : Cells w ((bs, 0, .slice ao ts.length cap) :: (bi, 0, .int .i64 i) :: (bt, 0, .int .i64 to) :: (five bx 0 t ta tc ++ blk ba 0 0 [.int .i64 d, lv, jv, sv]))) :
    Calls Try.prog 38 #[.int .i64 k, .pointer (some ⟨bs, 0, none⟩), .pointer (some ⟨bi, 0, none⟩), .pointer (some ⟨bt, 0, none⟩), .pointer (some ⟨bx, 0, none⟩), .pointer (some ⟨ba, 0, none⟩)] w
      fun e w' => e = .returned (.bool (colI ls to i t ts k)) ∧ Below w.heap.size w w' := by
  obtain ⟨hmx, ao', cap', hae, hcell⟩ := hs
  simp only [Value.slice.injEq, true_and] at hae
  obtain ⟨rfl, rfl⟩ := hae
  obtain ⟨b, off, rfl, hb, hx⟩ := hcell (by omega)
  obtain ⟨xa, xc, x0, x1, x2, x3, x4, hby⟩ := hx k hk
  have hfx := hf _ (List.getElem_mem hk)
  unfold colI colB
  rw [getD_at ts k _ hk]
  unfold maxLen at hmx
  obtain ⟨n, hn⟩ : ∃ n, ts.length = n := ⟨_, rfl⟩
  rw [hn] at T hmx
  have hi0 : (0 : Int) ≤ (k : Int) := by omega
  have hi1 : (k : Int) < (n : Int) := by omega
  obtain ⟨x, hex⟩ : ∃ x, ts[k] = x := ⟨_, rfl⟩
  rw [hex] at x0 x1 x2 x3 x4 hfx ⊢
  clear hby
  clear hex hx hcell hf hn hk
  obtain ⟨XI, XF, XC, XS, xb⟩ := x
  obtain ⟨TI, TF, TC, TS, tb⟩ := t
  unfold Fits at hfx ht
  unfold five at T
  simp only at x0 x1 x2 x3 x4 hfx ht T ⊢
  obtain ⟨xn, hxn⟩ : ∃ n, xb.length = n := ⟨_, rfl⟩
  obtain ⟨tn, htn⟩ : ∃ n, tb.length = n := ⟨_, rfl⟩
  rw [hxn] at x4 hfx ⊢
  rw [htn] at T ht ⊢
  clear hxn htn
  have TX : Cells w (blk b (off + k * 5) 0 [.int .i64 XI, .int .i64 XF, .int .i64 XC, .int .i64 XS, .slice xa xn xc]) := ⟨x0, x1, x2, x3, x4, trivial⟩
  have ct := together_any XI XF XC XS TI TF TC TS xa ta xn xc tn tc (by omega) (by omega) (by omega) (by omega)
  have co := over_any XI XF XC XS TI TF TC TS xa ta xn xc tn tc (by omega) (by omega) (by omega) (by omega)
  have hBW : Below w.heap.size w (w.alloc (.cells #[.int .i64 XI, .int .i64 XF, .int .i64 XC, .int .i64 XS, .slice xa xn xc] 24)) := (Below.refl _ _).alloc (Nat.le_refl _) _
  have cr := fun w' hb => range_any d lv jv sv ls XF to w' (hl.below hb)
  obtain ⟨g, hg⟩ : ∃ g, togB XS TS (endI XS xn) (endI TS tn) = g := ⟨_, rfl⟩
  obtain ⟨o, ho⟩ : ∃ o, overB XC TC XS TS (endI XS xn) (endI TS tn) = o := ⟨_, rfl⟩
  obtain ⟨r, hr⟩ : ∃ r, rngB ls XF to = r := ⟨_, rfl⟩
  rw [hg] at ct ⊢
  rw [ho] at co ⊢
  rw [hr] at cr ⊢
  have CT := Lib.hid ct
  have CO := Lib.hid co
  have CR := Lib.hid cr
  have T1 := (cells_new w [.int .i64 XI, .int .i64 XF, .int .i64 XC, .int .i64 XS, .slice xa xn xc] 24).app (T.keep hBW)
  have hOpen := T
  simp only [Cells, blk, List.cons_append, List.nil_append, and_true, Nat.reduceAdd, Nat.add_zero, Nat.zero_add] at hOpen
  obtain ⟨k0, k1, k2, k3, k4, k5, k6, k7, k8, k9, k10, k11⟩ := hOpen
  have l0 := World.block_lt_of_cell? w _ k0
  have l1 := World.block_lt_of_cell? w _ k1
  have l2 := World.block_lt_of_cell? w _ k2
  have l3 := World.block_lt_of_cell? w _ k3
  have l8 := World.block_lt_of_cell? w _ k8
  simp only at l0 l1 l2 l3 l8
  clear ct co cr hg ho hr TX
  by_cases hki : (k : Int) = i
  · rw [if_pos hki]
    have hkb : ((k : Int) == i) = true := by simpa using hki
    clear hki T1
    go_enter Try.func38, Try.ntmps38
    go_wp2
    go_ret
    exact ⟨rfl, hBW⟩
  · rw [if_neg hki]
    have hkb : ((k : Int) == i) = false := by simpa using hki
    clear hki
    by_cases hft : XF = to
    · rw [if_pos hft]
      have hfb : (XF == to) = true := by simpa using hft
      have hfn : (XF != to) = false := by simpa using hft
      clear hft
      go_enter Try.func38, Try.ntmps38
      go_wp2_with fail
      generalize hW : w.alloc (.cells _ 24) = W at T1 hBW ⊢
      clear hW
      refine (CT.out _).mono ?_
      rintro e w2 ⟨rfl, hB2⟩
      have T2 := T1.keep hB2
      have hBn := hBW.trans (hB2.mono hBW.size)
      clear T1 k0 k1 k2 k3 k4 k5 k6 k7 k8 k9 k10 k11
      have hOpen := T2
      simp only [Cells, blk, List.cons_append, List.nil_append, and_true, Nat.reduceAdd, Nat.add_zero, Nat.zero_add] at hOpen
      obtain ⟨m0, m1, m2, m3, m4, k0, k1, k2, k3, k4, k5, k6, k7, k8, k9, k10, k11⟩ := hOpen
      cases g
      · go_wp2
        go_ret
        exact ⟨rfl, hBn⟩
      · go_wp2
        go_ret
        exact ⟨rfl, hBn⟩
    · rw [if_neg hft]
      have hfb : (XF == to) = false := by simpa using hft
      have hfn : (XF != to) = true := by simpa using hft
      clear hft
      go_enter Try.func38, Try.ntmps38
      go_wp2_with fail
      generalize hW : w.alloc (.cells _ 24) = W at T1 hBW ⊢
      clear hW
      refine (CR.out _ hBW).mono ?_
      rintro e w2 ⟨rfl, hB2⟩
      have T2 := T1.keep hB2
      have hBn := hBW.trans (hB2.mono hBW.size)
      clear T1 k0 k1 k2 k3 k4 k5 k6 k7 k8 k9 k10 k11
      have hOpen := T2
      simp only [Cells, blk, List.cons_append, List.nil_append, and_true, Nat.reduceAdd, Nat.add_zero, Nat.zero_add] at hOpen
      obtain ⟨m0, m1, m2, m3, m4, k0, k1, k2, k3, k4, k5, k6, k7, k8, k9, k10, k11⟩ := hOpen
      cases r
      · go_wp2
        go_ret
        exact ⟨rfl, hBn⟩
      · go_wp2_with fail
        refine (CO.out _).mono ?_
        rintro e w3 ⟨rfl, hB3⟩
        go_wp2
        go_ret
        exact ⟨ret_bool (by simp), hBn.trans (hB3.mono hBn.size)⟩
end Go.Proofs.Ythemdbgcamkecaa
