/- client: the reference's Check of a PDU (cut from the attpdu seat's walks). And what follows it. -/
import Derived.Test.YtldcihjddebciaaOCkU
import Derived.Test.YtldcihjddebciaaOCnR
import Derived.Test.YtldcihjddebciaaOCkA
set_option linter.unusedSimpArgs false
set_option linter.unusedVariables false
set_option maxRecDepth 100000
set_option maxHeartbeats 40000000
namespace Go.Proofs.Ytldcihjddebciaa
open Go.RowKit
theorem rcheckItem_any (ki : Int) (its : List It) (b off m d : Nat) (w : World) (hits : Items w (.slice (some ⟨b, off, none⟩) m d) m its) (hm : m ≤ 1000) (hbn : ∀ t ∈ its, t.n ≤ BIGN) (k : Nat) (hk : k < m) (t t0 tp : It) (ht : its[k]? = some t) (h0 : its[0]? = some t0) (hp : 0 < k → its[k - 1]? = some tp) :
    Calls Try.prog 62 #[.int .i64 ki, .slice (some ⟨b, off, none⟩) m d, .int .i64 k] w fun e w' => e = .returned (.int .i64 (chkIt ki (lastOf k tp) (sizeI ki t0.hi t0.lo t0.n) t)) ∧ Below w.heap.size w w' := by
  by_cases h5 : ki = 5
  · subst h5
    exact rcheckItem_5 its b off m d w hits hm hbn k hk t t0 tp ht h0 hp
  by_cases h17 : ki = 17
  · subst h17
    exact rcheckItem_17 its b off m d w hits hm hbn k hk t t0 tp ht h0 hp
  exact rcheckItem_other its b off m d w hits hm hbn k hk t t0 tp ht h0 hp ki h5 h17
/-- the element before -/
def prevOf (its : List It) (k : Nat) : It := its.getD (k - 1) ⟨0, 0, 0, 0, none, 0, 0, []⟩
theorem prevOf_get (its : List It) (k : Nat) (hk : k < its.length) : 0 < k → its[k - 1]? = some (prevOf its k) := fun h => by
  have : k - 1 < its.length := by omega
  unfold prevOf
  rw [List.getD_eq_getElem?_getD, List.getElem?_eq_getElem this]
  rfl
theorem last_succ (its : List It) (k : Nat) (t : It) (ht : its[k]? = some t) : lastOf (k + 1) (prevOf its (k + 1)) = max t.ha t.la := by
  unfold lastOf prevOf
  rw [if_neg (by omega), Nat.add_sub_cancel, List.getD_eq_getElem?_getD, ht]
  rfl
theorem rcheckList_any (ki ak : Int) (ha la hi lo : Nat) (of mt co : Int) (cm : Bool) (a1 a2 : Option Addr) (n c m d : Nat) (its : List It) (w : World) (hits : Items w (.slice a2 m d) m its) (hm : m ≤ 1000) (hbn : ∀ t ∈ its, t.n ≤ BIGN) :
    Calls Try.prog 30 #[.agg #[.int .i64 ki, .int .i64 ak, .int .u16 ha, .int .u16 la, .int .u64 hi, .int .u64 lo, .int .i64 of, .int .i64 mt, .int .i64 co, .bool cm, .slice a1 n c, .slice a2 m d]] w fun e w' => e = .returned (.int .i64 (chkL ki its)) ∧ Below w.heap.size w w' := by
  have hB : Below w.heap.size w (w.alloc (.cells #[.int .i64 ki, .int .i64 ak, .int .u16 ha, .int .u16 la, .int .u64 hi, .int .u64 lo, .int .i64 of, .int .i64 mt, .int .i64 co, .bool cm, .slice a1 n c, .slice a2 m d] 32)) := (Below.refl _ _).alloc (Nat.le_refl _) _
  have T0 := cells_new w [.int .i64 ki, .int .i64 ak, .int .u16 ha, .int .u16 la, .int .u64 hi, .int .u64 lo, .int .i64 of, .int .i64 mt, .int .i64 co, .bool cm, .slice a1 n c, .slice a2 m d] 32
  cases its with
  | nil =>
    obtain rfl : 0 = m := hits.1
    go_enter Try.func30, Try.ntmps30
    go_wp2
    go_ret
    exact ⟨rfl, hB⟩
  | cons t0 rest =>
    have hits' := hits
    obtain ⟨hlen, hsr, hok⟩ := hits
    obtain ⟨_, _, _, ao, cap, e0, _, hcell⟩ := hsr
    cases e0
    have hm0 : 0 < m := by rw [← hlen]; simp
    obtain ⟨b, off, rfl, hb, hc⟩ := hcell hm0
    obtain ⟨its, hi'⟩ : ∃ its, t0 :: rest = its := ⟨_, rfl⟩
    have hchk : chkL ki (t0 :: rest) = if chkIts ki 0 (sizeI ki t0.hi t0.lo t0.n) its = 0 then (if sizeI ki t0.hi t0.lo t0.n ≤ 255 ∧ m ≤ 515 / sizeI ki t0.hi t0.lo t0.n then 0 else 4) else chkIts ki 0 (sizeI ki t0.hi t0.lo t0.n) its := by
      rw [← hi', ← hlen, chkL]
    rw [hchk]
    have hg0 : its[0]? = some t0 := by rw [← hi']; rfl
    clear hchk
    rw [hi'] at hlen hok hc hbn hits'
    have c0 : Cells w (blk b off 0 (itc t0)) := by
      have h0l : 0 < its.length := by rw [hlen]; exact hm0
      have h00 : its[0] = t0 := by
        rw [List.getElem?_eq_getElem h0l] at hg0
        exact Option.some.inj hg0
      have hh := fun i (hi5 : i < 5) => itc_get its 0 i h0l hi5
      rw [h00] at hh
      simp only [Nat.zero_mul, Nat.zero_add] at hh
      refine ⟨?_, ?_, ?_, ?_, ?_, trivial⟩
      all_goals
        refine hc _ _ ?_
        rw [hh _ (by decide)]
        rfl
    have hci := fun W (hW : Below w.heap.size w W) k hk t ht => rcheckItem_any ki its b off m d W (hits'.below hW) hm hbn k hk t t0 (prevOf its k) ht hg0 (prevOf_get its k (by rw [hlen]; exact hk))
    have hi0 := fun W (hW : Below w.heap.size w W) => ritem_any ki t0 W ((hok t0 (List.mem_of_getElem? hg0)).below hW) (hbn t0 (List.mem_of_getElem? hg0))
    have hl0 := itB_len ki t0 (hok t0 (List.mem_of_getElem? hg0)).2.2.2.2.1
    have hb0 := hbn t0 (List.mem_of_getElem? hg0)
    have hL2 := sizeI_lo ki t0.hi t0.lo t0.n
    have hLb := sizeI_hi ki t0.hi t0.lo t0.n
    obtain ⟨xa, xl, xh, xo, aa, an, ac, abs⟩ := t0
    simp only [itc] at c0 hci hi0 hl0 hL2 hLb hb0 ⊢
    obtain ⟨L, hL⟩ : ∃ L, sizeI ki xh xo an = L := ⟨_, rfl⟩
    simp only [hL] at hci hl0 hL2 hLb ⊢
    obtain ⟨R, hR⟩ : ∃ R, chkIts ki 0 L its = R := ⟨_, rfl⟩
    rw [hR]
    obtain ⟨RES, hRES⟩ : ∃ X, X = (if R = 0 then (if L ≤ 255 ∧ m ≤ 515 / L then (0 : Int) else 4) else R) := ⟨_, rfl⟩
    rw [← hRES]
    have HRES := Lib.hid hRES
    have HCI := Lib.hid hci
    have HI0 := Lib.hid hi0
    have HL0 := Lib.hid hl0
    have HLEN := Lib.hid hlen
    have HR := Lib.hid hR
    have hbw : b < w.heap.size := hb
    have tm0 : ((m : Int) == 0) = false := by simp; omega
    clear hi' hg0 hlen hok hc hbn hL hR hcell hb hRES hci hi0 hl0 hits' hb0 hLb
    go_enter Try.func30, Try.ntmps30
    go_upto_region 1 with fail
    generalize hV : World.alloc _ _ = V at T0 hB ⊢
    have hVs : w.heap.size < V.heap.size := by rw [← hV]; simp
    clear hV
    have HTV := Lib.hid (T0.app (c0.keep hB))
    have HB := Lib.hid hB
    have hOpen := T0
    simp only [Cells, blk, List.cons_append, List.nil_append, and_true, Nat.reduceAdd, Nat.add_zero, Nat.zero_add] at hOpen
    obtain ⟨y0, y1, y2, y3, y4, y5, y6, y7, y8, y9, yA, yB⟩ := hOpen
    clear T0 c0 hB
    go_wp2
    clear y0 y1 y2 y3 y4 y5 y6 y7 y8 y9 yA yB
    go_loopw [3, 4] (fun i _ wr => ∃ k : Nat, i = .int .i64 k ∧ k ≤ m ∧ Hid (R = chkIts ki (lastOf k (prevOf its k)) L (its.drop k)) ∧ Below V.heap.size V wr) (fun i _ _ => m - (intOf i).toNat)
    case atStart => exact ⟨0, by simp, Nat.zero_le _, Lib.hid HR.out.symm, Below.refl _ _⟩
    case round =>
      obtain ⟨k, rfl, hk, hst, hBr⟩ := hrel
      have w1 : IntKind.i64.wrap ((k : Int) + 1) = (k : Int) + 1 := IntWalk.i64_in _ (by omega)
      have hBw := HB.out.trans (hBr.mono HB.out.size)
      have HTR := Lib.hid (HTV.out.keep hBr)
      have TR := HTR.out
      have hOpen := TR
      simp only [Cells, blk, List.cons_append, List.nil_append, and_true, Nat.reduceAdd, Nat.add_zero, Nat.zero_add] at hOpen
      obtain ⟨y0, y1, y2, y3, y4, y5, y6, y7, y8, y9, yA, yB, x0, x1, x2, x3, x4⟩ := hOpen
      clear TR
      by_cases hlt : k < m
      · have g1 : decide (k < m) = true := by simpa using hlt
        have hkl : k < its.length := by rw [HLEN.out]; exact hlt
        have hstp := chkIts_step ki (lastOf k (prevOf its k)) L its k hkl
        have hcall := HCI.out wr hBw k hlt its[k] (List.getElem?_eq_getElem hkl)
        have hls := last_succ its k its[k] (List.getElem?_eq_getElem hkl)
        obtain ⟨E, hE⟩ : ∃ E, chkIt ki (lastOf k (prevOf its k)) L its[k] = E := ⟨_, rfl⟩
        rw [hE] at hstp hcall
        have HST := Lib.hid (hst.out.trans hstp)
        have HLS := Lib.hid hls
        have HCALL := Lib.hid hcall
        have HBr := Lib.hid hBr
        clear hst hstp hcall hE hls hBr hBw
        go_wp2_with fail
        refine HCALL.out.mono ?_
        rintro e w2 ⟨rfl, hB2⟩
        have hBr2 := HBr.out.trans (hB2.mono HBr.out.size)
        clear hB2 y0 y1 y2 y3 y4 y5 y6 y7 y8 y9 yA yB x0 x1 x2 x3 x4
        by_cases hE0 : E = 0
        · subst hE0
          have hR' : R = chkIts ki (lastOf (k + 1) (prevOf its (k + 1))) L (its.drop (k + 1)) := by rw [HLS.out]; have := HST.out; rwa [if_pos rfl] at this
          have HR2 := Lib.hid hR'
          clear hR' HST
          go_wp2
          refine ⟨⟨k + 1, by simp, hlt, HR2, hBr2⟩, ?_⟩
          simp [intOf]
          omega
        · have hR' : R = E := by have := HST.out; rwa [if_neg hE0] at this
          have hfin : RES = E := by rw [HRES.out, hR', if_neg hE0]
          have t1 : (E != 0) = true := by simpa using hE0
          have HFIN := Lib.hid hfin
          clear hR' HST hfin hE0
          go_wp2
          go_ret
          exact ⟨ret_eq HFIN.out.symm, HB.out.trans (hBr2.mono HB.out.size)⟩
      · have g1 : decide (k < m) = false := by simpa using hlt
        obtain rfl : m = k := by omega
        have hR0 : R = 0 := by rw [hst.out, List.drop_of_length_le (by rw [HLEN.out]; exact Nat.le_refl _)]; rfl
        have hfin : RES = if L ≤ 255 ∧ m * L ≤ 515 then (0 : Int) else 4 := by
          rw [HRES.out, hR0, if_pos rfl]
          simp only [Nat.le_div_iff_mul_le (show 0 < L by omega)]
        have hcall := fun W (hW : Below V.heap.size V W) => HI0.out W (HB.out.trans (hW.mono HB.out.size))
        have HCALL := Lib.hid hcall
        have HFIN := Lib.hid hfin
        have HBr := Lib.hid hBr
        clear hR0 hst hfin hcall hBr hBw
        go_upto_region 9 with fail
        refine wp_region_held_drew (S := (fun W' : World => Cells W' (blk w.heap.size 0 0 [.int .i64 ki, .int .i64 ak, .int .u16 ha, .int .u16 la, .int .u64 hi, .int .u64 lo, .int .i64 of, .int .i64 mt, .int .i64 co, .bool cm, .slice a1 n c, .slice (some ⟨b, off, none⟩) m d] ++ blk b off 0 [.int .u16 xa, .int .u16 xl, .int .u64 xh, .int .u64 xo, .slice aa an ac]))) (by kernel_rfl) (HTR.out.drew) (fun hHeld => ?_)
        refine tkU 0 ?_
        refine tkU 1 ?_
        refine tkU 2 ?_
        refine tkU 3 ?_
        refine tkU 4 ?_
        refine tkU 5 ?_
        refine rd1 6 fun K hK => ?_
        go_simp
        refine (HCALL.out _ HBr.out.drew).mono ?_
        rintro e w2 ⟨v, rfl, hv, hB2⟩
        have hBr2 := HBr.out.drew.trans (hB2.mono HBr.out.drew.size)
        obtain ⟨⟨_, _, _, ao1, cap1, rfl, _, _⟩, _⟩ := hv
        rw [HL0.out]
        have HT2 := Lib.hid (HTR.out.drew.keep hB2)
        clear hB2
        clear hHeld
        refine hK.out _ _ (HT2.out) (fun hHeld => ?_)
        clear hK K
        try simp only [Act.put, List.setIfInBounds_toArray, List.set_cons_zero, List.set_cons_succ]
        refine tkU 7 ?_
        refine tkU 8 ?_
        refine wpAnyH_done (by kernel_rfl) ?_ _
        clear y0 y1 y2 y3 y4 y5 y6 y7 y8 y9 yA yB x0 x1 x2 x3 x4 hHeld
        have TR := HT2.out
        have hOpen := TR
        simp only [Cells, blk, List.cons_append, List.nil_append, and_true, Nat.reduceAdd, Nat.add_zero, Nat.zero_add] at hOpen
        obtain ⟨y0, y1, y2, y3, y4, y5, y6, y7, y8, y9, yA, yB, x0, x1, x2, x3, x4⟩ := hOpen
        clear TR
        have hBF := Lib.hid (HB.out.trans (hBr2.mono HB.out.size))
        obtain ⟨Q, hQ⟩ : ∃ Q, m * L = Q := ⟨_, rfl⟩
        have hQ' : (L : Int) * (m : Int) = (Q : Int) := by rw [← hQ, Int.mul_comm]; simp
        have HQB := Lib.hid (show ¬ 255 < L → Q ≤ 1000 * 255 from fun h => by rw [← hQ]; exact Nat.mul_le_mul hm (by omega))
        rw [hQ] at HFIN
        clear hQ hBr2
        by_cases h255 : 255 < L
        · have t1 : decide (255 < L) = true := by simpa using h255
          have t1' : decide ((255 : Int) < (L : Int)) = true := by simp; omega
          have hf : RES = 4 := by rw [HFIN.out, if_neg (by omega)]
          have HF := Lib.hid hf
          clear hf h255
          go_wp2
          go_ret
          exact ⟨ret_eq HF.out.symm, hBF.out⟩
        · have t1 : decide (255 < L) = false := by simpa using h255
          have hQb := HQB.out h255
          have t1' : decide ((255 : Int) < (L : Int)) = false := by simp; omega
          by_cases h515 : 515 < Q
          · have t2 : decide ((517 : Int) < 2 + (Q : Int)) = true := by simp; omega
            have hf : RES = 4 := by rw [HFIN.out, if_neg (by omega)]
            have HF := Lib.hid hf
            clear hf h255 h515
            go_wp2
            go_ret
            exact ⟨ret_eq HF.out.symm, hBF.out⟩
          · have t2 : decide ((517 : Int) < 2 + (Q : Int)) = false := by simp; omega
            have hf : RES = 0 := by rw [HFIN.out, if_pos (by omega)]
            have HF := Lib.hid hf
            clear hf h255 h515
            go_wp2
            go_ret
            exact ⟨ret_eq HF.out.symm, hBF.out⟩
def itOf (q : Im × Value) : It := match q.2 with
  | .slice a n c => ⟨q.1.ha, q.1.la, q.1.hi, q.1.lo, a, n, c, q.1.bs⟩
  | _ => ⟨q.1.ha, q.1.la, q.1.hi, q.1.lo, none, 0, 0, q.1.bs⟩
theorem itOf_eq {w : World} {q : Im × Value} (h : ItIn w q) : itc (itOf q) = ienc q ∧ ItOk w (itOf q) ∧ (itOf q).n = q.1.bs.length := by
  obtain ⟨⟨a, c, e, hc, hb⟩, h1, h2, h3, h4⟩ := h
  obtain ⟨i, v⟩ := q
  simp only at e hb h1 h2 h3 h4
  subst e
  exact ⟨rfl, ⟨h1, h2, h3, h4, rfl, hb⟩, rfl⟩
theorem items_flat {w : World} : ∀ {qs : List (Im × Value)}, (∀ q ∈ qs, ItIn w q) → (qs.map itOf).flatMap itc = qs.flatMap ienc
  | [], _ => rfl
  | q :: l, h => by
    simp only [List.map_cons, List.flatMap_cons]
    rw [(itOf_eq (h q (by simp))).1, items_flat (fun x hx => h x (by simp [hx]))]
theorem items_of {w : World} {iv : Value} {qs : List (Im × Value)} (h : SR w iv qs.length 5 (qs.flatMap ienc)) (hin : ∀ q ∈ qs, ItIn w q) : Items w iv qs.length (qs.map itOf) :=
  ⟨by simp, by rw [items_flat hin]; exact h, fun t ht => by
    obtain ⟨q, hq, rfl⟩ := List.mem_map.1 ht
    exact (itOf_eq (hin q hq)).2.1⟩
theorem chkIts_zero {k : Int} {L : Nat} : ∀ {l : List It} {last : Nat}, chkIts k last L l = 0 → ∀ t ∈ l, sizeI k t.hi t.lo t.n = L ∧ unuI k t.la t.hi t.lo t.n = true
  | [], _, _, t, ht => by cases ht
  | x :: l, last, h, t, ht => by
    unfold chkIts at h
    split at h
    · rename_i h0
      rcases List.mem_cons.1 ht with rfl | ht
      · unfold chkIt at h0
        split at h0
        · simp at h0
        · split at h0
          · simp at h0
          · split at h0
            · simp at h0
            · split at h0
              · simp at h0
              · rename_i q1 _ _ q2
                exact ⟨Classical.not_not.1 q2, by simpa using q1⟩
      · exact chkIts_zero h t ht
    · rename_i h0
      exact absurd h h0
theorem chkL_zero {k : Int} {l : List It} (h : chkL k l = 0) : l ≠ [] ∧ ∀ t ∈ l, t.n ≤ 255 := by
  cases l with
  | nil => cases h
  | cons x r =>
    refine ⟨by simp, fun t ht => ?_⟩
    have h' : (if chkIts k 0 (sizeI k x.hi x.lo x.n) (x :: r) = 0 then (if sizeI k x.hi x.lo x.n ≤ 255 ∧ (x :: r).length ≤ 515 / sizeI k x.hi x.lo x.n then (0 : Int) else 4) else chkIts k 0 (sizeI k x.hi x.lo x.n) (x :: r)) = 0 := h
    by_cases h0 : chkIts k 0 (sizeI k x.hi x.lo x.n) (x :: r) = 0
    · rw [if_pos h0] at h'
      by_cases h1 : sizeI k x.hi x.lo x.n ≤ 255 ∧ (x :: r).length ≤ 515 / sizeI k x.hi x.lo x.n
      · obtain ⟨e1, e2⟩ := chkIts_zero h0 t ht
        have hx := h1.1
        rw [← e1] at hx
        unfold sizeI at hx
        unfold unuI at e2
        by_cases h5 : k = 5
        · rw [if_pos h5] at e2
          simp at e2
          omega
        · rw [if_neg h5] at hx
          split at hx <;> omega
      · rw [if_neg h1] at h'
        cases h'
    · rw [if_neg h0] at h'
      exact absurd h' h0
theorem errC_zero {u : List Nat} {e : Nat → Int} : ∀ {f : Nat}, errC u e f = 0 → ∀ j, j < f → u.contains (le (9 - j)) = true → e (9 - j) = 0
  | 0, _, j, hj, _ => absurd hj (Nat.not_lt_zero _)
  | f + 1, h, j, hj, hc => by
    unfold errC at h
    by_cases h0 : u.contains (le (9 - f)) = true ∧ e (9 - f) ≠ 0
    · rw [if_pos h0] at h
      exact absurd h h0.2
    · rw [if_neg h0] at h
      by_cases hjf : j = f
      · subst hjf
        exact Classical.not_not.1 fun hne => h0 ⟨hc, hne⟩
      · exact errC_zero h j (by omega) hc
theorem anyC_false {u : List Nat} {z : Nat → Bool} : ∀ {f : Nat}, anyC u z f = false → ∀ j, j < f → u.contains (le (9 - j)) = false → z (9 - j) = true
  | 0, _, j, hj, _ => absurd hj (Nat.not_lt_zero _)
  | f + 1, h, j, hj, hc => by
    unfold anyC at h
    rw [Bool.or_eq_false_iff] at h
    by_cases hjf : j = f
    · subst hjf
      have := h.1
      rw [hc] at this
      simpa using this
    · exact anyC_false h.2 j (by omega) hc
theorem chk_parts {ki ak : Int} {ha la hi lo : Nat} {of mt co : Int} {cm : Bool} {n m : Nat} {its : List It} (h : chkA ki ak ha la hi lo of mt co cm n m its = 0) :
    ∃ u, fldC ki = some u ∧ (u.contains 73 = true → chkL ki its = 0) ∧ (u.contains 73 = false → m = 0) := by
  unfold chkA at h
  cases hf : fldC ki with
  | none => rw [hf] at h; cases h
  | some u =>
    rw [hf] at h
    refine ⟨u, rfl, fun hc => ?_, fun hc => ?_⟩
    · by_cases ha' : anyC u (zB ak ha la hi lo of mt co cm n m) 10 = true
      · simp [ha'] at h
      · simp [ha'] at h
        exact errC_zero h 0 (by decide) hc
    · by_cases ha' : anyC u (zB ak ha la hi lo of mt co cm n m) 10 = true
      · simp [ha'] at h
      · have h9 : ((m : Int) == 0) = true := anyC_false (by simpa using ha') 0 (by decide) hc
        simpa using h9
theorem fld_list {ki : Int} {u : List Nat} (h : fldC ki = some u) : u.contains 73 = true ↔ (ki = 5 ∨ ki = 9 ∨ ki = 17) := by
  rcases att_kinds ki with rfl | rfl | rfl | rfl | rfl | rfl | rfl | rfl | rfl | rfl | rfl | rfl | rfl | rfl | rfl | rfl | rfl | rfl | rfl | rfl | rfl | rfl | rfl | hne
  case' inr.inr.inr.inr.inr.inr.inr.inr.inr.inr.inr.inr.inr.inr.inr.inr.inr.inr.inr.inr.inr.inr.inr => rw [fldC_none ki hne] at h; cases h
  all_goals (simp [fldC] at h; subst h; decide)
theorem chk_zero {ki ak : Int} {ha la hi lo : Nat} {of mt co : Int} {cm : Bool} {n m : Nat} {its : List It} (hm : its.length = m) (h : chkA ki ak ha la hi lo of mt co cm n m its = 0) :
    (ki = 5 ∨ ki = 9 ∨ ki = 17 → its ≠ []) ∧ ∀ t ∈ its, t.n ≤ 255 := by
  obtain ⟨u, hf, h1, h2⟩ := chk_parts h
  by_cases hk : ki = 5 ∨ ki = 9 ∨ ki = 17
  · have hz := h1 ((fld_list hf).2 hk)
    exact ⟨fun _ => (chkL_zero hz).1, (chkL_zero hz).2⟩
  · have hz : m = 0 := h2 (by
      cases hc : u.contains 73 with
      | false => rfl
      | true => exact absurd ((fld_list hf).1 hc) hk)
    have : its = [] := List.eq_nil_of_length_eq_zero (by omega)
    subst this
    exact ⟨fun h => absurd h hk, by simp⟩
/-- the sets of fields -/
def SetsG1 (ki : Int) (us : List Nat) (F : List Value) : Prop := (us = [65, 72, 67] ∧ F = [.bool true, .bool true, .bool true, .bool false, .bool false, .bool false, .bool false, .bool true, .bool false, .bool false, .bool false] ∧ (ki == 1) = true) ∨ (us = [77] ∧ F = [.bool true, .bool false, .bool false, .bool false, .bool false, .bool false, .bool true, .bool false, .bool false, .bool false, .bool false] ∧ (ki == 1) = false) ∨ (us = [72, 76] ∧ F = [.bool true, .bool false, .bool true, .bool true, .bool false, .bool false, .bool false, .bool false, .bool false, .bool false, .bool false] ∧ (ki == 1) = false) ∨ (us = [72, 76, 84] ∧ F = [.bool true, .bool false, .bool true, .bool true, .bool true, .bool false, .bool false, .bool false, .bool false, .bool false, .bool false] ∧ (ki == 1) = false)
def SetsG2 (ki : Int) (us : List Nat) (F : List Value) : Prop := (us = [72] ∧ F = [.bool true, .bool false, .bool true, .bool false, .bool false, .bool false, .bool false, .bool false, .bool false, .bool false, .bool false] ∧ (ki == 1) = false) ∨ (us = [72, 79] ∧ F = [.bool true, .bool false, .bool true, .bool false, .bool false, .bool true, .bool false, .bool false, .bool false, .bool false, .bool false] ∧ (ki == 1) = false) ∨ (us = [86] ∧ F = [.bool true, .bool false, .bool false, .bool false, .bool false, .bool false, .bool false, .bool false, .bool false, .bool true, .bool false] ∧ (ki == 1) = false) ∨ (us = [72, 86] ∧ F = [.bool true, .bool false, .bool true, .bool false, .bool false, .bool false, .bool false, .bool false, .bool false, .bool true, .bool false] ∧ (ki == 1) = false)
def SetsG3 (ki : Int) (us : List Nat) (F : List Value) : Prop := (us = [72, 79, 86] ∧ F = [.bool true, .bool false, .bool true, .bool false, .bool false, .bool true, .bool false, .bool false, .bool false, .bool true, .bool false] ∧ (ki == 1) = false) ∨ (us = [88] ∧ F = [.bool true, .bool false, .bool false, .bool false, .bool false, .bool false, .bool false, .bool false, .bool true, .bool false, .bool false] ∧ (ki == 1) = false) ∨ (us = [] ∧ F = [.bool true, .bool false, .bool false, .bool false, .bool false, .bool false, .bool false, .bool false, .bool false, .bool false, .bool false] ∧ (ki == 1) = false)
def SetsG4 (ki : Int) (us : List Nat) (F : List Value) : Prop := (us = [73] ∧ F = [.bool true, .bool false, .bool false, .bool false, .bool false, .bool false, .bool false, .bool false, .bool false, .bool false, .bool true] ∧ (ki == 1) = false)
def SetsOk (ki : Int) (us : List Nat) (F : List Value) : Prop := SetsG1 ki us F ∨ SetsG2 ki us F ∨ SetsG3 ki us F ∨ SetsG4 ki us F
theorem fld_sets {ki : Int} {us : List Nat} (h : fldC ki = some us) : ∃ F : List Value, useV (some us) = .agg F.toArray ∧ SetsOk ki us F := by
  rcases att_kinds ki with rfl | rfl | rfl | rfl | rfl | rfl | rfl | rfl | rfl | rfl | rfl | rfl | rfl | rfl | rfl | rfl | rfl | rfl | rfl | rfl | rfl | rfl | rfl | hne
  case' inr.inr.inr.inr.inr.inr.inr.inr.inr.inr.inr.inr.inr.inr.inr.inr.inr.inr.inr.inr.inr.inr.inr => rw [fldC_none ki hne] at h; cases h
  all_goals
    injection h with h
    subst h
    refine ⟨_, rfl, ?_⟩
    simp [SetsOk, SetsG1, SetsG2, SetsG3, SetsG4, hasL]
theorem runu_any (ki : Int) {us : List Nat} (hk : fldC ki = some us) (ak : Int) (ha la hi lo : Nat) (of mt co : Int) (cm : Bool) (a1 a2 : Option Addr) (n c m d : Nat) (w : World) : Calls Try.prog 29 #[.agg #[.int .i64 ki, .int .i64 ak, .int .u16 ha, .int .u16 la, .int .u64 hi, .int .u64 lo, .int .i64 of, .int .i64 mt, .int .i64 co, .bool cm, .slice a1 n c, .slice a2 m d]] w fun e w' => e = .returned (.bool (!anyC us (zB ak ha la hi lo of mt co cm n m) 10)) ∧ Below w.heap.size w w' := by
  have hz := fun W => run_build0 W
  obtain ⟨F, hF, hs⟩ := fld_sets hk
  have hf : ∀ W, Calls Try.prog 28 #[.int .i64 ki] W (fun e w' => e = .returned (.agg F.toArray) ∧ Below W.heap.size W w') := fun W => by
    have h := rfields_any ki W
    rw [hk, hF] at h
    exact h
  have hB := (Below.refl w.heap.size w).alloc (Nat.le_refl _) (.cells #[.int .i64 ki, .int .i64 ak, .int .u16 ha, .int .u16 la, .int .u64 hi, .int .u64 lo, .int .i64 of, .int .i64 mt, .int .i64 co, .bool cm, .slice a1 n c, .slice a2 m d] 32)
  have T0 := cells_new w [.int .i64 ki, .int .i64 ak, .int .u16 ha, .int .u16 la, .int .u64 hi, .int .u64 lo, .int .i64 of, .int .i64 mt, .int .i64 co, .bool cm, .slice a1 n c, .slice a2 m d] 32
  have HF := Lib.hid hf
  have HS := Lib.hid hs
  clear hf hs hF hk
  go_enter Try.func29, Try.ntmps29
  go_upto_region 1 with fail
  generalize World.alloc _ _ = X at T0 hB ⊢
  have HT0 := Lib.hid T0
  have hOpen := T0
  simp only [Cells, blk, List.cons_append, List.nil_append, and_true, Nat.reduceAdd, Nat.add_zero, Nat.zero_add] at hOpen
  obtain ⟨y0, y1, y2, y3, y4, y5, y6, y7, y8, y9, yA, yB⟩ := hOpen
  clear T0
  go_wp2_with fail
  refine (HF.out _).mono ?_
  rintro e w1 ⟨rfl, hB1⟩
  have T1 := HT0.out.keep hB1
  have hB2 := hB.trans (hB1.mono hB.size)
  have hB3 := hB2.alloc hB2.size (.cells F.toArray 80)
  have T2 := (cells_new w1 F 80).app (T1.keep ((Below.refl w1.heap.size w1).alloc (Nat.le_refl _) _))
  clear y0 y1 y2 y3 y4 y5 y6 y7 y8 y9 yA yB hB hB1 T1 HT0 hB2
  rcases HS.out with (⟨rfl, rfl, h1⟩ | ⟨rfl, rfl, h1⟩ | ⟨rfl, rfl, h1⟩ | ⟨rfl, rfl, h1⟩) | (⟨rfl, rfl, h1⟩ | ⟨rfl, rfl, h1⟩ | ⟨rfl, rfl, h1⟩ | ⟨rfl, rfl, h1⟩) | (⟨rfl, rfl, h1⟩ | ⟨rfl, rfl, h1⟩ | ⟨rfl, rfl, h1⟩) | (⟨rfl, rfl, h1⟩)
  all_goals
    clear HS HF
    go_upto_region 2 with fail
    generalize World.alloc _ _ = Y at T2 hB3 ⊢
    have hOpen := T2
    simp only [Cells, blk, List.cons_append, List.nil_append, and_true, Nat.reduceAdd, Nat.add_zero, Nat.zero_add] at hOpen
    obtain ⟨u0, u1, u2, u3, u4, u5, u6, u7, u8, u9, uA, y0, y1, y2, y3, y4, y5, y6, y7, y8, y9, yA, yB⟩ := hOpen
    clear T2
    go_wp2
    all_goals
      go_ret
      refine ⟨ret_bool ?_, hB3⟩
      clear hz hB3 u0 u1 u2 u3 u4 u5 u6 u7 u8 u9 uA y0 y1 y2 y3 y4 y5 y6 y7 y8 y9 yA yB
      simp only [anyC, zB, le, leF]
      first
      | (simp [Bool.and_assoc]; done)
      | (simp_all [Bool.and_assoc]; done)
      | (simp_all [Bool.and_assoc]; omega)
end Go.Proofs.Ytldcihjddebciaa
