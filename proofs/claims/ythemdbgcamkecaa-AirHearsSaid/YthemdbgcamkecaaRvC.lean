/- air: listens; All. -/
import Derived.Test.YthemdbgcamkecaaRvB
import Derived.Test.YthemdbgcamkecaaAirU
namespace Go.Proofs.Ythemdbgcamkecaa
open Go.RowKit

theorem Try.cells_ln : Try.prog.cellsOf 45 = 4 := by kernel_rfl
theorem set6_by {W X : World} {i : Nat} {v : Value} {bs : List Nat} (hg : W.grownBy X (some i)) (h : BytesAt W v bs) (hne : bs = [] ∨ ∃ b, v.ownBlock = some b ∧ b ≠ i) : BytesAt X v bs := by
  refine ⟨h.1.grown hg ?_, h.2⟩
  rcases hne with e | ⟨b, e1, e2⟩
  · exact .inl (by rw [e]; rfl)
  · exact .inr ⟨b, e1, fun e => e2 (by simpa using e.symm)⟩
def lenc (x : Int × Int × Int × Int) : List Value := [.int .i64 x.1, .int .i64 x.2.1, .int .i64 x.2.2.1, .int .i64 x.2.2.2]
def lcells (l : List (Int × Int × Int × Int)) : List Value := l.flatMap lenc
theorem lcells_get (l : List (Int × Int × Int × Int)) (k : Nat) (h : k < l.length) : (lcells l)[k * 4]? = some (.int .i64 l[k].1) ∧ (lcells l)[k * 4 + 1]? = some (.int .i64 l[k].2.1) ∧ (lcells l)[k * 4 + 2]? = some (.int .i64 l[k].2.2.1) ∧ (lcells l)[k * 4 + 3]? = some (.int .i64 l[k].2.2.2) := by
  have h0 := flat_get lenc 4 (fun _ => rfl) l k 0 h (by decide)
  have h1 := flat_get lenc 4 (fun _ => rfl) l k 1 h (by decide)
  have h2 := flat_get lenc 4 (fun _ => rfl) l k 2 h (by decide)
  have h3 := flat_get lenc 4 (fun _ => rfl) l k 3 h (by decide)
  exact ⟨h0, h1, h2, h3⟩
/-- what a receiver hears -/
def hrd (ls : List (Int × Int)) (js : List (Int × Int × Int)) (ss : List (Int × Int)) (ts : List Tr) (x : Int × Int × Int × Int) : Option Rc :=
  if 0 ≤ bestE (okK ls x.1 x.2.1 x.2.2.1 x.2.2.2 ts) (ltE ts) ts.length then some (hearR ls js ss ts x.1 (bestE (okK ls x.1 x.2.1 x.2.2.1 x.2.2.2 ts) (ltE ts) ts.length)) else none
def heard (ls : List (Int × Int)) (js : List (Int × Int × Int)) (ss : List (Int × Int)) (ts : List Tr) (l : List (Int × Int × Int × Int)) : List Rc := l.filterMap (hrd ls js ss ts)
theorem heard_some {ls : List (Int × Int)} {js : List (Int × Int × Int)} {ss : List (Int × Int)} {ts : List Tr} {l : List (Int × Int × Int × Int)} {k : Nat} (h : k < l.length) {r : Rc} (e : hrd ls js ss ts l[k] = some r) : heard ls js ss ts (l.take (k + 1)) = heard ls js ss ts (l.take k) ++ [r] := by
  unfold heard
  rw [List.take_succ_eq_append_getElem h, List.filterMap_append]
  simp [e]
theorem heard_none {ls : List (Int × Int)} {js : List (Int × Int × Int)} {ss : List (Int × Int)} {ts : List Tr} {l : List (Int × Int × Int × Int)} {k : Nat} (h : k < l.length) (e : hrd ls js ss ts l[k] = none) : heard ls js ss ts (l.take (k + 1)) = heard ls js ss ts (l.take k) := by
  unfold heard
  rw [List.take_succ_eq_append_getElem h, List.filterMap_append]
  simp [e]
theorem heard_len (ls : List (Int × Int)) (js : List (Int × Int × Int)) (ss : List (Int × Int)) (ts : List Tr) (l : List (Int × Int × Int × Int)) : (heard ls js ss ts l).length ≤ l.length := List.length_filterMap_le _ _
theorem grown_of_sw {b : Nat} {w w' : World} (h : Sw b w w') : w.grownBy w' (some b) := ⟨h.below.os, h.below.tape, h.below.output, h.below.size, fun k hk hne => h.oth k hk (fun e => hne (by rw [e]))⟩
theorem RInv.row2 {base : Nat} {w : World} {out : Value} {rs : List Rc} {vs : List Value} (h : RInv base w out rs vs) :
    (out = .slice none 0 0 ∧ rs = []) ∨ ∃ g cap, out = .slice (some ⟨g, 0, none⟩) rs.length cap ∧ base ≤ g ∧ Row6 47 w g 0 (fun k => elOf (rs.getD k default) (vs.getD k (.slice none 0 0))) (fun k => k) rs.length := by
  by_cases h0 : 0 < rs.length
  · exact .inr (h.row h0)
  · have e : rs = [] := List.eq_nil_of_length_eq_zero (by omega)
    subst e
    rcases h.own.2 with ⟨e, _⟩ | ⟨g, cap, cur, e, hb, hg, _⟩
    · exact .inl ⟨e, rfl⟩
    · exact .inr ⟨g, cap, e, hb, cur, hg, by simp, fun k hk => absurd hk (by simp)⟩
/-- behind the sort -/
theorem RInv.sorted {base : Nat} {w w' : World} {g cap : Nat} {rs : List Rc} {vs : List Value} {p : Nat → Nat} (h : RInv base w (.slice (some ⟨g, 0, none⟩) rs.length cap) rs vs) (hr : Row6 47 w' g 0 (fun k => elOf (rs.getD k default) (vs.getD k (.slice none 0 0))) p rs.length)
    (hm : Mem (fun k => k) p 0 rs.length) (hs : Sw g w w') : Rcs w' (.slice (some ⟨g, 0, none⟩) rs.length cap) (prm (fun k => rs.getD k default) p rs.length) := by
  have hl := h.len
  refine rcs_of_row hr (cap_of h.own) fun k hk => ?_
  obtain ⟨j, _, hj, e⟩ := hm.from' k (Nat.zero_le _) hk
  rw [e]
  have h1 := h.rd j hj (by omega)
  show BytesAt w' (vs.getD j (.slice none 0 0)) (rs.getD j default).bs
  rw [show rs.getD j default = rs[j] by rw [List.getD_eq_getElem?_getD, List.getElem?_eq_getElem hj]; rfl, show vs.getD j (.slice none 0 0) = vs[j]'(by omega) by rw [List.getD_eq_getElem?_getD, List.getElem?_eq_getElem (by omega)]; rfl]
  refine ⟨h1.1.1.grown (grown_of_sw hs) ?_, h1.1.2⟩
  rcases h1.2 with h0 | ⟨b, e1, _, _, e4⟩
  · exact .inl (by rw [h0]; rfl)
  · exact .inr ⟨b, e1, e4⟩

set_option linter.unusedSimpArgs false in
set_option linter.unusedVariables false in
set_option maxRecDepth 100000 in
set_option maxHeartbeats 4000000 in
theorem all_any (d : Int) (lv jv sv tv lnv : Value) (ls : List (Int × Int)) (js : List (Int × Int × Int)) (ss : List (Int × Int)) (ts : List Tr) (l : List (Int × Int × Int × Int)) (w : World)
    (hf : ∀ x ∈ ts, Fits x) (h1 : SR w lv ls.length 2 (tcells ls)) (h2 : SR w jv js.length 3 (jcells js)) (h3 : SR w sv ss.length 2 (tcells ss)) (h4 : Txs w tv ts) (h5 : SR w lnv l.length 4 (lcells l)) (hn : l.length ≤ 64) :
    Calls Try.prog 30 #[.agg #[.int .i64 d, lv, jv, sv], tv, lnv] w
      fun e w' => ∃ v p, e = .returned v ∧ Rcs w' v (prm (fun k => (heard ls js ss ts l).getD k default) p (heard ls js ss ts l).length) ∧ Mem (fun k => k) p 0 (heard ls js ss ts l).length ∧
        Srt (fun x y => rlt ((heard ls js ss ts l).getD x default) ((heard ls js ss ts l).getD y default)) p 0 (heard ls js ss ts l).length ∧ Below w.heap.size w w' := by
  obtain ⟨i6, hi6, hy0, hy1, hy2⟩ := info_parts Try.info_rc
  obtain ⟨n, hnn⟩ : ∃ n, l.length = n := ⟨_, rfl⟩
  have HN := Lib.hid hnn
  have H1 := Lib.hid h1
  have H2 := Lib.hid h2
  have H3 := Lib.hid h3
  have H4 := Lib.hid h4
  have H5 := Lib.hid h5
  have HF := Lib.hid hf
  obtain ⟨ln, lc, hlv⟩ := h5.val
  rw [hnn] at hlv hn
  subst hlv
  have hA0 := heap_alloc_new w (.cells #[.int .i64 d, lv, jv, sv] 34)
  have hb0 : Below w.heap.size w (w.alloc (.cells #[.int .i64 d, lv, jv, sv] 34)) := (Below.refl _ _).alloc (Nat.le_refl _) _
  have hz0 : (w.alloc (.cells #[.int .i64 d, lv, jv, sv] 34)).heap.size = w.heap.size + 1 := by simp
  have inv0 : RInv (w.heap.size + 1) (w.alloc (.cells #[.int .i64 d, lv, jv, sv] 34)) (.slice none 0 0) (heard ls js ss ts (l.take 0)) [] := ⟨rfl, World.ownsRow_nil _ _ _ _, fun j h => absurd h (by simp [heard])⟩
  clear h1 h2 h3 h4 h5 hf hnn
  go_enter Try.func30, Try.ntmps30
  go_wp2
  go_loopw [7, 9, 10, 11, 14] (fun out _ _ _ i wr => ∃ (k : Nat) (vs : List Value), k ≤ n ∧ i = .int .i64 k ∧ Hid (RInv (w.heap.size + 1) wr out (heard ls js ss ts (l.take k)) vs) ∧ Below (w.heap.size + 1) (w.alloc (.cells #[.int .i64 d, lv, jv, sv] 34)) wr) (fun _ _ _ _ i _ => n - (intOf i).toNat)
  case atStart => exact ⟨0, [], by omega, rfl, inv0, Below.refl _ _⟩
  case round =>
    obtain ⟨k, vs, hk, rfl, hinv, hB⟩ := hrel
    have hB1 : Below w.heap.size w wr := hb0.trans (hB.mono (by omega))
    have hAr := (hB.block w.heap.size (by omega)).trans hA0
    have hszr : w.heap.size + 1 ≤ wr.heap.size := by have := hB.size; omega
    by_cases hlt : k < n
    · have g1 : decide (k < n) = true := by simpa using hlt
      have hkl : k < l.length := by rw [HN.out]; exact hlt
      have hc5 := H5.out
      obtain ⟨_, _, _, ao, cap5, e5, _, hc5⟩ := hc5
      simp only [Value.slice.injEq] at e5
      obtain ⟨rfl, e6, rfl⟩ := e5
      clear e6
      obtain ⟨b5, o5, rfl, hb5, hc5⟩ := hc5 (by omega)
      obtain ⟨q0, q1, q2, q3⟩ := lcells_get l k hkl
      have hhs := @heard_some ls js ss ts l k hkl
      have hhn := @heard_none ls js ss ts l k hkl
      obtain ⟨⟨dev, LC, LS, LE⟩, hx⟩ : ∃ x, l[k] = x := ⟨_, rfl⟩
      rw [hx] at q0 q1 q2 q3 hhs hhn
      have c0 := kc (hc5 _ _ q0) hB1
      have c1 : wr.cell? ⟨b5, o5 + k * 4 + 1, none⟩ = some (.int .i64 LC) := kc (hc5 _ _ q1) hB1
      have c2 : wr.cell? ⟨b5, o5 + k * 4 + 2, none⟩ = some (.int .i64 LS) := kc (hc5 _ _ q2) hB1
      have c3 : wr.cell? ⟨b5, o5 + k * 4 + 3, none⟩ = some (.int .i64 LE) := kc (hc5 _ _ q3) hB1
      simp only at c0
      have i1 : (k : Int) < (n : Int) := by omega
      have hBl : Below wr.heap.size wr (wr.alloc (.cells #[.int .i64 dev, .int .i64 LC, .int .i64 LS, .int .i64 LE] 45)) := (Below.refl _ _).alloc (Nat.le_refl _) _
      have hBl1 := hB1.trans (hBl.mono hB1.size)
      obtain ⟨F, hF⟩ : ∃ F, bestE (okK ls dev LC LS LE ts) (ltE ts) ts.length = F := ⟨_, rfl⟩
      obtain ⟨RC, hRC⟩ : ∃ R, hearR ls js ss ts dev F = R := ⟨_, rfl⟩
      have hh : hrd ls js ss ts (dev, LC, LS, LE) = if 0 ≤ F then some RC else none := by
        unfold hrd
        simp only
        rw [hF, hRC]
      rw [hh] at hhs hhn
      have hear := hear_any d lv jv sv tv ls js ss ts dev LC LS LE _ HF.out (H1.out.below hBl1) (H2.out.below hBl1) (H3.out.below hBl1) (H4.out.below hBl1)
      rw [hF, hRC] at hear
      obtain ⟨r0, r1, r2, r3, r4, rb⟩ := RC
      have a0 := cell_of_row _ _ 0 _ _ _ hAr
      have a1 := cell_of_row _ _ 1 _ _ _ hAr
      have a2 := cell_of_row _ _ 2 _ _ _ hAr
      have a3 := cell_of_row _ _ 3 _ _ _ hAr
      have hlo : w.heap.size < wr.heap.size := by omega
      have w1 : IntKind.i64.wrap ((k : Int) + 1) = (k : Int) + 1 := IntWalk.i64_in _ (by omega)
      have hlen : (heard ls js ss ts (l.take k)).length ≤ 64 := Nat.le_trans (heard_len _ _ _ _ _) (by rw [List.length_take]; omega)
      have HLEN := Lib.hid hlen
      have HB := Lib.hid hB
      have HAR := Lib.hid hAr
      clear hc5 hx q0 q1 q2 q3 hF hRC hh hA0 hb0 inv0 hlen hAr
      by_cases hok : 0 ≤ F
      · have gok : decide (0 ≤ F) = true := by simpa using hok
        rw [if_pos hok] at hhs
        rw [gok] at hear
        have HS := Lib.hid (hhs rfl)
        have HEAR := Lib.hid hear
        clear hhs hhn hear hok gok
        simp only [rcV] at HEAR
        go_wp2_with (first
          | (go_at_call 26
             refine HEAR.out.mono ?_
             rintro e w3 ⟨va, rfl, hva, hB3⟩
             obtain ⟨xa, xc, rfl⟩ := hva.1.1.val
             have hsl : (wr.alloc (.cells #[.int .i64 dev, .int .i64 LC, .int .i64 LS, .int .i64 LE] 45)).heap.size = wr.heap.size + 1 := by simp
             have hBw : Below wr.heap.size wr w3 := hBl.trans (hB3.mono (by omega))
             have hBx : Below w3.heap.size w3 (w3.alloc (.cells #[.int .i64 r0, .int .i64 r1, .int .i64 r2, .int .i64 r3, .int .i64 r4, .slice xa rb.length xc] 47)) := (Below.refl _ _).alloc (Nat.le_refl _) _
             have hBy := hBx.alloc hBx.size (.cells #[.int .i64 r0, .int .i64 r1, .int .i64 r2, .int .i64 r3, .int .i64 r4, .slice xa rb.length xc] 47)
             have hsx : (w3.alloc (.cells #[.int .i64 r0, .int .i64 r1, .int .i64 r2, .int .i64 r3, .int .i64 r4, .slice xa rb.length xc] 47)).heap.size = w3.heap.size + 1 := by simp
             have hs3 : wr.heap.size + 1 ≤ w3.heap.size := by have := hB3.size; omega
             have hinv5 := (hinv.out.below hBw).below hBy
             have hBf := HB.out.trans ((hBw.trans (hBy.mono hBw.size)).mono hszr)
             have hnew : ∀ j u, [Value.int .i64 r0, .int .i64 r1, .int .i64 r2, .int .i64 r3, .int .i64 r4, .slice xa rb.length xc][j]? = some u → ((w3.alloc (.cells #[.int .i64 r0, .int .i64 r1, .int .i64 r2, .int .i64 r3, .int .i64 r4, .slice xa rb.length xc] 47)).alloc (.cells #[.int .i64 r0, .int .i64 r1, .int .i64 r2, .int .i64 r3, .int .i64 r4, .slice xa rb.length xc] 47)).cell? ((⟨w3.heap.size + 1, 0, none⟩ : Addr).add j) = some u := fun j u hj => by
               have := cellNew (w3.alloc (.cells #[.int .i64 r0, .int .i64 r1, .int .i64 r2, .int .i64 r3, .int .i64 r4, .slice xa rb.length xc] 47)) #[Value.int .i64 r0, .int .i64 r1, .int .i64 r2, .int .i64 r3, .int .i64 r4, .slice xa rb.length xc] 47 j u (by simpa using hj)
               rw [addr_add, Nat.zero_add]
               rw [hsx] at this
               exact this
             have hrdf : ∀ o, RInv (w.heap.size + 1) wr o (heard ls js ss ts (l.take k)) vs → Rd1 (w.heap.size + 1) ((w3.alloc (.cells #[.int .i64 r0, .int .i64 r1, .int .i64 r2, .int .i64 r3, .int .i64 r4, .slice xa rb.length xc] 47)).alloc (.cells #[.int .i64 r0, .int .i64 r1, .int .i64 r2, .int .i64 r3, .int .i64 r4, .slice xa rb.length xc] 47)) o ⟨r0, r1, r2, r3, r4, rb⟩ (.slice xa rb.length xc) := fun o hio => by
               refine ⟨hva.1.below hBy, ?_⟩
               rcases hva.1.nil_or with h | ⟨b', e1, e2⟩
               · exact .inl h
               · refine .inr ⟨b', e1, ?_, Nat.lt_of_lt_of_le e2 hBy.size, fun e => ?_⟩
                 · have := hva.2 b' e1
                   omega
                 · have := hva.2 b' e1
                   have := (hio.own.lt b' e).2
                   omega
             have hrd1 := hrdf _ hinv.out
             clear hrdf
             have hbase : w.heap.size + 1 ≤ ((w3.alloc (.cells #[.int .i64 r0, .int .i64 r1, .int .i64 r2, .int .i64 r3, .int .i64 r4, .slice xa rb.length xc] 47)).alloc (.cells #[.int .i64 r0, .int .i64 r1, .int .i64 r2, .int .i64 r3, .int .i64 r4, .slice xa rb.length xc] 47)).heap.size := by simp; omega
             have HIN := Lib.hid hinv5
             have HRD := Lib.hid hrd1
             have HBF := Lib.hid hBf
             clear hinv5 hrd1 hBf hva hB3 hBw hBx hBl hBl1)
          | (at_builtin; refine wpList_append_own_at _ rfl _ _ 55 rfl (w.heap.size + 1) 47 i6 _ 6 64 Try.underlying55 hi6 hy0 hy1 hy2 rfl (by decide) _ _ _ rfl HIN.out.own ⟨w3.heap.size + 1, 0, none⟩ 1 1 [Value.int .i64 r0, .int .i64 r1, .int .i64 r2, .int .i64 r3, .int .i64 r4, .slice xa rb.length xc] rfl rfl hnew ?c2 (by have := HLEN.out; unfold maxLen; omega) (by have := HLEN.out; omega) hbase ?_))
        case c2 => intro u hu; simp at hu; rcases hu with rfl | rfl | rfl | rfl | rfl | rfl <;> rfl
        intro v6 w6 hown6 hg6 hnn6 hob6
        have hpush := HIN.out.push HRD.out hown6 hg6 (by simp only [World.size_alloc]; exact hob6)
        rw [← HS.out] at hpush
        have hB6 := HBF.out.grown hg6 hbase (fun q hq => (HIN.out.own.lt q hq).1)
        have HP := Lib.hid hpush
        clear hpush hown6 hg6 hnn6 hob6
        go_wp2
        refine ⟨⟨k + 1, _, by omega, by simp, HP.out, hB6⟩, ?_⟩
        simp [intOf]
        omega
      · have gok : decide (0 ≤ F) = false := by simpa using hok
        rw [if_neg hok] at hhn
        rw [gok] at hear
        have HS := Lib.hid (hhn rfl)
        have HEAR := Lib.hid hear
        clear hhs hhn hear hok gok
        simp only [rcV] at HEAR
        go_wp2_with (go_at_call 26; refine HEAR.out.mono ?_; rintro e w3 ⟨va, rfl, hva, hB3⟩; obtain ⟨xa, xc, rfl⟩ := hva.1.1.val)
        have hsl : (wr.alloc (.cells #[.int .i64 dev, .int .i64 LC, .int .i64 LS, .int .i64 LE] 45)).heap.size = wr.heap.size + 1 := by simp
        have hBw : Below wr.heap.size wr w3 := hBl.trans (hB3.mono (by omega))
        have hBx : Below w3.heap.size w3 (w3.alloc (.cells #[.int .i64 r0, .int .i64 r1, .int .i64 r2, .int .i64 r3, .int .i64 r4, .slice xa rb.length xc] 47)) := (Below.refl _ _).alloc (Nat.le_refl _) _
        have hinv5 := (hinv.out.below hBw).below hBx
        have hBf := HB.out.trans ((hBw.trans (hBx.mono hBw.size)).mono hszr)
        rw [← HS.out] at hinv5
        have HIN := Lib.hid hinv5
        have HBF := Lib.hid hBf
        clear hinv5 hBf hva hB3 hBw hBx hBl hBl1
        go_wp2
        refine ⟨⟨k + 1, _, by omega, by simp, HIN.out, HBF.out⟩, ?_⟩
        simp [intOf]
        omega
    · have g1 : decide (k < n) = false := by simpa using hlt
      have e : heard ls js ss ts (l.take k) = heard ls js ss ts l := by rw [List.take_of_length_le (by rw [HN.out]; omega)]
      have ha := hinv.out
      rw [e] at ha
      have hlen := heard_len ls js ss ts l
      rw [HN.out] at hlen
      have HA := Lib.hid ha
      clear hinv e hA0 hb0 inv0 hAr
      obtain ⟨H, hH⟩ : ∃ H, heard ls js ss ts l = H := ⟨_, rfl⟩
      rw [hH] at HA hlen ha
      rcases ha.row2 with ⟨rfl, hz⟩ | ⟨g, cap, rfl, hbg, hrow⟩
      · subst hz
        clear ha
        go_wp2_with (go_at_call 46; refine (sort_nil _ _).mono ?_; rintro e w3 ⟨rfl, hB3⟩)
        go_ret
        rw [hH]
        exact ⟨_, fun k => k, rfl, ⟨by simp [prm_len], none, 0, by simp [prm_len], fun h => absurd h (by simp [prm_len])⟩, Mem.refl _ _ _, fun i j h1 h2 h3 => by simp at h3, hB1.trans (hB3.mono hB1.size)⟩
      · have hlg := hrow.lt
        have srt := Rc_sort _ g 0 _ cap wr hrow (by omega) (fun x => elOf_one _ _ (by
          have hl := HA.out.len
          by_cases hx : x < vs.length
          · rw [List.getD_eq_getElem?_getD, List.getElem?_eq_getElem hx]
            exact HA.out.one x hx
          · rw [List.getD_eq_getElem?_getD, List.getElem?_eq_none (by omega)]
            rfl)) _ (rlt_swo fun k => H.getD k default) (all1_ok _ _ _)
        have SORT := Lib.hid srt
        clear srt hrow ha
        go_wp2_with (go_at_call 46; refine SORT.out.mono ?_; rintro e w3 ⟨rfl, p, hr3, hm3, ht3, hs3⟩)
        go_ret
        rw [hH]
        exact ⟨_, p, rfl, HA.out.sorted hr3 hm3 hs3, hm3, ht3, hB1.trans (hs3.below.mono (by omega))⟩
end Go.Proofs.Ythemdbgcamkecaa
