/- assess: the walk of AssessCounts. -/
import Derived.Test.YtoaiiceglfmfcaaAssLaws
namespace Go.Proofs.Ytoaiiceglfmfcaa
open Go.RowKit

theorem Try.cells_heard : Try.prog.cellsOf 63 = 2 := by kernel_rfl
theorem Try.cells_b : Try.prog.cellsOf 4 = 1 := by kernel_rfl
def henc (t : Int × Bool) : List Value := [.int .i64 t.1, .bool t.2]
def hcells (l : List (Int × Bool)) : List Value := l.flatMap henc
theorem hcells_get (l : List (Int × Bool)) (k : Nat) (h : k < l.length) : (hcells l)[k * 2]? = some (.int .i64 l[k].1) ∧ (hcells l)[k * 2 + 1]? = some (.bool l[k].2) := by
  have h0 := flat_get henc 2 (fun _ => rfl) l k 0 h (by decide)
  have h1 := flat_get henc 2 (fun _ => rfl) l k 1 h (by decide)
  exact ⟨h0, h1⟩
theorem rd_heard {w : World} (cs : List Value) (h : Rd Try.prog w 63 cs) : ∃ t, cs = henc t := by
  obtain ⟨hl, hf⟩ := h.struct Try.underlying63
  rw [Try.cells_heard] at hl
  obtain ⟨c0, c1, rfl⟩ := list2 cs hl
  have f0 : Rd Try.prog w 3 (([c0, c1].drop 0).take (Try.prog.cellsOf 3)) := hf 0 _ rfl
  have f1 : Rd Try.prog w 4 (([c0, c1].drop 1).take (Try.prog.cellsOf 4)) := hf 1 _ rfl
  simp only [Try.cells_i, Try.cells_b, List.drop_succ_cons, List.drop_zero, List.take_succ_cons, List.take_zero] at f0 f1
  obtain ⟨x, e0, _⟩ := f0.i64 Try.underlying3
  obtain ⟨y, e1⟩ := f1.bool Try.underlying4
  simp only [List.cons.injEq, and_true] at e0 e1
  subst e0 e1
  exact ⟨(x, y), rfl⟩
theorem arg_heard {w : World} {v : Value} (h : Arg Try.prog w 61 v) : ∃ l, SR w v l.length 2 (hcells l) :=
  sr_of_arg henc 2 (fun _ => rfl) (fun x u hu => by simp [henc] at hu; rcases hu with rfl | rfl <;> rfl) (by decide) Try.underlying61 Try.cells_heard rd_heard h

/-- the packets of a channel -/
def cnt (l : List (Int × Bool)) (c : Int) (ok : Bool) : Nat := (l.filter (fun t => decide (t.1 = c) && (t.2 == ok))).length
theorem cnt_snoc (l : List (Int × Bool)) (t : Int × Bool) (c : Int) (ok : Bool) : cnt (l ++ [t]) c ok = cnt l c ok + if t.1 = c ∧ t.2 = ok then 1 else 0 := by
  unfold cnt
  rw [List.filter_append, List.length_append]
  by_cases h1 : t.1 = c <;> by_cases h2 : t.2 = ok <;> simp [h1, h2]
theorem cnt_le (l : List (Int × Bool)) (c : Int) (ok : Bool) : cnt l c ok ≤ l.length := List.length_filter_le _ _
def recAll (l : List (Int × Bool)) : List (Int × Int) := l.foldl (fun T t => recL T t.1 t.2) zeros37
theorem recAll_snoc (l : List (Int × Bool)) (t : Int × Bool) : recAll (l ++ [t]) = recL (recAll l) t.1 t.2 := by simp [recAll]
theorem recAll_len (l : List (Int × Bool)) : (recAll l).length = 37 := by
  have H : ∀ (l : List (Int × Bool)) (T : List (Int × Int)), (l.foldl (fun T t => recL T t.1 t.2) T).length = T.length := by
    intro l
    induction l with
    | nil => intro T; rfl
    | cons t l ih => intro T; rw [List.foldl_cons, ih, recL_len]
  unfold recAll
  rw [H]
  decide
theorem incI_nat (n : Nat) (h : n < 65536) : incI (n : Int) = ((n + 1 : Nat) : Int) := by
  unfold incI
  rw [if_pos (by omega)]
  unfold wrap64
  omega
/-- the counts are the numbers of packets -/
theorem recAll_get (l : List (Int × Bool)) : l.length ≤ 200 → ∀ c : Nat, c < 37 → (recAll l)[c]? = some ((cnt l c true : Int), (cnt l c false : Int)) := by
  have H : ∀ (k : Nat), k ≤ l.length → l.length ≤ 200 → ∀ c : Nat, c < 37 → (recAll (l.take k))[c]? = some ((cnt (l.take k) c true : Int), (cnt (l.take k) c false : Int)) := by
    intro k
    induction k with
    | zero =>
      intro _ _ c hc
      have h0 : zeros37[c]? = some ((0 : Int), (0 : Int)) := by unfold zeros37; rw [List.getElem?_replicate, if_pos hc]
      simpa [recAll, cnt] using h0
    | succ k ih =>
      intro hk h200 c hc
      have ihc := ih (by omega) h200
      rw [List.take_succ_eq_append_getElem (by omega : k < l.length), recAll_snoc, cnt_snoc, cnt_snoc]
      obtain ⟨⟨ch, ok⟩, he⟩ : ∃ t, l[k] = t := ⟨_, rfl⟩
      rw [he]
      simp only
      by_cases hin : 0 ≤ ch ∧ ch < 37
      · obtain ⟨j, rfl⟩ := Int.eq_ofNat_of_zero_le hin.1
        have hj : j < 37 := by omega
        have hjl : j < (recAll (l.take k)).length := by rw [recAll_len]; exact hj
        rw [recL_in _ j ok hjl]
        have hgj := ihc j hj
        have hgc := ihc c hc
        have hgj' : (recAll (l.take k))[j] = ((cnt (l.take k) j true : Int), (cnt (l.take k) j false : Int)) := by
          rw [List.getElem?_eq_getElem hjl] at hgj
          exact Option.some.inj hgj
        rw [hgj']
        have b1 := cnt_le (l.take k) j true
        have b2 := cnt_le (l.take k) j false
        have b3 : (l.take k).length ≤ 200 := by simp; omega
        rw [incI_nat _ (by omega), incI_nat _ (by omega)]
        by_cases hcj : j = c
        · subst hcj
          rw [List.getElem?_set_self hjl]
          cases ok <;> simp
        · rw [List.getElem?_set_ne hcj, hgc]
          have : ¬ ((j : Int) = (c : Int)) := by omega
          simp [this]
      · rw [recL_out _ ch ok (by rw [recAll_len]; exact hin), ihc c hc]
        have : ¬ (ch = (c : Int)) := by omega
        simp [this]
  intro h200 c hc
  have := H l.length (Nat.le_refl _) h200 c hc
  rwa [List.take_length] at this

set_option maxHeartbeats 2000000 in
theorem assessCounts_walk (v0 : Value) (w : World) (a0 : Arg Try.prog w 61 v0) :
    Calls Try.prog 13 #[v0] w fun e w' => e = .returned (.bool true) ∧ Below w.heap.size w w' := by
  obtain ⟨hs, hsr⟩ := arg_heard a0
  clear a0
  obtain ⟨hm, _, _, ao, cap, rfl, _, hcell⟩ := hsr
  obtain ⟨n, hn⟩ : ∃ n, hs.length = n := ⟨_, rfl⟩
  unfold maxLen at hm
  rw [hn] at hm hcell ⊢
  have HN := Lib.hid hn
  clear hn
  by_cases h200 : n ≤ 200
  · have hg : decide ((200 : Int) < (n : Int)) = false := by simp; omega
    go_enter Try.func13, Try.ntmps13
    go_wp2_with fail
    refine (lives14_any _).mono ?_
    rintro e w1 ⟨rfl, hB1⟩
    go_wp2_with fail
    refine (fresh_any _).mono ?_
    rintro e w2 ⟨g2, c2, rfl, hown2, hB2⟩
    rw [show zeros37.length = 37 by decide]
    have s2 := SR.of_own hown2 (tcells_one _) (cap_of hown2)
    rw [show zeros37.length = 37 by decide] at s2
    clear hown2
    have hB02 : Below w.heap.size w w2 := hB1.trans (hB2.mono hB1.size)
    clear hB1 hB2
    go_wp2
    go_loopw [3, 4] (fun v i wr => ∃ k g c : Nat, k ≤ n ∧ i = .int .i64 k ∧ v = .slice (some ⟨g, 0, none⟩) 37 c ∧ SR wr (.slice (some ⟨g, 0, none⟩) 37 c) 37 2 (tcells (recAll (hs.take k))) ∧ Below w.heap.size w wr) (fun _ i _ => n - (intOf i).toNat)
    case atStart => exact ⟨0, g2, c2, by omega, rfl, rfl, by simpa [recAll] using s2, hB02⟩
    case round =>
      obtain ⟨k, g, c, hk, rfl, rfl, hsr, hB⟩ := hrel
      clear s2
      by_cases hlt : k < n
      · have hkl : k < hs.length := by rw [HN.out]; exact hlt
        obtain ⟨b, off, rfl, hb, hx⟩ := hcell (by omega)
        obtain ⟨p1, p2⟩ := hcells_get hs k hkl
        have d1 := (hB.cell (p := ⟨b, off + k * 2, none⟩) hb).trans (hx _ _ p1)
        have d2 := (hB.cell (p := ⟨b, off + k * 2 + 1, none⟩) hb).trans (hx _ _ p2)
        have ts := List.take_succ_eq_append_getElem hkl
        obtain ⟨⟨x, y⟩, he⟩ : ∃ t, hs[k] = t := ⟨_, rfl⟩
        rw [he] at d1 d2 ts
        simp only at d1 d2
        have hst : recAll (hs.take (k + 1)) = recL (recAll (hs.take k)) x y := by rw [ts, recAll_snoc]
        have hT := recAll_len (hs.take k)
        obtain ⟨T, hTe⟩ : ∃ T, recAll (hs.take k) = T := ⟨_, rfl⟩
        rw [hTe] at hsr hst hT
        have hrc := record_any (.slice (some ⟨g, 0, none⟩) 37 c) T x y (by omega) wr.drew (by rw [hT]; exact hsr.below ((Below.refl _ _).drew))
        have hT2 := recL_len T x y
        rw [hT] at hT2
        unfold Made at hrc
        rw [hT2] at hrc
        have HR := Lib.hid hrc
        have HST := Lib.hid hst
        have hbw : b < wr.heap.size := Nat.lt_of_lt_of_le hb hB.size
        have hk0 : (0 : Int) ≤ (k : Int) := by omega
        have hk1 : (k : Int) < (n : Int) := by omega
        clear p1 p2 he ts hTe hsr hst hrc hT hT2 hx
        go_wp2
        go_region_held3 (fun W' => W'.cell? ⟨b, off + k * 2, none⟩ = some (.int .i64 x) ∧ W'.cell? ⟨b, off + k * 2 + 1, none⟩ = some (.bool y)) (first | go_keep | assumption) (first | (go_at_call 32; refine HR.out.mono ?_; rintro e w3 ⟨g3, c3, rfl, hown3, hB3⟩; have hk2 := keep2 (W := wr.drew) ⟨d1, d2⟩ hB3))
        go_wp2
        have s3 := SR.of_own hown3 (tcells_one _) (cap_of hown3)
        rw [← HST.out] at s3
        go_roundw
        case rel => exact ⟨k + 1, g3, c3, by omega, by go_num, rfl, s3, hB.drew.trans (hB3.mono hB.size)⟩
        case measure => simp [intOf]; omega
      · have hkn : n = k := by omega
        subst hkn
        rw [List.take_of_length_le (by rw [HN.out]; omega)] at hsr
        obtain ⟨_, _, _, ag, cg, hve, _, hct⟩ := hsr
        obtain ⟨b1, o1, hb1, _, hx1⟩ := hct (by omega)
        simp only [Value.slice.injEq] at hve
        obtain ⟨rfl, _, rfl⟩ := hve
        simp only [Option.some.injEq, Addr.mk.injEq, and_true] at hb1
        obtain ⟨rfl, rfl⟩ := hb1
        simp only [Nat.zero_add] at hx1
        clear hct
        have hget := recAll_get hs (by rw [HN.out]; exact h200)
        have HG := Lib.hid hget
        have HX1 := Lib.hid hx1
        clear hget hx1 hlt
        go_wp2
        go_loop [5, 6, 7, 8] (fun c _ _ _ => ∃ cN : Nat, cN ≤ 37 ∧ c = .int .i64 cN) (fun c _ _ _ => 37 - (intOf c).toNat)
        case atStart => exact ⟨0, by omega, rfl⟩
        case round =>
          obtain ⟨cN, hcN, rfl⟩ := hrel
          by_cases hc37 : cN < 37
          · obtain ⟨e1, e2⟩ := tcells_get? _ cN _ (HG.out cN hc37)
            have t1 := HX1.out _ _ e1
            have t2 := HX1.out _ _ e2
            clear e1 e2
            go_wp2
            go_loop [6, 7, 8] (fun gd bd i => ∃ k : Nat, k ≤ n ∧ i = .int .i64 k ∧ gd = .int .i64 (cnt (hs.take k) cN true) ∧ bd = .int .i64 (cnt (hs.take k) cN false)) (fun _ _ i => n - (intOf i).toNat)
            case atStart => exact ⟨0, by omega, rfl, by simp [cnt], by simp [cnt]⟩
            case round =>
              obtain ⟨k, hk2, rfl, rfl, rfl⟩ := hrel
              by_cases hlt : k < n
              · have hkl : k < hs.length := by rw [HN.out]; exact hlt
                obtain ⟨b, off, rfl, hb, hx⟩ := hcell (by omega)
                obtain ⟨p1, p2⟩ := hcells_get hs k hkl
                have d1 := (hB.cell (p := ⟨b, off + k * 2, none⟩) hb).trans (hx _ _ p1)
                have d2 := (hB.cell (p := ⟨b, off + k * 2 + 1, none⟩) hb).trans (hx _ _ p2)
                have ts := List.take_succ_eq_append_getElem hkl
                obtain ⟨⟨x, y⟩, he⟩ : ∃ t, hs[k] = t := ⟨_, rfl⟩
                rw [he] at d1 d2 ts
                simp only at d1 d2
                have u1 := cnt_snoc (hs.take k) (x, y) cN true
                have u2 := cnt_snoc (hs.take k) (x, y) cN false
                rw [← ts] at u1 u2
                simp only at u1 u2
                have l1 := cnt_le (hs.take k) cN true
                have l2 := cnt_le (hs.take k) cN false
                have l3 : (hs.take k).length ≤ k := List.length_take_le _ _
                have U1 := Lib.hid u1
                have U2 := Lib.hid u2
                clear p1 p2 he ts hx u1 u2
                by_cases hxc : x = (cN : Int)
                · have hq : (x == (cN : Int)) = true := by simp [hxc]
                  have HXC := Lib.hid hxc
                  clear hxc
                  cases y
                  · go_wp2
                    go_round
                    case rel => exact ⟨k + 1, by omega, by go_num, by rw [U1.out]; simp, by rw [U2.out]; simp [HXC.out]⟩
                    case measure => simp [intOf]; omega
                  · go_wp2
                    go_round
                    case rel => exact ⟨k + 1, by omega, by go_num, by rw [U1.out]; simp [HXC.out], by rw [U2.out]; simp⟩
                    case measure => simp [intOf]; omega
                · have hq : (x == (cN : Int)) = false := by simp [hxc]
                  have HXC := Lib.hid hxc
                  clear hxc
                  go_wp2
                  go_round
                  case rel => exact ⟨k + 1, by omega, by go_num, by rw [U1.out, if_neg (fun h => HXC.out h.1)]; rfl, by rw [U2.out, if_neg (fun h => HXC.out h.1)]; rfl⟩
                  case measure => simp [intOf]; omega
              · have hkn : n = k := by omega
                subst hkn
                have e : hs.take n = hs := List.take_of_length_le (by rw [HN.out]; omega)
                rw [e]
                clear hcell e
                go_wp2
                go_round
                case rel => exact ⟨cN + 1, by omega, by go_num⟩
                case measure => simp [intOf]; omega
          · clear hcell
            go_wp2
            go_ret
            exact ⟨rfl, hB⟩
  · have hg : decide ((200 : Int) < (n : Int)) = true := by simp; omega
    clear hcell
    go_enter Try.func13, Try.ntmps13
    go_wp2_with (go_at_call 28; refine (lives14_any _).mono ?_; rintro e w1 ⟨rfl, hB1⟩)
    go_ret
    exact ⟨rfl, by assumption⟩
end Go.Proofs.Ytoaiiceglfmfcaa
