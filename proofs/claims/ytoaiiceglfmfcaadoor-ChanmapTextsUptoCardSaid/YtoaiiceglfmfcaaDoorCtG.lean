/- chanmap.Text: the text of a map. -/
import Derived.Test.YtoaiiceglfmfcaaDoorCtF
import Derived.Test.YtoaiiceglfmfcaaDoorChanL
namespace Go.Proofs.YtoaiiceglfmfcaaDoor
open Go.RowKit Go.Shelf
attribute [local go_sem] Oper.semAt_some

theorem Tryd.info_string : (Tryd.prog.info? 9).map (fun i => (i.zero, i.size, i.bytes)) = some (some (.string ByteArray.empty), 1, 16) := by kernel_rfl
/-- the cells of parts -/
def pcells (l : List (Nat × Nat)) : List Value := l.map fun r => .string (strB (part r))
theorem decDigits_dec (n : Nat) (h : n < 100) : Lib.decDigits n = (dec n).map UInt8.ofNat := by
  unfold dec
  by_cases h1 : n < 10
  · rw [Lib.decDigits, dif_pos h1, if_pos h1]; rfl
  · rw [Lib.decDigits, dif_neg h1, Lib.decDigits, dif_pos (by omega), if_neg h1]; rfl
theorem itoa_any (n : Nat) (h : n < 100) (w : World) : Calls Tryd.prog 48 #[.int .i64 n] w fun e w' => e = .returned (.string (strB (dec n))) ∧ w = w' := by
  refine (Tryd.strconv_Itoa_small n h w).mono ?_
  rintro e w' ⟨rfl, rfl⟩
  exact ⟨by rw [strB_mk _ _ (decDigits_dec n h)], rfl⟩
theorem join_txtR (l : List (Nat × Nat)) : Lib.join ((l.map fun r => strB (part r)).map (·.data.toList)) ({ data := #[44] } : ByteArray).data.toList = (txtR l).map UInt8.ofNat := by
  cases l with
  | nil => rfl
  | cons r l =>
    rw [List.map_cons, List.map_cons, Lib.join_cons, strB_data, txtR, List.map_append]
    congr 1
    unfold Lib.joinTail tailR
    induction l with
    | nil => rfl
    | cons a l ih =>
      simp only [List.map_cons, List.flatten_cons, List.flatMap_cons, List.map_append] at ih ⊢
      rw [ih, strB_data]
      rfl
theorem joinT_any (base : Nat) (v : Value) (l : List (Nat × Nat)) (w : World) (h : w.ownsRow base 9 1 v l.length (pcells l)) (hl : l.length ≤ 100) :
    Calls Tryd.prog 49 #[v, .string { data := #[44] }] w fun e w' => e = .returned (.string (strB (txtR l))) ∧ Below w.heap.size w w' := by
  rcases h.2 with ⟨rfl, h0⟩ | ⟨g, cap, cur, rfl, _, hg, hc, _, _⟩
  · have e : l = [] := List.eq_nil_of_length_eq_zero h0
    subst e
    refine (Tryd.strings_Join_none none 0 { data := #[44] } w).mono ?_
    rintro e w' ⟨rfl, rfl⟩
    exact ⟨rfl, Below.refl _ _⟩
  · have hlen := txtR_len l
    have hj := Tryd.strings_Join g 0 cap (l.map fun r => strB (part r)) { data := #[44] } w
      (fun j x hx => by
        rw [Nat.zero_add, h.cellAt j (by rw [Nat.mul_one]; have := (List.getElem?_eq_some_iff.1 hx).1; simpa using this)]
        rw [List.getElem?_map] at hx
        unfold pcells
        rw [List.getElem?_map]
        cases hr : l[j]? with
        | none => rw [hr] at hx; cases hx
        | some r => rw [hr] at hx; simp only [Option.map_some, Option.some.injEq] at hx ⊢; rw [hx])
      (Array.getElem?_eq_some_iff.1 hg).1 (by rw [List.length_map]; omega) (by rw [List.length_map]; exact hc) (by rw [join_txtR, List.length_map]; omega)
    rw [List.length_map, join_txtR] at hj
    refine hj.mono ?_
    rintro e w' ⟨rfl, hB⟩
    exact ⟨by rw [strB_mk _ _ rfl], hB⟩
set_option linter.unusedSimpArgs false in
set_option linter.unusedVariables false in
set_option maxRecDepth 100000 in
set_option maxHeartbeats 4000000 in
theorem text_in (n : Nat) (hn : 6 ≤ n) (m : Nat) (hm : m < 18446744073709551616) (w : World) :
    CallsIn Fence.wide n Tryd.prog 34 #[.int .u64 m] w fun e w' => e = .returned (.string (strB (tx m))) ∧ Below w.heap.size w w' := by
  have h1 : 1 ≤ n := by omega
  obtain ⟨i0, hi, hz0, hz1, hz2⟩ := info_parts Tryd.info_string
  refine callsIn_of_wp_marks Tryd.func34 rfl trivial ?_ rfl
  simp only [Tryd.ntmps34, List.size_toArray, List.length_cons, List.length_nil, Nat.reduceAdd, Nat.reduceSub, Array.replicate_succ, Array.replicate_zero, List.push_toArray, List.append_toArray, List.nil_append, List.cons_append]
  gi_wp2_with (refine ⟨trivial, ?_⟩; gi_at_call 38; refine (all_in (n - 1) _ _).mono ?_; rintro e w' ⟨rfl, rfl⟩)
  have bI := Boxed.new w 23 (.int .u64 m)
  have bO := Boxed.new (w.alloc (.cells #[.int .u64 m] 23)) 60 (.slice none 0 0)
  have bM := Boxed.new ((w.alloc (.cells #[.int .u64 m] 23)).alloc (.cells #[.slice none 0 0] 60)) 23 (.int .u64 m)
  have hB0 : Below w.heap.size w (((w.alloc (.cells #[.int .u64 m] 23)).alloc (.cells #[.slice none 0 0] 60)).alloc (.cells #[.int .u64 m] 23)) :=
    (((Below.refl _ w).alloc (Nat.le_refl _) _).alloc (by simp) _).alloc (by simp; omega) _
  simp only [World.size_alloc] at bO bM
  refine wpIn_rangeFunc_ownF rfl h1 (gf := 51) (lb := #[.pointer (some ⟨w.heap.size + 1 + 1, 0, none⟩)]) rfl trivial (enters_of Tryd.func51 (by kernel_rfl) rfl)
    (all_stops (n - 1) (by omega) (w.heap.size + 1 + 1) m hm _ (by simp) bM.cell) keepsC_t (fun W l o o' _ h hc _ => keepsC_b W l o o' h hc) (Below.refl _ _) (fun _ => rfl)
    (fun pre W => ((∃ v, Boxed W (w.heap.size + 1) 60 v ∧ W.ownsRow w.heap.size 9 1 v (runsL m pre).length (pcells (runsL m pre)) ∧ True) ∧ Boxed W (w.heap.size + 1 + 1) 23 (.int .u64 m) ∧ Boxed W w.heap.size 23 (.int .u64 m)) ∧ Below w.heap.size w W)
    (fun _ _ _ => False)
    (OwnFrom.and (OwnFrom.and (Own.from (holdsRow_own w.heap.size (w.heap.size + 1) 60 9 1 (fun pre : List (Fin 37) => (runsL m pre).length) (fun pre => pcells (runsL m pre)) (fun _ _ => True)) _) (OwnFrom.and (Own.from (boxed_own _ _ (fun _ => _)) _) (Own.from (boxed_own _ _ (fun _ => _)) _))) (ownFrom_below (Nat.le_refl _) (by simp; omega)))
    (fun _ _ _ _ _ hs _ _ => hs)
    ⟨⟨⟨_, bO.alloc _, World.ownsRow_nil _ _ _ _, trivial⟩, bM, (bI.alloc _).alloc _⟩, hB0⟩
    (fun x => { tmps := #[.int .u64 m, .pointer (some ⟨w.heap.size, 0, none⟩), .string { data := #[] }, .pointer (some ⟨w.heap.size + 1, 0, none⟩), .int .i64 (x.val : Int), undef, undef, .int .u64 m, .func (.func 51) #[] #[.pointer (some ⟨w.heap.size + 1 + 1, 0, none⟩)], .int .i64 (x.val : Int), undef, undef, undef, undef, undef, undef, undef, undef, undef, undef, undef, undef, undef, undef, undef, undef, undef, undef, undef, undef, undef, undef, undef, undef, undef, undef, undef], defers := [] }) ?assign ?body ?done ?stop
  case assign =>
    intro l x W K hK
    gi_wp2
    exact hK
  case body =>
    rintro l pre x W ⟨⟨⟨v, hv, hrow, _⟩, hbm, hbi⟩, hB⟩ hlt
    have hd2 : 1 ≤ n - 1 - 1 := by omega
    have hc := hv.cell
    have hci := hbi.cell
    have hsn := runsL_snoc m pre x
    have hxl := x.isLt
    obtain ⟨c, hcx⟩ : ∃ c, x.val = c := ⟨_, rfl⟩
    rw [hcx] at hsn hxl ⊢
    have wm : IntKind.i64.wrap ((c : Int) - 1) = (c : Int) - 1 := IntWalk.i64_in _ (by omega)
    have hh := fun W => has_any m hm ((c : Int) - 1) W
    cases hp : hasI m ((c : Int) - 1)
    · rw [hp] at hsn
      simp only [hp] at hh
      simp only [Bool.false_eq_true, if_false] at hsn
      have HSN := Lib.hid hsn
      have HH := Lib.hid hh
      have hcT : c < 37 := hxl
      have HX := Lib.hid hcx
      clear hsn hh hp hcx
      gi_wp2_with fail
      refine ⟨trivial, ?_⟩
      gi_at_call 14
      refine (CallsIn.inRound l (callsIn_wide.2 (HH.out _))).mono ?_
      rintro e w' ⟨rfl, rfl⟩
      gi_wp2_with fail
      gi_loop [5] (fun b => ∃ k : Nat, b = .int .i64 k ∧ k < 37 ∧ c ≤ k ∧ Hid (lastOf m c = lastOf m k)) (fun b => 37 - (intOf b).toNat)
      case atStart => exact ⟨c, rfl, hcT, Nat.le_refl _, Lib.hid rfl⟩
      case round =>
        obtain ⟨k, rfl, hk37, hck, hlk⟩ := hrel
        have wk : IntKind.i64.wrap ((k : Int) + 1) = (k : Int) + 1 := IntWalk.i64_in _ (by omega)
        have hh := fun W => has_any m hm ((k : Int) + 1) W
        cases hp : hasI m ((k : Int) + 1)
        · have hst := lastOf_stop m k (by rw [show ((k + 1 : Nat) : Int) = (k : Int) + 1 by omega]; exact hp)
          simp only [hp] at hh
          have HL : Hid (lastOf m c = k) := Lib.hid (hlk.out.trans hst)
          have HH := Lib.hid hh
          clear hst hh hp hlk
          gi_wp2_with fail
          refine ⟨trivial, ?_⟩
          gi_at_call 14
          refine (CallsIn.inRound l (callsIn_wide.2 (HH.out _))).mono ?_
          rintro e w' ⟨rfl, rfl⟩
          gi_wp2_with fail
          have hit := itoa_any c (by omega)
          have hitk := itoa_any k (by omega)
          have z1 := strB_size (dec c)
          have z2 := strB_size (dec k)
          have z1' := (dec_len c).2
          have z2' := (dec_len k).2
          have HLL0 : (runsL m pre).length ≤ 37 := by unfold runsL; rw [List.length_map]; exact Nat.le_trans (List.length_filter_le _ _) (by omega)
          obtain ⟨L, hL⟩ : ∃ L, (runsL m pre).length = L := ⟨_, rfl⟩
          rw [hL] at HLL0 hrow
          have HLL := Lib.hid hL
          clear hL
          by_cases hlt' : c < k
          · have g1 : decide (c < k) = true := by simpa using hlt'
            have e2 : strB (dec c) ++ ({ data := #[45] } ++ strB (dec k)) = strB (part (c, k)) := by
              rw [show ({ data := #[45] } : ByteArray) = strB [45] by rfl, strB_app, strB_app]
              unfold part
              rw [if_pos hlt']
              simp
            have zp := strB_size (45 :: dec k)
            have e1 : ({ data := #[45] } : ByteArray) ++ strB (dec k) = strB (45 :: dec k) := by
              rw [show ({ data := #[45] } : ByteArray) = strB [45] by rfl, strB_app]
              rfl
            rw [e1] at e2
            rw [List.length_cons] at zp
            gi_wp2_with fail
            refine ⟨trivial, ?_⟩
            refine (CallsIn.inRound l (callsIn_wide.2 (hit _))).mono ?_
            rintro e w' ⟨rfl, rfl⟩
            gi_wp2_with fail
            refine ⟨trivial, ?_⟩
            refine (CallsIn.inRound l (callsIn_wide.2 (hitk _))).mono ?_
            rintro e w' ⟨rfl, rfl⟩
            gi_wp2_with (gi_at_builtin; refine wpListIn_append_own _ rfl _ _ 60 rfl w.heap.size 9 i0 (.string ByteArray.empty) 1 16 Tryd.underlying60 hi hz0 hz1 hz2 rfl (by decide) _ _ _ rfl (hrow.alloc _) ⟨W.heap.size, 0, none⟩ 1 1 [.string (strB (part (c, k)))] rfl rfl (cell_one_new _ _ _) (by simp [Value.oneCell']) (by unfold maxLen; omega) (by omega) (by have := hB.size; simp; omega) ?_; intro v' w1 hown' hgrow _; obtain ⟨g', cap', rfl⟩ := ownsRow_succ hown'; obtain ⟨hv1, hv2, hr2, hk2, hb2⟩ := hv.appended (by decide) hrow hB.size (by omega) hown' hgrow; have hc1 := hv1.cell; have hf1 := hv1.frozen)
            have hbm1 : Boxed w1 (w.heap.size + 1 + 1) 23 (.int .u64 m) := (hbm.alloc _).kept hgrow (hbm.not_row (by decide) hrow)
            have hbi1 : Boxed w1 w.heap.size 23 (.int .u64 m) := (hbi.alloc _).kept hgrow (hbi.not_row (by decide) hrow)
            have hbm2 := hbm1.other (B' := w.heap.size + 1) (by omega) (.slice (some ⟨g', 0, none⟩) (L + 1) cap')
            have hbi2 := hbi1.other (B' := w.heap.size + 1) (by omega) (.slice (some ⟨g', 0, none⟩) (L + 1) cap')
            refine ⟨hk2, fun u hu => ?_, ⟨⟨_, hv2, ?_, trivial⟩, hbm2, hbi2⟩, hB.trans hb2⟩
            · rw [hbm.cell] at hu
              rw [hbm2.cell]
              exact hu
            · rw [HSN.out, HL.out, List.length_append, List.length_singleton, HLL.out]
              simpa [pcells] using hr2
          · have g1 : decide (c < k) = false := by simpa using hlt'
            have e2 : dec c = part (c, k) := by unfold part; rw [if_neg hlt']
            rw [e2] at hit
            gi_wp2_with fail
            refine ⟨trivial, ?_⟩
            refine (CallsIn.inRound l (callsIn_wide.2 (hit _))).mono ?_
            rintro e w' ⟨rfl, rfl⟩
            gi_wp2_with (gi_at_builtin; refine wpListIn_append_own _ rfl _ _ 60 rfl w.heap.size 9 i0 (.string ByteArray.empty) 1 16 Tryd.underlying60 hi hz0 hz1 hz2 rfl (by decide) _ _ _ rfl (hrow.alloc _) ⟨W.heap.size, 0, none⟩ 1 1 [.string (strB (part (c, k)))] rfl rfl (cell_one_new _ _ _) (by simp [Value.oneCell']) (by unfold maxLen; omega) (by omega) (by have := hB.size; simp; omega) ?_; intro v' w1 hown' hgrow _; obtain ⟨g', cap', rfl⟩ := ownsRow_succ hown'; obtain ⟨hv1, hv2, hr2, hk2, hb2⟩ := hv.appended (by decide) hrow hB.size (by omega) hown' hgrow; have hc1 := hv1.cell; have hf1 := hv1.frozen)
            have hbm1 : Boxed w1 (w.heap.size + 1 + 1) 23 (.int .u64 m) := (hbm.alloc _).kept hgrow (hbm.not_row (by decide) hrow)
            have hbi1 : Boxed w1 w.heap.size 23 (.int .u64 m) := (hbi.alloc _).kept hgrow (hbi.not_row (by decide) hrow)
            have hbm2 := hbm1.other (B' := w.heap.size + 1) (by omega) (.slice (some ⟨g', 0, none⟩) (L + 1) cap')
            have hbi2 := hbi1.other (B' := w.heap.size + 1) (by omega) (.slice (some ⟨g', 0, none⟩) (L + 1) cap')
            refine ⟨hk2, fun u hu => ?_, ⟨⟨_, hv2, ?_, trivial⟩, hbm2, hbi2⟩, hB.trans hb2⟩
            · rw [hbm.cell] at hu
              rw [hbm2.cell]
              exact hu
            · rw [HSN.out, HL.out, List.length_append, List.length_singleton, HLL.out]
              simpa [pcells] using hr2
        · have hst := lastOf_step m k (by rw [show ((k + 1 : Nat) : Int) = (k : Int) + 1 by omega]; exact hp)
          simp only [hp] at hh
          have hk36 : k + 1 < 37 := has_lt37 m (k + 1) (by rw [show ((k + 1 : Nat) : Int) = (k : Int) + 1 by omega]; exact hp)
          have HL : Hid (lastOf m c = lastOf m (k + 1)) := Lib.hid (hlk.out.trans hst)
          have HH := Lib.hid hh
          clear hst hh hp hlk
          gi_wp2_with fail
          refine ⟨trivial, ?_⟩
          gi_at_call 14
          refine (CallsIn.inRound l (callsIn_wide.2 (HH.out _))).mono ?_
          rintro e w' ⟨rfl, rfl⟩
          gi_wp2_with fail
          go_round
          case rel => exact ⟨k + 1, by go_num, by omega, by omega, HL⟩
          case measure => simp [intOf]; omega
    · rw [hp] at hsn
      simp only [hp] at hh
      simp only [if_true, List.append_nil] at hsn
      have HH := Lib.hid hh
      rw [← hsn] at hrow
      clear hsn hh hp
      gi_wp2_with fail
      refine ⟨trivial, ?_⟩
      gi_at_call 14
      refine (CallsIn.inRound l (callsIn_wide.2 (HH.out _))).mono ?_
      rintro e w' ⟨rfl, rfl⟩
      gi_wp2_with fail
      exact ⟨KeepsOthers.refl _, KeepsC.refl _ _, ⟨⟨v, hv, hrow, trivial⟩, hbm, hbi⟩, hB⟩
  case done =>
    rintro D ys W hD rfl ⟨⟨⟨v, hv, hrow, _⟩, _⟩, hB⟩ hK
    have hc := hv.cell
    rw [runsL_all] at hrow
    have hl := runsTo_len m 37
    have hl2 : (if hasI m (((37 : Nat) : Int) - 1) then 1 else 0) ≤ 1 := by split <;> omega
    have hj := joinT_any w.heap.size v (runsTo m 37) W hrow (by omega)
    have HJ := Lib.hid hj
    have HK := Lib.hid hK
    have HB := Lib.hid hB
    clear hj hl hl2 hrow hK hB
    gi_wp2_with fail
    refine ⟨trivial, ?_⟩
    refine (callsIn_wide.2 HJ.out).mono ?_
    rintro e w4 ⟨rfl, hB4⟩
    have hK4 := (hB4.block D (Array.getElem?_eq_some_iff.1 HK.out).1).trans HK.out
    have hB5 := HB.out.trans (hB4.mono HB.out.size)
    clear HJ HK HB hB4
    gi_wp2
    refine ⟨by simp, .inl ⟨_, _, rfl, run_takeDeferred hK4, ?_⟩⟩
    exact ⟨_, results_tmp rfl _ _ _, rfl, hB5.trans (belowK_b (w := w) (Nat.le_refl _) w4 D _ _ (by simp at hD; omega) hK4 rfl rfl)⟩
  case stop =>
    rintro D c pre W _ _ h _
    exact h.elim
theorem text_any (m : Nat) (hm : m < 18446744073709551616) (w : World) :
    Calls Tryd.prog 34 #[.int .u64 m] w fun e w' => e = .returned (.string (strB (tx m))) ∧ Below w.heap.size w w' :=
  callsIn_wide.1 (text_in 6 (Nat.le_refl _) m hm w)
end Go.Proofs.YtoaiiceglfmfcaaDoor
