/- octets.Take. -/
import Derived.Test.YtccknpdnapoboaaDoorCpC
namespace Go.Proofs.YtccknpdnapoboaaDoor
open Go.RowKit

/-- Join of one slice -/
theorem join1_any (x : Value) (bs : List Nat) (t : TypeId) (w : World) (h : BytesAt w x bs) (hm : bs.length ≤ 140737488351232) :
    Calls Tryd.prog 31 #[.slice (some ⟨w.heap.size, 0, none⟩) 1 1] (w.alloc (.cells #[x] t)) fun e w' => ∃ v', e = .returned v' ∧ w'.ownsRow (w.heap.size + 1) 5 1 v' bs.length (bcells bs) ∧ Below (w.heap.size + 1) (w.alloc (.cells #[x] t)) w' := by
  have bP := Blk.new w t [x]
  have hx : x.oneCell' = true := by obtain ⟨_, _, rfl⟩ := h.1.val; rfl
  have hj := join_any (.slice (some ⟨w.heap.size, 0, none⟩) 1 1) [(x, bs)] (w.alloc (.cells #[x] t)) ⟨by unfold maxLen; simp, by simp, by simpa using hx, some ⟨w.heap.size, 0, none⟩, 1, rfl, fun h => (by cases h), fun _ => ⟨w.heap.size, 0, rfl, bP.lt, fun j u hj => by rw [Nat.zero_add]; exact bP.cell hj⟩⟩
    (by simpa using h.below ((Below.refl _ _).alloc (Nat.le_refl _) _)) (by simpa using hm) (by simp)
  simpa using hj
/-- what Take hands back -/
def TakeP (w : World) (bs ss : List Nat) (N M T : Nat) (E : Int) (e : Ending) (w' : World) : Prop :=
  ∃ v1 v2 : Value, e = .returned (.tuple #[v1, v2, .int .i64 E]) ∧ Below w.heap.size w w' ∧
    (¬ N < T → w'.ownsRow w.heap.size 59 1 v1 M (ncells (tk ss bs)) ∧ w'.ownsRow w.heap.size 5 1 v2 (N - T) (bcells (bs.drop T)))
set_option linter.unusedSimpArgs false in
set_option linter.unusedVariables false in
set_option maxRecDepth 100000 in
set_option maxHeartbeats 4000000 in
theorem take_any (a : Option Addr) (cap : Nat) (sv : Value) (bs ss : List Nat) (N M : Nat) (w : World) (h : BytesAt w (.slice a N cap) bs) (hN : bs.length = N) (hcap : N ≤ cap)
    (hs : SR w sv ss.length 1 (icells ss)) (h8 : ∀ s ∈ ss, 1 ≤ s ∧ s ≤ 8) (hM : ss.length = M) (hm : M ≤ 1000) (hNm : N ≤ 140737488351232) :
    Calls Tryd.prog 56 #[.slice a N cap, sv] w (TakeP w bs ss N M ss.sum (if N < ss.sum then 3 else 0)) := by
  obtain ⟨i0, hi, hz0, hz1, hz2⟩ := info_parts Tryd.info_u64
  have hsum := sum_bd ss (fun s hs => (h8 s hs).2)
  rw [hM] at hsum
  have hle := sum_take_le ss
  rw [hM] at hs
  obtain ⟨_, _, _, ao, scap, rfl, _, hcell⟩ := hs
  have HM := Lib.hid hM
  have HN := Lib.hid hN
  have HC := Lib.hid hcell
  have H8 := Lib.hid h8
  have HBY := Lib.hid h
  have HLE := Lib.hid hle
  clear hcell h8 h hM hN hle
  obtain ⟨T, hT⟩ : ∃ T, ss.sum = T := ⟨_, rfl⟩
  rw [hT] at hsum HLE ⊢
  have HT := Lib.hid hT
  obtain ⟨E, hE⟩ : ∃ E : Int, (if N < T then (3 : Int) else 0) = E := ⟨_, rfl⟩
  rw [hE]
  have HE := Lib.hid hE
  clear hT hE
  go_enter Tryd.func56, Tryd.ntmps56
  go_wp2
  go_loop [7, 9, 17] (fun s _ i => ∃ k : Nat, i = .int .i64 k ∧ k ≤ M ∧ s = .int .i64 ((ss.take k).sum : Nat)) (fun _ _ i => M - (intOf i).toNat)
  case atStart => exact ⟨0, by simp, Nat.zero_le _, by simp⟩
  case round =>
    obtain ⟨k, rfl, hk, rfl⟩ := hrel
    by_cases hlt : k < M
    · have g1 : decide (k < M) = true := by simpa using hlt
      have hkl : k < ss.length := by rw [HM.out]; exact hlt
      obtain ⟨b, off, rfl, hb, hcell⟩ := HC.out (by omega)
      have d1 := hcell k (.int .i64 (ss[k] : Nat)) (by simp [icells, List.getElem?_eq_getElem hkl])
      obtain ⟨h1, h2⟩ := H8.out _ (List.getElem_mem hkl)
      have hst := sum_take_succ ss k hkl
      have hl := HLE.out (k + 1)
      obtain ⟨s, hs⟩ : ∃ s, ss[k] = s := ⟨_, rfl⟩
      rw [hs] at d1 h1 h2 hst
      obtain ⟨S, hS⟩ : ∃ S, (ss.take k).sum = S := ⟨_, rfl⟩
      rw [hS] at hst ⊢
      rw [hst] at hl
      have HST := Lib.hid hst
      clear hst hcell hs hS
      have w1 : IntKind.i64.wrap ((k : Int) + 1) = (k : Int) + 1 := IntWalk.i64_in _ (by omega)
      have w2 : IntKind.i64.wrap ((S : Int) + (s : Int)) = (S : Int) + (s : Int) := IntWalk.i64_in _ (by omega)
      have hsz := fun W => sized_any s h1 h2 W
      go_wp2_with (go_at_call 51; refine (hsz _).mono ?_; rintro e w' ⟨rfl, rfl⟩)
      refine ⟨⟨k + 1, by simp, hlt, by rw [HST.out]; simp⟩, ?_⟩
      simp [intOf]
      omega
    · obtain rfl : M = k := by omega
      have g1 : decide (M < M) = false := by simp
      rw [show (ss.take M).sum = T by rw [List.take_of_length_le (by rw [HM.out]; exact Nat.le_refl _)]; exact HT.out]
      by_cases hlt : N < T
      · have g2 : decide (N < T) = true := by simpa using hlt
        have g2' : decide ((N : Int) < (T : Int)) = true := by simp; omega
        obtain rfl : E = 3 := by rw [← HE.out, if_pos hlt]
        go_wp2
        go_ret3
        exact ⟨_, _, rfl, Below.refl _ _, fun h => absurd hlt h⟩
      · have g2 : decide (N < T) = false := by simpa using hlt
        have g2' : decide ((N : Int) < (T : Int)) = false := by simp; omega
        obtain rfl : E = 0 := by rw [← HE.out, if_neg hlt]
        have HLT := Lib.hid hlt
        clear hlt HE hsum g1
        go_wp2
        go_loopw [0, 10, 12, 13, 14, 34, 38, 39] (fun b v _ _ _ i _ _ wr => ∃ k a' c' n', i = .int .i64 ((k : Nat) : Int) ∧ k ≤ M ∧ b = .slice a' n' c' ∧ Hid (n' = N - (ss.take k).sum) ∧ n' ≤ c' ∧ BytesAt w (.slice a' n' c') (bs.drop (ss.take k).sum) ∧ wr.ownsRow w.heap.size 59 1 v k (ncells (tk (ss.take k) bs)) ∧ Below w.heap.size w wr) (fun _ _ _ _ _ i _ _ _ => M - (intOf i).toNat)
        case atStart => exact ⟨0, a, cap, N, by simp, Nat.zero_le _, rfl, Lib.hid (by simp), hcap, by simpa using HBY.out, by simpa [tk, ncells] using World.ownsRow_nil w w.heap.size 59 1, Below.refl _ _⟩
        case round =>
          obtain ⟨k, a', c', n', rfl, hk, rfl, hn', hc', hby, hown, hB⟩ := hrel
          by_cases hlt : k < M
          · have g1 : decide (k < M) = true := by simpa using hlt
            have hkl : k < ss.length := by rw [HM.out]; exact hlt
            obtain ⟨b, off, rfl, hb, hcell⟩ := HC.out (by omega)
            have d1 := (hB.cell (p := ⟨b, off + k, none⟩) hb).trans (hcell k (.int .i64 (ss[k] : Nat)) (by simp [icells, List.getElem?_eq_getElem hkl]))
            obtain ⟨h1, h2⟩ := H8.out _ (List.getElem_mem hkl)
            have hst := sum_take_succ ss k hkl
            have htk := tk_snoc ss[k] (ss.take k) bs
            rw [← List.take_succ_eq_append_getElem hkl] at htk
            have hl := HLE.out (k + 1)
            have hHLT := HLT.out
            obtain ⟨s, hs⟩ : ∃ s, ss[k] = s := ⟨_, rfl⟩
            rw [hs] at d1 h1 h2 hst htk
            obtain ⟨S, hS⟩ : ∃ S, (ss.take k).sum = S := ⟨_, rfl⟩
            rw [hS] at hst hn' hby htk
            rw [hst] at hl
            have hn2 : n' = N - S := hn'.out
            have hs0 : s ≤ n' := by omega
            obtain ⟨cs, hcs⟩ : ∃ cs, bs.drop S = cs := ⟨_, rfl⟩
            rw [hcs] at hby htk
            have hcl : cs.length = n' := by rw [← hcs, List.length_drop, HN.out]; omega
            obtain ⟨a2, c2, hby2, hc2, hrun⟩ := bytes_from w a' n' c' s cs hby hcl hc' hs0
            have hcd : cs.drop s = bs.drop (S + s) := by rw [← hcs, List.drop_drop]
            rw [hcd] at hby2
            obtain ⟨hsr, _, hlt256⟩ := hby
            rw [hcl] at hsr
            obtain ⟨_, _, _, ao2, cp2, e1, _, hbc⟩ := hsr
            obtain ⟨b', off', hab, hb', hcell'⟩ := hbc (by omega)
            cases e1
            subst hab
            obtain ⟨n2, hn2'⟩ : ∃ n2, n' - s = n2 := ⟨_, rfl⟩
            rw [hn2'] at hby2 hc2 hrun
            have HBY2 := Lib.hid hby2
            have HN2 : Hid (n2 = N - (S + s)) := Lib.hid (by rw [← hn2', hn2, Nat.sub_sub])
            have HST := Lib.hid hst
            have HTK := Lib.hid htk
            have HCL := Lib.hid hcl
            have HCELL := Lib.hid hcell'
            have HLT256 := Lib.hid hlt256
            have HD : Hid (S + s ≤ T) := Lib.hid hl
            have w1 : IntKind.i64.wrap ((k : Int) + 1) = (k : Int) + 1 := IntWalk.i64_in _ (by omega)
            have hs64 : (s : Int) ≤ (n' : Int) := by omega
            have HX := HBY2
            have HOWN := Lib.hid hown
            have HB := Lib.hid hB
            have hrun' := hrun
            clear hst htk hl hcs hcl hcell hs hS hn' hn2 hn2' hby2 hcd hcell' hlt256 hbc hown hB
            go_wp2
            go_loop [13, 14, 39] (fun x _ i => ∃ j : Nat, i = .int .i64 j ∧ j ≤ s ∧ x = .int .u64 (vnum (cs.take j) : Nat)) (fun _ _ i => s - (intOf i).toNat)
            case atStart => exact ⟨0, by simp, Nat.zero_le _, by simp [vnum]⟩
            case round =>
              obtain ⟨j, rfl, hj, rfl⟩ := hrel
              by_cases hjl : j < s
              · have g2 : decide (j < s) = true := by simpa using hjl
                have hjc : j < cs.length := by rw [HCL.out]; omega
                have q1 := (HB.out.cell (p := ⟨b', off' + j, none⟩) hb').trans (HCELL.out j (.int .u8 (cs[j] : Nat)) (by simp [bcells, List.getElem?_eq_getElem hjc]))
                have l1 := HLT256.out _ (List.getElem_mem hjc)
                have hts : cs.take (j + 1) = cs.take j ++ [cs[j]] := List.take_succ_eq_append_getElem hjc
                obtain ⟨x, hx⟩ : ∃ x, cs[j] = x := ⟨_, rfl⟩
                rw [hx] at q1 l1 hts
                have p1 := shl_wrap x j l1 (by omega)
                have hor := vnum_or (cs.take j) x (fun y hy => HLT256.out y (List.mem_of_mem_take hy))
                have hsn := vnum_snoc (cs.take j) x
                have hvl := vnum_lt (cs.take (j + 1)) (fun y hy => HLT256.out y (List.mem_of_mem_take hy))
                have htl : (cs.take j).length = j := by rw [List.length_take]; omega
                rw [htl] at hor hsn
                rw [← hts] at hsn
                rw [List.length_take, Nat.min_eq_left (by omega)] at hvl
                have h264 : vnum (cs.take (j + 1)) < 18446744073709551616 := by
                  have : 256 ^ (j + 1) ≤ 256 ^ 8 := Nat.pow_le_pow_right (by decide) (by omega)
                  omega
                obtain ⟨Y, hY⟩ : ∃ Y, x * 256 ^ j = Y := ⟨_, rfl⟩
                obtain ⟨V1, hV1⟩ : ∃ V, vnum (cs.take j) = V := ⟨_, rfl⟩
                obtain ⟨V2, hV2⟩ : ∃ V, vnum (cs.take (j + 1)) = V := ⟨_, rfl⟩
                rw [hY] at p1 hor hsn
                rw [hV1] at hor hsn ⊢
                rw [hV2] at hsn h264
                have ho : bits .or .u64 (V1 : Int) (Y : Int) = (V2 : Int) := by rw [u64_or_nat V1 Y (by omega) (by omega), hor, hsn]
                have HV2 := Lib.hid hV2
                have w2 : IntKind.i64.wrap ((j : Int) + 1) = (j : Int) + 1 := IntWalk.i64_in _ (by omega)
                have w8 : IntKind.i64.wrap (8 * (j : Int)) = 8 * (j : Int) := IntWalk.i64_in _ (by omega)
                have hjn : (j : Int) < (n' : Int) := by omega
                clear hts hor hsn hvl htl hY hV1 hV2 hx hjc h264
                go_wp2
                refine ⟨⟨j + 1, by simp, hjl, by rw [HV2.out]⟩, ?_⟩
                simp [intOf]
                omega
              · have g2 : decide (j < s) = false := by simpa using hjl
                obtain rfl : s = j := by omega
                obtain ⟨V, hV⟩ : ∃ V, vnum (cs.take s) = V := ⟨_, rfl⟩
                have htk := HTK.out
                rw [hV] at htk ⊢
                have HTK2 := Lib.hid htk
                have hown := HOWN.out
                have hB := HB.out
                clear htk hV HTK
                go_wp2_with (at_builtin; refine wpList_append_own _ rfl _ _ 102 rfl w.heap.size 59 i0 (.int .u64 0) 1 8 Tryd.underlying102 hi hz0 hz1 hz2 rfl (by decide) _ _ _ rfl (hown.alloc _) ⟨wr.heap.size, 0, none⟩ 1 1 [.int .u64 (V : Int)] rfl rfl (cell_one_new _ _ _) (by simp [Value.oneCell']) (by unfold maxLen; omega) (by omega) (by have := hB.size; simp; omega) ?_)
                intro v' w3 hown' hgrow _
                have hbel : Below wr.heap.size wr (wr.alloc (.cells #[.int .u64 (V : Int)] 59)) := (Below.refl _ _).alloc (Nat.le_refl _) _
                have hB3 : Below w.heap.size w w3 := (hB.alloc hB.size _).grown hgrow (by have := hB.size; simp; omega) (fun j hj => (hown.lt j hj).1)
                have HR : Hid (∃ k2 a2' c2' n2', Value.int .i64 ((k : Int) + 1) = .int .i64 ((k2 : Nat) : Int) ∧ k2 ≤ M ∧ Value.slice a2 n2 c2 = .slice a2' n2' c2' ∧ Hid (n2' = N - (ss.take k2).sum) ∧ n2' ≤ c2' ∧ BytesAt w (.slice a2' n2' c2') (bs.drop (ss.take k2).sum) ∧ w3.ownsRow w.heap.size 59 1 v' k2 (ncells (tk (ss.take k2) bs)) ∧ Below w.heap.size w w3) :=
                  Lib.hid ⟨k + 1, a2, c2, n2, by simp, hlt, rfl, by rw [HST.out]; exact HN2, hc2, by rw [HST.out]; exact HBY2.out, by rw [HTK2.out]; simpa [ncells] using hown', hB3⟩
                clear hown hown' hgrow hB hB3 hbel
                go_wp2
                refine ⟨HR.out, ?_⟩
                simp [intOf]
                omega
          · obtain rfl : M = k := by omega
            have g1 : decide (M < M) = false := by simp
            rw [List.take_of_length_le (by rw [HM.out]; exact Nat.le_refl _)] at hn' hby hown
            rw [HT.out] at hn' hby
            have hn2 := hn'.out
            have hB' := hB.size
            have hbl : (bs.drop T).length = n' := by rw [List.length_drop, HN.out]; omega
            have hj := join1_any (.slice a' n' c') (bs.drop T) 25 wr (hby.below hB) (by rw [hbl]; omega)
            rw [hbl] at hj
            have HJ := Lib.hid hj
            have HOWN := Lib.hid (hown.alloc (.cells #[.slice a' n' c'] 25))
            have HB := Lib.hid (hB.alloc hB.size (.cells #[.slice a' n' c'] 25))
            have HN2 : Hid (n' = N - T) := hn'
            clear hj hown hB hbl hn2 hn' hby
            go_wp2_with fail
            refine HJ.out.mono ?_
            rintro e w4 ⟨v4, rfl, hown4, hB4⟩
            have hfin := HOWN.out
            have hBf := HB.out.trans (hB4.mono (by omega))
            have hof := own_below hfin (by simpa using hB4)
            have hown5 := own_base hown4 (base' := w.heap.size) (by omega)
            rw [HN2.out] at hown5
            clear hfin hown4 hB4 HOWN HB HJ
            go_wp2
            go_ret3
            exact ⟨_, _, rfl, hBf, fun _ => ⟨hof, hown5⟩⟩
end Go.Proofs.YtccknpdnapoboaaDoor
