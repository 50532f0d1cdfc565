/- chanmap: Parse of the code. -/
import Derived.Test.YtoaiiceglfmfcaaDoorCtJ
namespace Go.Proofs.YtoaiiceglfmfcaaDoor
open Go.RowKit

theorem EVar.below {w w' : World} (h : EVar w) (hb : Below w.heap.size w w') : EVar w' := by
  obtain ⟨ev, h1, h2⟩ := h
  exact ⟨ev, kc h1 hb, h2⟩
theorem shl_one (c : Nat) (h : c < 37) : IntKind.u64.wrap (1 * 2 ^ ((c : Int)).toNat) = ((2 ^ c : Nat) : Int) := by
  have hp : 2 ^ c ≤ 2 ^ 36 := Nat.pow_le_pow_right (by decide) (by omega)
  have e : (1 : Int) * 2 ^ ((c : Int)).toNat = ((2 ^ c : Nat) : Int) := by simp
  rw [e]
  generalize 2 ^ c = P at hp
  have h36 : (2 : Nat) ^ 36 = 68719476736 := by decide
  exact IntWalk.u64_in _ (by omega)
theorem cutP_mem (p : List Nat) (hb : ∀ x ∈ p, x < 256) : (∀ x ∈ (cutP p).1, x < 256) ∧ (∀ x ∈ (cutP p).2, x < 256) ∧ (cutP p).1.length ≤ p.length ∧ (cutP p).2.length ≤ p.length := by
  unfold cutP
  split
  · refine ⟨fun x hx => hb x ((List.takeWhile_sublist _).subset hx), fun x hx => hb x ((List.dropWhile_sublist _).subset (List.mem_of_mem_drop hx)), (List.takeWhile_sublist _).length_le, ?_⟩
    simp only [List.length_drop]
    have := (List.dropWhile_sublist (l := p) (· ≠ 45)).length_le
    omega
  · exact ⟨hb, hb, Nat.le_refl _, Nat.le_refl _⟩
def candS (o1 o2 : Option Nat) (f : Nat → Nat → Option Nat) : Option Nat := match o1, o2 with
    | some a, some b => f a b
    | _, _ => none
theorem candS_no (o1 o2 : Option Nat) (f : Nat → Nat → Option Nat) (h : o1 = none ∨ o2 = none) : candS o1 o2 f = none := by
  rcases h with rfl | rfl
  · rfl
  · cases o1 <;> rfl
theorem candP_cons (p : List Nat) (ps : List (List Nat)) (m : Nat) : candP (p :: ps) m = candS (numC (cutP p).1) (numC (cutP p).2) fun a b => candP ps (orRun m (a, b)) := by
  unfold candS
  rw [candP]
  cases numC (cutP p).1 <;> cases numC (cutP p).2 <;> rfl
/-- what number hands back, by its answer -/
def NumO (o : Option Nat) (w : World) (e : Ending) (w' : World) : Prop := ∃ v : Int, e = .returned (.tuple #[.int .i64 v, .bool o.isSome]) ∧ (∀ n : Nat, o = some n → v = n) ∧ Below w.heap.size w w'
theorem number_o (t : List Nat) (o : Option Nat) (ho : numC t = o) (hb : ∀ x ∈ t, x < 256) (hm : t.length ≤ 140737488351232) (w : World) (hE : EVar w) :
    Calls Tryd.prog 45 #[.string (strB t)] w (NumO o w) := by
  subst ho
  exact number_any t hb hm w hE
/-- what the cut of a piece gives -/
theorem cut_any (p : List Nat) (hb : ∀ x ∈ p, x < 256) (hm : p.length ≤ 4294967280) (M : Int) (w : World) (hc : w.cell? ⟨0, 0, none⟩ = some (.int .i64 M)) :
    Calls Tryd.prog 44 #[.string (strB p), .string { data := #[45] }] w fun e w' => ∃ (f t : List Nat) (q : Bool), e = .returned (.tuple #[.string (strB f), .string (strB t), .bool q]) ∧ cutP p = (f, if q then t else f) ∧ Below w.heap.size w w' := by
  refine (Tryd.strings_Cut (strB p) { data := #[45] } M w (by rw [strB_size]; omega) hc).mono ?_
  rintro e w' ⟨rfl, n, rfl⟩
  have h := cut_lib p hb
  rw [strB_data]
  show ∃ (f t : List Nat) (q : Bool), Ending.returned (.tuple #[.string ⟨(Lib.cut (p.map UInt8.ofNat) [45]).1.toArray⟩, .string ⟨(Lib.cut (p.map UInt8.ofNat) [45]).2.1.toArray⟩, .bool (Lib.cut (p.map UInt8.ofNat) [45]).2.2]) = _ ∧ _
  rw [h]
  unfold cutP
  by_cases h45 : 45 ∈ p
  · simp only [if_pos h45]
    exact ⟨_, _, true, by rw [strB_mk _ _ rfl, strB_mk _ _ rfl], rfl, below_drewN (Below.refl _ _) _⟩
  · simp only [if_neg h45]
    exact ⟨p, [], false, by rw [strB_mk _ _ rfl, strB_mk _ _ (show ([] : List UInt8) = List.map UInt8.ofNat [] from rfl)], rfl, below_drewN (Below.refl _ _) _⟩
set_option linter.unusedSimpArgs false in
set_option linter.unusedVariables false in
set_option maxRecDepth 100000 in
set_option maxHeartbeats 4000000 in
theorem parse_any (ss : List Nat) (hb : ∀ x ∈ ss, x < 256) (hm : ss.length ≤ 4294967200) (M0 : Int) (w : World) (hE : EVar w) (hc : w.cell? ⟨0, 0, none⟩ = some (.int .i64 M0)) :
    Calls Tryd.prog 32 #[.string (strB ss)] w fun e w' => e = .returned (.tuple #[.int .u64 ((prsC ss).1 : Nat), .int .i64 (prsC ss).2]) ∧ Below w.heap.size w w' := by
  have hsz := strB_size ss
  obtain ⟨⟨A, C⟩, hP⟩ : ∃ p, prsC ss = p := ⟨_, rfl⟩
  rw [hP]
  simp only
  have hans : ansM ss (candP (spl ss) 0) = (A, C) := hP
  have hsp := Tryd.strings_Split (strB ss) { data := #[44] } M0 w (by rw [hsz]; omega) hc (by decide)
  rw [splitB_spl ss hb, spl_len_count ss hb] at hsp
  have hlen := spl_len_le ss
  have hpb : ∀ p ∈ spl ss, (∀ x ∈ p, x < 256) ∧ p.length ≤ 4294967280 := fun p hp => ⟨fun x hx => hb x (spl_mem ss p hp x hx), Nat.le_trans (spl_piece_len ss p hp) (by omega)⟩
  obtain ⟨l, hl⟩ : ∃ l, spl ss = l := ⟨_, rfl⟩
  rw [hl] at hans hsp hlen hpb
  obtain ⟨L, hL⟩ : ∃ L, l.length = L := ⟨_, rfl⟩
  rw [hL] at hsp hlen
  obtain ⟨n, hn⟩ : ∃ n, ss.length = n := ⟨_, rfl⟩
  rw [hn] at hsz hm hlen
  have HSP := Lib.hid hsp
  have HANS := Lib.hid hans
  have HPB := Lib.hid hpb
  have HL := Lib.hid hL
  have HB := Lib.hid hb
  have HSZ := Lib.hid hsz
  clear hsp hans hpb hL hl hP hb hn hsz
  go_enter Tryd.func32, Tryd.ntmps32
  go_wp2_with fail
  refine HSP.out.mono ?_
  rintro e w1' ⟨rfl, hw1⟩
  have hB1 : Below w.heap.size w w1' := by rw [hw1]; exact (Below.refl _ _).alloc (Nat.le_refl _) _
  have hcell : ∀ (k : Nat) (p : List Nat), l[k]? = some p → w1'.cell? ⟨w.heap.size, k, none⟩ = some (.string (strB p)) := by
    intro k p hk
    rw [hw1]
    have := cellNew w (((l.map strB).map Value.string).toArray) 9 k (.string (strB p)) (by simp [hk])
    exact this
  have hsz1 : w.heap.size < w1'.heap.size := by rw [hw1]; simp
  have hE1 := hE.below hB1
  have hc1 := kc hc hB1
  have HCELL := Lib.hid hcell
  have HE := Lib.hid hE1
  have HC := Lib.hid hc1
  have HB1 := Lib.hid hB1
  obtain ⟨B0, hB0⟩ : ∃ B0, w.heap.size = B0 := ⟨_, rfl⟩
  rw [hB0] at HCELL hsz1 ⊢
  have HB0 := Lib.hid hB0
  clear hw1 hcell hE hc hE1 hc1 hB1 HSP hB0
  go_wp2
  go_loopw [2, 3, 4, 6, 7, 8, 9, 10, 11, 12, 13, 14, 18] (fun _ _ m _ _ _ _ _ _ _ _ _ i wr => ∃ k M : Nat, i = .int .i64 k ∧ k ≤ L ∧ m = .int .u64 M ∧ M < 137438953472 ∧ Hid (candP l 0 = candP (l.drop k) M) ∧ Below w1'.heap.size w1' wr) (fun _ _ _ _ _ _ _ _ _ _ _ _ i _ => L - (intOf i).toNat)
  case atStart => exact ⟨0, 0, by simp, Nat.zero_le _, by simp, by omega, Lib.hid rfl, Below.refl _ _⟩
  case round =>
    obtain ⟨k, M, rfl, hk, rfl, hMl, hM, hB⟩ := hrel
    by_cases hlt : k < L
    · have g2 : decide (k < L) = true := by simpa using hlt
      have hkl : k < l.length := by rw [HL.out]; exact hlt
      have hd := List.drop_eq_getElem_cons hkl
      obtain ⟨hpb, hpl⟩ := HPB.out _ (List.getElem_mem hkl)
      have q1 := (hB.cell (p := ⟨B0, k, none⟩) hsz1).trans (HCELL.out k l[k] (List.getElem?_eq_getElem hkl))
      obtain ⟨p, hp⟩ : ∃ p, l[k] = p := ⟨_, rfl⟩
      rw [hp] at hd hpb hpl q1
      have hcand := hM.out
      rw [hd, candP_cons] at hcand
      have hcm := cutP_mem p hpb
      have hEr := HE.out.below hB
      have hcr := kc HC.out hB
      have hcut := cut_any p hpb hpl M0 wr hcr
      have w1 : IntKind.i64.wrap ((k : Int) + 1) = (k : Int) + 1 := IntWalk.i64_in _ (by omega)
      have HCUT := Lib.hid hcut
      have HCAND := Lib.hid hcand
      have HCM := Lib.hid hcm
      have HEr := Lib.hid hEr
      have hBw := HB1.out.trans (hB.mono HB1.out.size)
      have HBW := Lib.hid hBw
      have HBR := Lib.hid hB
      clear hd hp hcand hcm hcut hcr hEr hM hkl hpb hBw hB
      go_wp2_with fail
      refine HCUT.out.mono ?_
      rintro e w2 ⟨f, t, q, rfl, hcp, hB2⟩
      have hE2 := HEr.out.below hB2
      have hBw2 := HBW.out.trans (hB2.mono HBW.out.size)
      have hBr2 := HBR.out.trans (hB2.mono HBR.out.size)
      have hcm := HCM.out
      have hcand := HCAND.out
      rw [hcp] at hcm hcand
      simp only at hcm hcand
      obtain ⟨hf1, ht1, hf2, ht2⟩ := hcm
      obtain ⟨t', htt⟩ : ∃ t', (if q then t else f) = t' := ⟨_, rfl⟩
      rw [htt] at hcand ht1 ht2
      obtain ⟨o1, ho1⟩ : ∃ o, numC f = o := ⟨_, rfl⟩
      obtain ⟨o2, ho2⟩ : ∃ o, numC t' = o := ⟨_, rfl⟩
      have hn1 := number_o f o1 ho1 hf1 (by omega) w2 hE2
      have hn2 := fun W (hW : Below w2.heap.size w2 W) => number_o t' o2 ho2 ht1 (by omega) W (hE2.below hW)
      rw [ho1, ho2] at hcand
      have hlo1 : ∀ a, o1 = some a → a < 37 := fun a ha => numC_lt f a (by rw [ho1, ha])
      have hlo2 : ∀ a, o2 = some a → a < 37 := fun a ha => numC_lt t' a (by rw [ho2, ha])
      have HLO1 := Lib.hid hlo1
      have HLO2 := Lib.hid hlo2
      have HN1 := Lib.hid hn1
      have HN2 := Lib.hid hn2
      have HCA := Lib.hid hcand
      have HBW2 := Lib.hid hBw2
      have HBR2 := Lib.hid hBr2
      have HTT := Lib.hid htt
      clear hn1 hn2 hcand hcp hE2 hf1 ht1 hf2 ht2 HCUT HCAND HCM HEr HBW HBR hBw2 hBr2 hB2 htt ho1 ho2 hlo1 hlo2
      cases q
      all_goals
        have htt := HTT.out
        simp only [Bool.false_eq_true, if_false, if_true] at htt
        subst htt
        clear HTT
        go_wp2_with fail
        refine HN1.out.mono ?_
        rintro e w3 ⟨v1, rfl, hv1, hB3⟩
        have HV1 := Lib.hid hv1
        have HB3 := Lib.hid hB3
        have hn2 := HN2.out w3 hB3
        have HN3 := Lib.hid hn2
        clear hv1 hB3 hn2 HN2
        go_wp2_with fail
        refine HN3.out.mono ?_
        rintro e w4 ⟨v2, rfl, hv2, hB4⟩
        have hBw4 := HBW2.out.trans (HB3.out.mono HBW2.out.size)
        have hBw5 := hBw4.trans (hB4.mono hBw4.size)
        have hBr4 := HBR2.out.trans (HB3.out.mono HBR2.out.size)
        have hBr5 := hBr4.trans (hB4.mono hBr4.size)
        have hv1 := HV1.out
        have hcand := HCA.out
        have HBW5 := Lib.hid hBw5
        have HBR5 := Lib.hid hBr5
        clear hBw4 hBw5 hBr4 hBr5 hB4 HB3 HBW2 HBR2 HV1 HCA HN3 HN1
        rcases o1 with _ | a
        · rw [candS_no _ _ _ (.inl rfl)] at hcand
          have hans := HANS.out
          rw [hcand] at hans
          simp only [ansM, Prod.mk.injEq] at hans
          obtain ⟨rfl, rfl⟩ := hans
          clear hcand hv1 hv2 HANS
          simp only [Option.isSome_none]
          go_wp2
          go_ret2
          exact ⟨rfl, HBW5.out⟩
        have hv1 := hv1 a rfl
        have ha37 := HLO1.out a rfl
        subst hv1
        simp only [Option.isSome_some]
        rcases o2 with _ | b
        · rw [candS_no _ _ _ (.inr rfl)] at hcand
          have hans := HANS.out
          rw [hcand] at hans
          simp only [ansM, Prod.mk.injEq] at hans
          obtain ⟨rfl, rfl⟩ := hans
          clear hcand hv2 HANS
          simp only [Option.isSome_none]
          go_wp2
          go_ret2
          exact ⟨rfl, HBW5.out⟩
        have hv2 := hv2 b rfl
        have hb37 := HLO2.out b rfl
        subst hv2
        have hcand : candP l 0 = candP (l.drop (k + 1)) (orTo M a (b + 1 - a)) := hcand
        have HCA := Lib.hid hcand
        clear hcand HLO1 HLO2
        simp only [Option.isSome_some]
        go_wp2
        obtain ⟨wf, rfl⟩ : ∃ wf : World, wf = w4 := ⟨_, rfl⟩
        go_loop [4, 14] (fun m c => ∃ j : Nat, c = .int .i64 ((a + j : Nat) : Int) ∧ (j = 0 ∨ a + j ≤ b + 1) ∧ m = .int .u64 (orTo M a j : Nat)) (fun _ c => 200 - (intOf c).toNat)
        case atStart => exact ⟨0, by simp, .inl rfl, by simp [orTo]⟩
        case round =>
          obtain ⟨j, rfl, hj, rfl⟩ := hrel
          have hO : orTo M a j < 137438953472 := by
            rcases hj with rfl | hj
            · exact hMl
            · exact orTo_lt M a (by simpa using hMl) j (by omega)
          obtain ⟨O, hOO⟩ : ∃ O, orTo M a j = O := ⟨_, rfl⟩
          obtain ⟨c, hc⟩ : ∃ c, a + j = c := ⟨_, rfl⟩
          rw [hc]
          rw [hOO] at hO ⊢
          have hstp : orTo M a (j + 1) = O ||| 2 ^ c := by rw [orTo, hOO, hc]
          by_cases hle : c ≤ b
          · have t1 : decide (c ≤ b) = true := by simpa using hle
            have t1' : decide ((c : Int) ≤ (b : Int)) = true := by simp; omega
            have hc37 : c < 37 := by omega
            have w5 : IntKind.i64.wrap ((c : Int) + 1) = (c : Int) + 1 := IntWalk.i64_in _ (by omega)
            have w6 := shl_one c hc37
            have hp : 2 ^ c ≤ 2 ^ 36 := Nat.pow_le_pow_right (by decide) (by omega)
            have h36 : (2 : Nat) ^ 36 = 68719476736 := by decide
            have ho := u64_or_nat O (2 ^ c) (by omega) (by omega)
            have hp0 : (1 : Int) * 2 ^ ((c : Int)).toNat = ((2 ^ c : Nat) : Int) := by simp
            rw [hp0] at w6
            have hpc : (2 : Int) ^ c = ((2 ^ c : Nat) : Int) := by simp
            obtain ⟨Pw, hPw⟩ : ∃ P, 2 ^ c = P := ⟨_, rfl⟩
            rw [hPw] at hstp ho hp0 w6 hp hpc
            rw [← hstp] at ho
            have hnx : ((a + (j + 1) : Nat) : Int) = (c : Int) + 1 := by omega
            have HNX := Lib.hid hnx
            have hj1 : a + (j + 1) ≤ b + 1 := by omega
            clear hle hc hnx hOO hPw h36 hstp
            go_wp2
            refine ⟨⟨j + 1, by rw [HNX.out], .inr hj1, rfl⟩, ?_⟩
            simp [intOf]
            omega
          · have hfin : orTo M a (b + 1 - a) = O := by
              rw [← hOO]
              rcases hj with rfl | hj
              · rw [show b + 1 - a = 0 by omega]
              · rw [show b + 1 - a = j by omega]
            have HFIN : Hid (candP l 0 = candP (l.drop (k + 1)) O) := Lib.hid (by rw [HCA.out, hfin])
            have t1 : decide (c ≤ b) = false := by simpa using hle
            have t1' : decide ((c : Int) ≤ (b : Int)) = false := by simp; omega
            clear hfin hstp hOO hc hle
            go_wp2
            refine ⟨⟨k + 1, O, by simp, hlt, rfl, hO, HFIN, HBR5.out⟩, ?_⟩
            simp [intOf]
            omega
    · obtain rfl : k = L := by omega
      have g2 : decide (k < k) = false := by simp
      have hc := hM.out
      rw [List.drop_of_length_le (by rw [HL.out]; exact Nat.le_refl _)] at hc
      have hans := HANS.out
      rw [hc] at hans
      simp only [candP] at hans
      rw [ansM_some] at hans
      have hBw := HB1.out.trans (hB.mono HB1.out.size)
      have htx := fun W => text_any M (by omega) W
      have hck := fun W => check_any M (by omega) W
      obtain ⟨T, hT⟩ : ∃ T, tx M = T := ⟨_, rfl⟩
      have hTb : ∀ x ∈ T, x < 256 := by rw [← hT]; exact tx_lt M
      rw [hT] at hans
      simp only [hT] at htx
      obtain ⟨q, hq⟩ : ∃ q, decide (T = ss) = q := ⟨_, rfl⟩
      have hq1 := strB_beqL T ss hTb HB.out
      have hq2 := strB_beq T ss hTb HB.out
      rw [hq] at hq1 hq2
      have hq3 : ((strB T).toList != (strB ss).toList) = !q := by rw [← hq1]; rfl
      have hq4 : (strB T != strB ss) = !q := by rw [← hq2]; rfl
      obtain ⟨ck, hck'⟩ : ∃ ck, chk M = ck := ⟨_, rfl⟩
      simp only [hck'] at hck
      rw [hck'] at hans
      have HTX := Lib.hid htx
      have HCK := Lib.hid hck
      have HBW := Lib.hid hBw
      clear hM hc hck' htx hck hT hTb HANS hBw hB HB1
      by_cases hck0 : ck = 0
      · subst hck0
        simp only [true_and] at hans
        cases q
        · have hne : ¬ T = ss := by simpa using hq
          rw [if_neg hne] at hans
          simp only [Prod.mk.injEq] at hans
          obtain ⟨rfl, rfl⟩ := hans
          clear hne hq
          go_wp2_with fail
          refine (HCK.out _).mono ?_
          rintro e w4 ⟨rfl, rfl⟩
          go_wp2_with fail
          refine (HTX.out _).mono ?_
          rintro e w4 ⟨rfl, hB4⟩
          have hBf := HBW.out.trans (hB4.mono HBW.out.size)
          clear hB4 HBW
          go_wp2
          go_ret2
          exact ⟨rfl, hBf⟩
        · have heq : T = ss := by simpa using hq
          rw [if_pos heq] at hans
          simp only [Prod.mk.injEq] at hans
          obtain ⟨rfl, rfl⟩ := hans
          clear heq hq
          go_wp2_with fail
          refine (HCK.out _).mono ?_
          rintro e w4 ⟨rfl, rfl⟩
          go_wp2_with fail
          refine (HTX.out _).mono ?_
          rintro e w4 ⟨rfl, hB4⟩
          have hBf := HBW.out.trans (hB4.mono HBW.out.size)
          clear hB4 HBW
          go_wp2
          go_ret2
          exact ⟨rfl, hBf⟩
      · rw [if_neg (fun h => hck0 h.1)] at hans
        simp only [Prod.mk.injEq] at hans
        obtain ⟨rfl, rfl⟩ := hans
        have t5 : (ck == 0) = false := by simpa using hck0
        have t6 : (ck != 0) = true := by simpa using hck0
        clear hq
        go_wp2_with fail
        refine (HCK.out _).mono ?_
        rintro e w4 ⟨rfl, rfl⟩
        go_wp2
        go_ret2
        exact ⟨rfl, HBW.out⟩
end Go.Proofs.YtoaiiceglfmfcaaDoor
