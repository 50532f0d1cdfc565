/- chanmap: Parse of the reference. -/
import Derived.Test.YtoaiiceglfmfcaaDoorCtI
import Derived.Test.YtoaiiceglfmfcaaDoorRefB
namespace Go.Proofs.YtoaiiceglfmfcaaDoor
open Go.RowKit

/-- the first channel of number k -/
def frs (l : List (Nat × Bool)) (k : Nat) : Nat := if (l.getD k (0, false)).2 = true ∧ 0 < k then (l.getD (k - 1) (0, false)).1 else (l.getD k (0, false)).1
/-- the map of the first k numbers -/
def mapK (l : List (Nat × Bool)) (k : Nat) : Nat := ((l.take k).foldl mapS (none, 0)).2
theorem mapS_prev (l : List (Nat × Bool)) : ∀ k, k ≤ l.length → ((l.take k).foldl mapS (none, 0)).1 = if k = 0 then none else some (l.getD (k - 1) (0, false)).1
  | 0, _ => rfl
  | k+1, h => by
    rw [List.take_succ_eq_append_getElem (by omega), List.foldl_append]
    simp only [List.foldl_cons, List.foldl_nil, mapS]
    rw [if_neg (by omega), Nat.add_sub_cancel, List.getD_eq_getElem?_getD, List.getElem?_eq_getElem (by omega)]
    rfl
theorem mapK_succ (l : List (Nat × Bool)) (k : Nat) (h : k < l.length) : mapK l (k + 1) = orRun (mapK l k) (frs l k, min (l.getD k (0, false)).1 36) := by
  have hp := mapS_prev l k (by omega)
  have hg : l.getD k (0, false) = l[k] := by rw [List.getD_eq_getElem?_getD, List.getElem?_eq_getElem h]; rfl
  unfold mapK
  rw [List.take_succ_eq_append_getElem h, List.foldl_append]
  simp only [List.foldl_cons, List.foldl_nil]
  generalize (l.take k).foldl mapS (none, 0) = st at hp ⊢
  obtain ⟨p, M⟩ := st
  simp only at hp
  subst hp
  unfold mapS frs
  rw [hg]
  simp only
  by_cases hk : k = 0
  · subst hk
    simp
  · rw [if_neg hk]
    simp only
    cases l[k].2 <;> simp [Nat.pos_of_ne_zero hk]
theorem mapK_lt (l : List (Nat × Bool)) (k : Nat) : mapK l k < 137438953472 := mapS_lt _ _ (by decide)
theorem nums_bd (ss : List Nat) : (nums ss).length ≤ ss.length + 1 ∧ ∀ p ∈ nums ss, p.1 < 100 := by
  obtain ⟨h1, _, h3, h4⟩ := numsTo_bd ss
  unfold nums
  refine ⟨?_, numS_acc _ _ h4 h1⟩
  unfold numS
  split
  · omega
  · simp only
    split
    · rw [List.length_append, List.length_singleton]; omega
    · omega
theorem frs_lt (l : List (Nat × Bool)) (k : Nat) (h : ∀ p ∈ l, p.1 < 100) : frs l k < 100 := by
  have hg : ∀ j, (l.getD j (0, false)).1 < 100 := fun j => by
    rw [List.getD_eq_getElem?_getD]
    cases hj : l[j]? with
    | none => decide
    | some p => exact h p (List.mem_of_getElem? hj)
  unfold frs
  split
  · exact hg _
  · exact hg _
theorem or_set (m c : Nat) (h : m.testBit c = true) : m ||| 2 ^ c = m := by
  apply Nat.eq_of_testBit_eq
  intro i
  rw [Nat.testBit_or, Nat.testBit_two_pow]
  by_cases e : c = i
  · subst e; simp [h]
  · simp [e]
theorem or_new (m c : Nat) (hm : m < 137438953472) (hc : c < 37) (h : m.testBit c = false) : m ||| 2 ^ c = m + 2 ^ c := by
  have hd : m &&& 2 ^ c = 0 := by
    apply Nat.eq_of_testBit_eq
    intro i
    rw [Nat.testBit_and, Nat.testBit_two_pow]
    by_cases e : c = i
    · subst e; simp [h]
    · simp [e]
  have hp : 2 ^ c ≤ 2 ^ 36 := Nat.pow_le_pow_right (by decide) (by omega)
  have e1 : m % 2 ^ 64 = m := Nat.mod_eq_of_lt (by omega)
  have e2 : 2 ^ c % 2 ^ 64 = 2 ^ c := Nat.mod_eq_of_lt (by omega)
  have e3 : (m + 2 ^ c) % 2 ^ 64 = m + 2 ^ c := Nat.mod_eq_of_lt (by omega)
  have h0 : (BitVec.ofNat 64 m &&& BitVec.ofNat 64 (2 ^ c)) = 0#64 := by
    apply BitVec.eq_of_toNat_eq
    rw [BitVec.toNat_and, BitVec.toNat_ofNat, BitVec.toNat_ofNat, e1, e2, hd]
    rfl
  have := congrArg BitVec.toNat (BitVec.add_eq_or_of_and_eq_zero _ _ h0)
  rw [BitVec.toNat_add, BitVec.toNat_or, BitVec.toNat_ofNat, BitVec.toNat_ofNat, e1, e2, e3] at this
  exact this.symm

set_option linter.unusedSimpArgs false in
set_option linter.unusedVariables false in
set_option maxRecDepth 100000 in
set_option maxHeartbeats 4000000 in
theorem rparse_any (ss : List Nat) (hb : ∀ x ∈ ss, x < 256) (hm : ss.length ≤ 140737488351232) (w : World) :
    Calls Tryd.prog 33 #[.string (strB ss)] w fun e w' => e = .returned (.tuple #[.int .u64 ((prsR ss).1 : Nat), .int .i64 (prsR ss).2]) ∧ Below w.heap.size w w' := by
  have hsz := strB_size ss
  obtain ⟨⟨A, C⟩, hP⟩ : ∃ p, prsR ss = p := ⟨_, rfl⟩
  rw [hP]
  simp only
  have hans : ansM ss (if 120 < ss.length then none else some (candR ss)) = (A, C) := hP
  by_cases h120 : 120 < ss.length
  · rw [if_pos h120] at hans
    simp only [ansM, Prod.mk.injEq] at hans
    obtain ⟨rfl, rfl⟩ := hans
    obtain ⟨n, hn⟩ : ∃ n, ss.length = n := ⟨_, rfl⟩
    rw [hn] at hsz hm h120
    have g1 : decide (120 < n) = true := by simpa using h120
    clear hP hn
    go_enter Tryd.func33, Tryd.ntmps33
    go_wp2
    go_ret2
    exact ⟨rfl, Below.refl _ _⟩
  · rw [if_neg h120, ansM_some] at hans
    have hnum := fun W => rnumbers_any ss hb (by omega) W
    obtain ⟨hlen, hbd⟩ := nums_bd ss
    have hcand : candR ss = mapK (nums ss) (nums ss).length := by unfold candR mapK; rw [List.take_length]
    obtain ⟨l, hl⟩ : ∃ l, nums ss = l := ⟨_, rfl⟩
    rw [hl] at hlen hbd hcand
    simp only [hl] at hnum
    obtain ⟨n, hn⟩ : ∃ n, ss.length = n := ⟨_, rfl⟩
    rw [hn] at hsz hm h120 hlen
    have g1 : decide (120 < n) = false := by simpa using h120
    have HNUM := Lib.hid hnum
    have HANS := Lib.hid hans
    have HCAND := Lib.hid hcand
    have HBD := Lib.hid hbd
    have HB := Lib.hid hb
    clear hnum hans hcand hbd hb hl hP hn
    go_enter Tryd.func33, Tryd.ntmps33
    go_wp2_with fail
    refine (HNUM.out _).mono ?_
    rintro e w1 ⟨v1, v2, rfl, ho1, ho2, hB1⟩
    have s1 := SR.of_own ho1 (fun u hu => by unfold ncl at hu; obtain ⟨p, _, rfl⟩ := List.mem_map.1 hu; rfl) (by unfold maxLen; omega)
    have s2 := SR.of_own ho2 (fun u hu => by unfold bcl at hu; obtain ⟨p, _, rfl⟩ := List.mem_map.1 hu; rfl) (by unfold maxLen; omega)
    obtain ⟨_, _, _, a1, c1, rfl, _, hc1⟩ := s1
    obtain ⟨_, _, _, a2, c2, rfl, _, hc2⟩ := s2
    obtain ⟨L, hL⟩ : ∃ L, l.length = L := ⟨_, rfl⟩
    rw [hL] at hlen hc1 hc2
    rw [hL]
    have HL := Lib.hid hL
    have HC1 := Lib.hid hc1
    have HC2 := Lib.hid hc2
    have HB1 := Lib.hid hB1
    clear ho1 ho2 hc1 hc2 hL hB1
    go_wp2
    go_loopw [6, 7, 8, 9] (fun m i _ _ wr => ∃ k M : Nat, i = .int .i64 k ∧ k ≤ L ∧ m = .int .u64 M ∧ Hid (mapK l k = M) ∧ Below w1.heap.size w1 wr) (fun _ i _ _ _ => L - (intOf i).toNat)
    case atStart => exact ⟨0, 0, by simp, Nat.zero_le _, by simp, Lib.hid rfl, Below.refl _ _⟩
    case round =>
      obtain ⟨k, M, rfl, hk, rfl, hM, hB⟩ := hrel
      have w1' : IntKind.i64.wrap ((k : Int) + 1) = (k : Int) + 1 := IntWalk.i64_in _ (by omega)
      by_cases hlt : k < L
      · have g2 : decide (k < L) = true := by simpa using hlt
        have hkl : k < l.length := by rw [HL.out]; exact hlt
        obtain ⟨b1, o1, rfl, hb1, hcell1⟩ := HC1.out (by omega)
        obtain ⟨b2, o2, rfl, hb2, hcell2⟩ := HC2.out (by omega)
        have hgk : l.getD k (0, false) = l[k] := by rw [List.getD_eq_getElem?_getD, List.getElem?_eq_getElem hkl]; rfl
        have hstep := mapK_succ l k hkl
        rw [hM.out] at hstep
        have hF := frs_lt l k HBD.out
        have q1 := hcell1 k (.int .i64 ((l.getD k (0, false)).1 : Nat)) (by simp [ncl, List.getElem?_eq_getElem hkl])
        have q2 := hcell2 k (.bool (l.getD k (0, false)).2) (by simp [bcl, List.getElem?_eq_getElem hkl])
        have hX : (l.getD k (0, false)).1 < 100 := by rw [hgk]; exact HBD.out _ (List.getElem_mem hkl)
        have hcase : ((l.getD k (0, false)).2 = false ∧ frs l k = (l.getD k (0, false)).1) ∨ ((l.getD k (0, false)).2 = true ∧ k = 0 ∧ frs l k = (l.getD k (0, false)).1) ∨ ((l.getD k (0, false)).2 = true ∧ 0 < k ∧ w1.cell? ⟨b1, o1 + (k - 1), none⟩ = some (.int .i64 (frs l k : Nat))) := by
          cases he : (l.getD k (0, false)).2
          · exact .inl ⟨rfl, by unfold frs; rw [if_neg (fun h => by rw [he] at h; exact absurd h.1 (by decide))]⟩
          · by_cases h0 : k = 0
            · exact .inr (.inl ⟨rfl, h0, by unfold frs; rw [if_neg (by omega)]⟩)
            · refine .inr (.inr ⟨rfl, by omega, ?_⟩)
              have hpl : k - 1 < l.length := by omega
              have : frs l k = l[k - 1].1 := by
                unfold frs
                rw [if_pos ⟨he, by omega⟩, List.getD_eq_getElem?_getD, List.getElem?_eq_getElem hpl]
                rfl
              rw [this]
              exact hcell1 (k - 1) _ (by simp [ncl, List.getElem?_eq_getElem hpl])
        obtain ⟨F, hFF⟩ : ∃ F, frs l k = F := ⟨_, rfl⟩
        obtain ⟨⟨X, E⟩, hXE⟩ : ∃ p, l.getD k (0, false) = p := ⟨_, rfl⟩
        rw [hFF, hXE] at hstep hcase
        rw [hFF] at hF
        rw [hXE] at q1 q2 hX
        simp only at hstep hcase q1 q2 hX
        have hMl : M < 137438953472 := by rw [← hM.out]; exact mapK_lt _ _
        have hor : orRun M (F, min X 36) = orTo M F (min X 36 + 1 - F) := rfl
        rw [hor] at hstep
        have HSTEP := Lib.hid hstep
        have Q1 := Lib.hid q1
        have p1 := (hB.cell (p := ⟨b1, o1 + k, none⟩) hb1).trans q1
        have p2 := (hB.cell (p := ⟨b2, o2 + k, none⟩) hb2).trans q2
        have hBs := hB.size
        have hHB := Lib.hid hB
        clear hgk hcell1 hcell2 hFF hXE hkl hor hstep hM q1 q2
        rcases hcase with ⟨rfl, hx⟩ | ⟨rfl, hk0, hx⟩ | ⟨rfl, hk0, q3⟩
        all_goals
          first
          | (have p3 := (hB.cell (p := ⟨b1, o1 + (k - 1), none⟩) hb1).trans q3
             clear q3
             have g3 : decide (0 < k) = true := by simpa using hk0
             have g3' : decide ((0 : Int) < (k : Int)) = true := by simp; omega
             have w4 : IntKind.i64.wrap ((k : Int) - 1) = (k : Int) - 1 := IntWalk.i64_in _ (by omega))
          | (have g3 : decide (0 < k) = false := by simp; omega
             have g3' : decide ((0 : Int) < (k : Int)) = false := by simp; omega
             have HX := Lib.hid hx
             clear hk0 hx)
          | (have HX := Lib.hid hx
             clear hx)
          clear hB
          go_wp2
          obtain ⟨wf, rfl⟩ : ∃ wf : World, wf = wr := ⟨_, rfl⟩
          go_loopw [6, 9] (fun m c wr => ∃ j : Nat, c = .int .i64 ((F + j : Nat) : Int) ∧ (j = 0 ∨ F + j ≤ min X 36 + 1) ∧ m = .int .u64 (orTo M F j : Nat) ∧ Below w1.heap.size w1 wr) (fun _ c _ => 200 - (intOf c).toNat)
          case atStart => exact ⟨0, by first | (simp; done) | (have := HX.out; simp; omega), .inl rfl, by simp [orTo], hHB.out⟩
          case round =>
            obtain ⟨j, rfl, hj, rfl, hB⟩ := hrel
            have hBs2 := hB.size
            have p1 := (hB.cell (p := ⟨b1, o1 + k, none⟩) hb1).trans Q1.out
            have hO : orTo M F j < 137438953472 := by
              rcases hj with rfl | hj
              · exact hMl
              · exact orTo_lt M F (by simpa using hMl) j (by omega)
            obtain ⟨O, hOO⟩ : ∃ O, orTo M F j = O := ⟨_, rfl⟩
            obtain ⟨c, hc⟩ : ∃ c, F + j = c := ⟨_, rfl⟩
            rw [hc]
            rw [hOO] at hO ⊢
            have hstp : orTo M F (j + 1) = O ||| 2 ^ c := by rw [orTo, hOO, hc]
            by_cases hle : c ≤ X ∧ c ≤ 36
            · have t1 : decide (c ≤ X) = true := by simpa using hle.1
              have t2 : decide (c ≤ 36) = true := by simpa using hle.2
              have t1' : decide ((c : Int) ≤ (X : Int)) = true := by simp; omega
              have t2' : decide ((c : Int) ≤ 36) = true := by simp; omega
              have hc37 : c < 37 := by omega
              have w5 : IntKind.i64.wrap ((c : Int) + 1) = (c : Int) + 1 := IntWalk.i64_in _ (by omega)
              have hin := hasI_in O c hc37
              have hh := fun W => rhas_any O (by omega) (c : Int) W
              simp only [hin] at hh
              have hj1 : F + (j + 1) ≤ min X 36 + 1 := by omega
              have hnx : ((F + (j + 1) : Nat) : Int) = (c : Int) + 1 := by omega
              have HNX := Lib.hid hnx
              have HC := Lib.hid hc
              clear hle hin hc hnx hOO
              cases hb : O.testBit c
              · have hnew := or_new O c hO hc37 hb
                have hp : 2 ^ c ≤ 2 ^ 36 := Nat.pow_le_pow_right (by decide) (by omega)
                have h36 : (2 : Nat) ^ 36 = 68719476736 := by decide
                simp only [hb] at hh
                have hof := fun W b (hbb : World.cell? W ⟨b, 0, none⟩ = some (.int .i64 (c : Int))) => rof_one b 1 c hc37 W hbb
                obtain ⟨Pw, hPw⟩ : ∃ P, 2 ^ c = P := ⟨_, rfl⟩
                simp only [hPw] at hof
                rw [hPw] at hnew hp hstp
                rw [hnew] at hstp
                have w6 : IntKind.u64.wrap ((O : Int) + (Pw : Int)) = (O : Int) + (Pw : Int) := IntWalk.u64_in _ (by omega)
                have HH := Lib.hid hh
                have HOF := Lib.hid hof
                have HST := Lib.hid hstp
                have hB4 := hB.alloc hB.size (.cells #[.int .i64 (c : Int)] 3)
                clear hh hof hstp hnew hPw hb h36
                go_wp2_with fail
                refine (HH.out _).mono ?_
                rintro e w' ⟨rfl, rfl⟩
                go_wp2_with fail
                refine (HOF.out _ wr.heap.size ((Blk.new wr 3 [.int .i64 (c : Int)]).cell (j := 0) rfl)).mono ?_
                rintro e w' ⟨rfl, rfl⟩
                go_wp2
                refine ⟨⟨j + 1, by rw [HNX.out], .inr hj1, by rw [HST.out]; simp, hB4⟩, ?_⟩
                simp [intOf]
                omega
              · have hnew := or_set O c hb
                simp only [hb] at hh
                rw [hnew] at hstp
                have HH := Lib.hid hh
                have HST := Lib.hid hstp
                clear hh hstp hnew hb
                go_wp2_with fail
                refine (HH.out _).mono ?_
                rintro e w' ⟨rfl, rfl⟩
                go_wp2
                refine ⟨⟨j + 1, by rw [HNX.out], .inr hj1, by rw [HST.out], hB⟩, ?_⟩
                simp [intOf]
                omega
            · have hfin : mapK l (k + 1) = O := by
                rw [HSTEP.out, ← hOO]
                rcases hj with rfl | hj
                · rw [show min X 36 + 1 - F = 0 by omega]
                · rw [show min X 36 + 1 - F = j by omega]
              have HFIN := Lib.hid hfin
              clear hfin hstp hOO hc
              by_cases hX' : c ≤ X
              · have t1 : decide (c ≤ X) = true := by simpa using hX'
                have t2 : decide (c ≤ 36) = false := by simp; omega
                have t1' : decide ((c : Int) ≤ (X : Int)) = true := by simp; omega
                have t2' : decide ((c : Int) ≤ 36) = false := by simp; omega
                clear hle
                go_wp2
                refine ⟨⟨k + 1, O, by simp, hlt, rfl, HFIN, hB⟩, ?_⟩
                simp [intOf]
                omega
              · have t1 : decide (c ≤ X) = false := by simpa using hX'
                have t1' : decide ((c : Int) ≤ (X : Int)) = false := by simp; omega
                clear hle
                go_wp2
                refine ⟨⟨k + 1, O, by simp, hlt, rfl, HFIN, hB⟩, ?_⟩
                simp [intOf]
                omega
      · obtain rfl : k = L := by omega
        have g2 : decide (k < k) = false := by simp
        have hMl : M < 137438953472 := by rw [← hM.out]; exact mapK_lt _ _
        have hc := HCAND.out
        rw [HL.out, hM.out] at hc
        have hans := HANS.out
        rw [hc] at hans
        have hBw := HB1.out.trans (hB.mono HB1.out.size)
        have htx := fun W => rtext_any M (by omega) W
        have hck := fun W => rcheck_any M (by omega) W
        obtain ⟨T, hT⟩ : ∃ T, tx M = T := ⟨_, rfl⟩
        have hTb : ∀ x ∈ T, x < 256 := by rw [← hT]; exact tx_lt M
        rw [hT] at hans
        simp only [hT] at htx
        obtain ⟨q, hq⟩ : ∃ q, decide (T = ss) = q := ⟨_, rfl⟩
        have hq1 := strB_beqL T ss hTb HB.out
        have hq2 := strB_beq T ss hTb HB.out
        rw [hq] at hq1 hq2
        have hq3 : ((strB T).toList != (strB ss).toList) = !q := by rw [← hq1]; rfl
        have hq4 : (strB T != strB ss) = !q := by rw [← hq2]; rfl
        obtain ⟨ck, hck'⟩ : ∃ ck, chk M = ck := ⟨_, rfl⟩
        simp only [hck'] at hck
        rw [hck'] at hans
        have HTX := Lib.hid htx
        have HCK := Lib.hid hck
        have HBW := Lib.hid hBw
        clear hM hc hck' htx hck hT hTb HANS hBw hB HB1 HC1 HC2
        cases q
        · have hne : ¬ T = ss := by simpa using hq
          rw [if_neg (fun h => hne h.2)] at hans
          simp only [Prod.mk.injEq] at hans
          obtain ⟨rfl, rfl⟩ := hans
          clear hne hq
          go_wp2_with fail
          refine (HTX.out _).mono ?_
          rintro e w4 ⟨rfl, hB4⟩
          have hBf := HBW.out.trans (hB4.mono HBW.out.size)
          clear hB4 HBW
          go_wp2
          go_ret2
          exact ⟨rfl, hBf⟩
        · have heq : T = ss := by simpa using hq
          simp only [heq, and_true] at hans
          clear heq hq
          by_cases hck0 : ck = 0
          · rw [if_pos hck0] at hans
            simp only [Prod.mk.injEq] at hans
            obtain ⟨rfl, rfl⟩ := hans
            subst hck0
            go_wp2_with fail
            refine (HTX.out _).mono ?_
            rintro e w4 ⟨rfl, hB4⟩
            have hBf := HBW.out.trans (hB4.mono HBW.out.size)
            clear hB4 HBW
            go_wp2_with fail
            refine (HCK.out _).mono ?_
            rintro e w5 ⟨rfl, hB5⟩
            have hBg := hBf.trans (hB5.mono hBf.size)
            clear hB5 hBf
            go_wp2
            go_ret2
            exact ⟨rfl, hBg⟩
          · rw [if_neg hck0] at hans
            simp only [Prod.mk.injEq] at hans
            obtain ⟨rfl, rfl⟩ := hans
            have t5 : (ck == 0) = false := by simpa using hck0
            have t6 : (ck != 0) = true := by simpa using hck0
            go_wp2_with fail
            refine (HTX.out _).mono ?_
            rintro e w4 ⟨rfl, hB4⟩
            have hBf := HBW.out.trans (hB4.mono HBW.out.size)
            clear hB4 HBW
            go_wp2_with fail
            refine (HCK.out _).mono ?_
            rintro e w5 ⟨rfl, hB5⟩
            have hBg := hBf.trans (hB5.mono hBf.size)
            clear hB5 hBf
            go_wp2
            go_ret2
            exact ⟨rfl, hBg⟩
end Go.Proofs.YtoaiiceglfmfcaaDoor
