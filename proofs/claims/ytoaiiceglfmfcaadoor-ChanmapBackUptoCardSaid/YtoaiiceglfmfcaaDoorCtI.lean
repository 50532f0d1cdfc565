/- chanmap: the reference's numbers of a text. -/
import Derived.Test.YtoaiiceglfmfcaaDoorCtH
namespace Go.Proofs.YtoaiiceglfmfcaaDoor
open Go.RowKit

theorem numS_bd (st : Nat × Nat × Bool × List (Nat × Bool)) (c : Nat) : (numS st c).1 < 100 := by
  unfold numS
  split
  · exact Nat.mod_lt _ (by decide)
  · exact (by decide : (0 : Nat) < 100)
theorem numS_acc (st : Nat × Nat × Bool × List (Nat × Bool)) (c : Nat) (h : ∀ p ∈ st.2.2.2, p.1 < 100) (h0 : st.1 < 100) : ∀ p ∈ (numS st c).2.2.2, p.1 < 100 := by
  unfold numS
  split
  · exact h
  · simp only
    split
    · intro p hp
      rcases List.mem_append.1 hp with hp | hp
      · exact h p hp
      · simp only [List.mem_singleton] at hp; subst hp; exact h0
    · exact h
theorem numsTo_snoc (ss : List Nat) (c : Nat) : numsTo (ss ++ [c]) = numS (numsTo ss) c := by
  unfold numsTo
  rw [List.foldl_append]
  rfl
theorem numsTo_bd (ss : List Nat) : (numsTo ss).1 < 100 ∧ (numsTo ss).2.1 ≤ ss.length ∧ (numsTo ss).2.2.2.length ≤ ss.length ∧ ∀ p ∈ (numsTo ss).2.2.2, p.1 < 100 := by
  induction h : ss.length generalizing ss with
  | zero =>
    obtain rfl : ss = [] := List.eq_nil_of_length_eq_zero h
    exact ⟨by decide, by decide, by decide, fun p hp => by cases hp⟩
  | succ n ih =>
    obtain ⟨l, c, rfl⟩ : ∃ l c, ss = l ++ [c] := ⟨ss.dropLast, ss.getLast (by intro e; rw [e] at h; cases h), (List.dropLast_concat_getLast _).symm⟩
    obtain ⟨h1, h2, h3, h4⟩ := ih l (by simpa using h)
    rw [numsTo_snoc]
    refine ⟨numS_bd _ _, ?_, ?_, numS_acc _ _ h4 h1⟩
    · unfold numS
      split <;> simp only <;> omega
    · unfold numS
      split
      · simp only; omega
      · simp only
        split
        · rw [List.length_append, List.length_singleton]; omega
        · omega
def ncl (l : List (Nat × Bool)) : List Value := l.map fun p => .int .i64 (p.1 : Nat)
def bcl (l : List (Nat × Bool)) : List Value := l.map fun p => .bool p.2
theorem ncl_snoc (l : List (Nat × Bool)) (p : Nat × Bool) : ncl (l ++ [p]) = ncl l ++ [.int .i64 (p.1 : Nat)] := by simp [ncl]
theorem bcl_snoc (l : List (Nat × Bool)) (p : Nat × Bool) : bcl (l ++ [p]) = bcl l ++ [.bool p.2] := by simp [bcl]
/-- two rows of different kinds of elements lie in different blocks -/
theorem rows_apart {W : World} {b1 b2 e1 e2 s1 s2 n1 n2 : Nat} {v1 v2 : Value} {x1 x2 : List Value} (h1 : W.ownsRow b1 e1 s1 v1 n1 x1) (h2 : W.ownsRow b2 e2 s2 v2 n2 x2) (hne : e1 ≠ e2) : v1.ownBlock = none ∨ v1.ownBlock ≠ v2.ownBlock := by
  rcases h1.2 with ⟨rfl, _⟩ | ⟨g1, c1, cur1, rfl, _, hg1, _⟩
  · exact .inl rfl
  · rcases h2.2 with ⟨rfl, _⟩ | ⟨g2, c2, cur2, rfl, _, hg2, _⟩
    · exact .inr (by simp [Value.ownBlock])
    · refine .inr fun e => hne ?_
      obtain rfl : g1 = g2 := by simpa [Value.ownBlock] using e
      have := hg1.symm.trans hg2
      simp at this
      exact this.2
theorem Tryd.info_bool : (Tryd.prog.info? 4).map (fun i => (i.zero, i.size, i.bytes)) = some (some (.bool false), 1, 1) := by kernel_rfl
/-- what numbers hands back -/
def NumsP (w : World) (l : List (Nat × Bool)) (e : Ending) (w' : World) : Prop :=
  ∃ v1 v2 : Value, e = .returned (.tuple #[v1, v2]) ∧ w'.ownsRow w.heap.size 3 1 v1 l.length (ncl l) ∧ w'.ownsRow w.heap.size 4 1 v2 l.length (bcl l) ∧ Below w.heap.size w w'
/-! ### numbers -/
theorem numsTo_get (ss : List Nat) (k : Nat) (h : k < ss.length) : numsTo (ss.take (k + 1)) = numS (numsTo (ss.take k)) ss[k] := by
  rw [List.take_succ_eq_append_getElem h, numsTo_snoc]
theorem numS_sep0 (n : Nat) (j : Bool) (acc : List (Nat × Bool)) (c : Nat) (h : ¬ (48 ≤ c ∧ c ≤ 57)) : numS (n, 0, j, acc) c = (0, 0, decide (c = 45), acc) := by
  unfold numS
  rw [if_neg h]
  simp
set_option linter.unusedSimpArgs false in
set_option linter.unusedVariables false in
set_option maxRecDepth 100000 in
set_option maxHeartbeats 4000000 in
theorem rnumbers_any (ss : List Nat) (hb : ∀ x ∈ ss, x < 256) (hm : ss.length ≤ 1000) (w : World) :
    Calls Tryd.prog 46 #[.string (strB ss)] w (NumsP w (nums ss)) := by
  obtain ⟨ib, hbi, hbz0, hbz1, hbz2⟩ := info_parts Tryd.info_bool
  obtain ⟨i0, hi, hz0, hz1, hz2⟩ := info_parts Tryd.info_int
  have hsz := strB_size ss
  have hnums := nums_eq ss
  obtain ⟨n, hn⟩ : ∃ n, ss.length = n := ⟨_, rfl⟩
  rw [hn] at hsz hm
  have hend : (ss ++ [0])[n]? = some 0 := by rw [← hn]; simp
  have hfull : nums ss = (numsTo ((ss ++ [0]).take (n + 1))).2.2.2 := by
    rw [hnums, List.take_of_length_le (by rw [List.length_append, hn]; simp)]
    rfl
  have hbd := numsTo_bd
  obtain ⟨zs, hzs⟩ : ∃ zs, ss ++ [0] = zs := ⟨_, rfl⟩
  have hzl : zs.length = n + 1 := by rw [← hzs, List.length_append, hn]; rfl
  have hzg : ∀ (k : Nat) (h : k < ss.length) (h' : k < zs.length), zs[k] = ss[k] := by
    subst hzs
    intro k h h'
    rw [List.getElem_append_left h]
  rw [hzs] at hend hfull
  have HN := Lib.hid hn
  have HB := Lib.hid hb
  have HF := Lib.hid hfull
  have HE := Lib.hid hend
  have HZL := Lib.hid hzl
  have HZG := Lib.hid hzg
  have HBD := Lib.hid hbd
  clear hn hb hnums hfull hend hzs hzl hzg hbd
  have oI := World.ownsRow_made (e := 3) (size := 1) (base := w.heap.size) w #[] 0 (Nat.le_refl _) (by unfold maxLen; omega) rfl
  have oB := World.ownsRow_made (e := 4) (size := 1) (base := w.heap.size) (w.alloc (.cells #[] 3)) #[] 0 (by simp) (by unfold maxLen; omega) rfl
  have OI := Lib.hid (oI.alloc (.cells #[] 4))
  have OB := Lib.hid oB
  have hB0 : Below w.heap.size w ((w.alloc (.cells #[] 3)).alloc (.cells #[] 4)) := ((Below.refl _ _).alloc (Nat.le_refl _) _).alloc (by simp) _
  clear oI oB
  go_enter Tryd.func46, Tryd.ntmps46
  go_wp2
  go_loopw [4, 5, 6, 7, 8, 9] (fun l en n' d j i wr => ∃ (k N D : Nat) (J : Bool) (acc : List (Nat × Bool)), i = .int .i64 k ∧ k ≤ n + 1 ∧ n' = .int .i64 N ∧ d = .int .i64 D ∧ j = .bool J ∧ Hid (numsTo (zs.take k) = (N, D, J, acc)) ∧ wr.ownsRow w.heap.size 3 1 l acc.length (ncl acc) ∧ wr.ownsRow w.heap.size 4 1 en acc.length (bcl acc) ∧ Below w.heap.size w wr) (fun _ _ _ _ _ i _ => n + 1 - (intOf i).toNat)
  case atStart => exact ⟨0, 0, 0, false, [], by simp, by omega, by simp, by simp, by simp, Lib.hid rfl, by simpa [ncl] using OI.out, by simpa [bcl] using OB.out, hB0⟩
  case round =>
    obtain ⟨k, N, D, J, acc, rfl, hk, rfl, rfl, rfl, hst, hoI, hoB, hB⟩ := hrel
    have hbd := HBD.out (zs.take k)
    rw [hst.out] at hbd
    obtain ⟨hN, hD, hA, _⟩ := hbd
    have htl : (zs.take k).length ≤ k := List.length_take_le _ _
    have hD' : D ≤ k := Nat.le_trans hD htl
    have hA' : acc.length ≤ k := Nat.le_trans hA htl
    have hN' : N < 100 := hN
    clear hN hD hA htl
    have w1 : IntKind.i64.wrap ((k : Int) + 1) = (k : Int) + 1 := IntWalk.i64_in _ (by omega)
    have hap := rows_apart hoI hoB (by decide)
    have hap2 := rows_apart hoB hoI (by decide)
    have hBs := hB.size
    obtain ⟨m, hm'⟩ : ∃ m, acc.length = m := ⟨_, rfl⟩
    rw [hm'] at hoI hoB hA'
    have HM := Lib.hid hm'
    clear hm'
    by_cases hle : k ≤ n
    · have g1 : decide (k ≤ n) = true := by simpa using hle
      have hkz : k < zs.length := by rw [HZL.out]; omega
      have hnew := numsTo_get zs k hkz
      rw [hst.out] at hnew
      obtain ⟨c, hc⟩ : ∃ c, zs[k] = c := ⟨_, rfl⟩
      rw [hc] at hnew
      by_cases hlt : k < n
      · have g2 : decide (k < n) = true := by simpa using hlt
        have hks : k < ss.length := by rw [HN.out]; exact hlt
        have hcs : ss[k] = c := by rw [← HZG.out k hks hkz]; exact hc
        have r1 := fun W => run_idx_str ss HB.out k hks W
        have hc256 := HB.out _ (List.getElem_mem hks)
        simp only [hcs] at r1
        rw [hcs] at hc256
        clear hcs hc hks hkz
        by_cases hdig : 48 ≤ c ∧ c ≤ 57
        · rw [numS_dig N D J acc c hdig] at hnew
          obtain ⟨d, hd⟩ : ∃ d, c - 48 = d := ⟨_, rfl⟩
          rw [hd] at hnew
          have hcd : c = d + 48 := by omega
          have t1 : decide ((48 : Int) ≤ (c : Int)) = true := by simp; omega
          have t2 : decide ((c : Int) ≤ (57 : Int)) = true := by simp; omega
          have t1' : decide (48 ≤ c) = true := by simp; omega
          have t2' : decide (c ≤ 57) = true := by simp; omega
          have w3 : IntKind.u8.wrap ((c : Int) - 48) = (d : Int) := by rw [IntWalk.u8_in _ (by omega)]; omega
          have w4 : IntKind.i64.wrap (d : Int) = (d : Int) := IntWalk.i64_in _ (by omega)
          have w5 : IntKind.i64.wrap (10 * (N : Int)) = 10 * (N : Int) := IntWalk.i64_in _ (by omega)
          have w6 : IntKind.i64.wrap (10 * (N : Int) + (d : Int)) = 10 * (N : Int) + (d : Int) := IntWalk.i64_in _ (by omega)
          have w7 : IntKind.i64.wrap ((D : Int) + 1) = (D : Int) + 1 := IntWalk.i64_in _ (by omega)
          have HNEW := Lib.hid hnew
          have HR : Hid (acc.length = m) := HM
          have HOI := Lib.hid hoI
          have HOB := Lib.hid hoB
          clear hnew hst hcd hd hdig hoI hoB hap hap2
          go_wp2
          refine ⟨⟨k + 1, (10 * N + d) % 100, D + 1, J, acc, by simp, by omega, by simp, by simp, rfl, HNEW, by rw [HR.out]; exact HOI.out, by rw [HR.out]; exact HOB.out, hB⟩, ?_⟩
          simp [intOf]
          omega
        · by_cases hpos : 0 < D
          · by_cases hlo : c < 48
            · by_cases hhy : c = 45
              · obtain rfl : c = 45 := hhy
                obtain ⟨D, rfl⟩ : ∃ D', D = D' + 1 := ⟨D - 1, by omega⟩
                rw [numS_sep N D J acc 45 hdig] at hnew
                have t1 : decide ((48 : Int) ≤ ((45 : Nat) : Int)) = false := by first | (simp; done) | (simp; omega)
                have t1' : decide (48 ≤ 45) = false := by first | (simp; done) | (simp; omega)
                have t3 : (((45 : Nat) : Int) == 45) = true := by first | (simp; done) | (simp; omega)
                have hj : decide (45 = 45) = true := by first | (simp; done) | (simp; omega)
                rw [hj] at hnew
                clear hj
                have t5 : decide (0 < D + 1) = true := by simp
                have t5' : decide ((0 : Int) < ((D + 1 : Nat) : Int)) = true := by first | (simp; done) | (simp; omega)
                have HNEW := Lib.hid hnew
                have HAP := Lib.hid hap
                have HAP2 := Lib.hid hap2
                clear hnew hst hdig hap hap2
                go_wp2_with (at_builtin; refine wpList_append_own _ rfl _ _ 31 rfl w.heap.size 3 i0 (.int .i64 0) 1 8 Tryd.underlying31 hi hz0 hz1 hz2 rfl (by decide) _ _ _ rfl (hoI.alloc _) ⟨wr.heap.size, 0, none⟩ 1 1 [.int .i64 (N : Int)] rfl rfl (cell_one_new _ _ _) (by simp [Value.oneCell']) (by unfold maxLen; omega) (by omega) (by have := hB.size; simp; omega) ?_)
                intro v1 w3 hoI3 hgrow3 _
                have hB3 : Below w.heap.size w w3 := (hB.alloc hB.size _).grown hgrow3 (by have := hB.size; simp; omega) (fun j hj => (hoI.lt j hj).1)
                have hoB3 : w3.ownsRow w.heap.size 4 1 _ m (bcl acc) := (hoB.alloc _).kept hgrow3 HAP2.out
                have hap3 := rows_apart hoI3 hoB3 (by decide)
                have hBs3 := hB3.size
                have HB3 := Lib.hid hB3
                have HOI3 := Lib.hid hoI3
                have HAP3 := Lib.hid hap3
                clear hB hoI hoB hoI3 hgrow3 hB3 hap3 HAP HAP2
                go_wp2_with (at_builtin; refine wpList_append_own _ rfl _ _ 66 rfl w.heap.size 4 ib (.bool false) 1 1 Tryd.underlying66 hbi hbz0 hbz1 hbz2 rfl (by decide) _ _ _ rfl (hoB3.alloc _) ⟨w3.heap.size, 0, none⟩ 1 1 [.bool J] rfl rfl (cell_one_new _ _ _) (by simp [Value.oneCell']) (by unfold maxLen; omega) (by omega) (by simp; omega) ?_)
                intro v2 w4 hoB4 hgrow4 _
                have hB4 : Below w.heap.size w w4 := (HB3.out.alloc HB3.out.size _).grown hgrow4 (by simp; omega) (fun j hj => (hoB3.lt j hj).1)
                have hoI4 : w4.ownsRow w.heap.size 3 1 _ (m + 1) _ := (HOI3.out.alloc _).kept hgrow4 HAP3.out
                have HR : Hid (∃ (k2 N2 D2 : Nat) (J2 : Bool) (acc2 : List (Nat × Bool)), Value.int .i64 ((k : Int) + 1) = .int .i64 k2 ∧ k2 ≤ n + 1 ∧ Value.int .i64 0 = .int .i64 N2 ∧ Value.int .i64 0 = .int .i64 D2 ∧ Value.bool true = .bool J2 ∧ Hid (numsTo (zs.take k2) = (N2, D2, J2, acc2)) ∧ w4.ownsRow w.heap.size 3 1 v1 acc2.length (ncl acc2) ∧ w4.ownsRow w.heap.size 4 1 v2 acc2.length (bcl acc2) ∧ Below w.heap.size w w4) :=
                  Lib.hid ⟨k + 1, 0, 0, _, _, by simp, by omega, by simp, by simp, rfl, HNEW, by rw [ncl_snoc, List.length_append, HM.out]; exact hoI4, by rw [bcl_snoc, List.length_append, HM.out]; exact hoB4, hB4⟩
                clear HNEW hoB3 hoB4 hgrow4 hB4 hoI4 HB3 HOI3 HAP3
                go_wp2
                refine ⟨HR.out, ?_⟩
                simp [intOf]
                all_goals omega
              · skip
                obtain ⟨D, rfl⟩ : ∃ D', D = D' + 1 := ⟨D - 1, by omega⟩
                rw [numS_sep N D J acc c hdig] at hnew
                have t1 : decide ((48 : Int) ≤ (c : Int)) = false := by first | (simp; done) | (simp; omega)
                have t1' : decide (48 ≤ c) = false := by first | (simp; done) | (simp; omega)
                have t3 : ((c : Int) == 45) = false := by first | (simp; done) | (simp; omega)
                have hj : decide (c = 45) = false := by first | (simp; done) | (simp; omega)
                rw [hj] at hnew
                clear hj
                have t5 : decide (0 < D + 1) = true := by simp
                have t5' : decide ((0 : Int) < ((D + 1 : Nat) : Int)) = true := by first | (simp; done) | (simp; omega)
                have HNEW := Lib.hid hnew
                have HAP := Lib.hid hap
                have HAP2 := Lib.hid hap2
                clear hnew hst hdig hap hap2
                go_wp2_with (at_builtin; refine wpList_append_own _ rfl _ _ 31 rfl w.heap.size 3 i0 (.int .i64 0) 1 8 Tryd.underlying31 hi hz0 hz1 hz2 rfl (by decide) _ _ _ rfl (hoI.alloc _) ⟨wr.heap.size, 0, none⟩ 1 1 [.int .i64 (N : Int)] rfl rfl (cell_one_new _ _ _) (by simp [Value.oneCell']) (by unfold maxLen; omega) (by omega) (by have := hB.size; simp; omega) ?_)
                intro v1 w3 hoI3 hgrow3 _
                have hB3 : Below w.heap.size w w3 := (hB.alloc hB.size _).grown hgrow3 (by have := hB.size; simp; omega) (fun j hj => (hoI.lt j hj).1)
                have hoB3 : w3.ownsRow w.heap.size 4 1 _ m (bcl acc) := (hoB.alloc _).kept hgrow3 HAP2.out
                have hap3 := rows_apart hoI3 hoB3 (by decide)
                have hBs3 := hB3.size
                have HB3 := Lib.hid hB3
                have HOI3 := Lib.hid hoI3
                have HAP3 := Lib.hid hap3
                clear hB hoI hoB hoI3 hgrow3 hB3 hap3 HAP HAP2
                go_wp2_with (at_builtin; refine wpList_append_own _ rfl _ _ 66 rfl w.heap.size 4 ib (.bool false) 1 1 Tryd.underlying66 hbi hbz0 hbz1 hbz2 rfl (by decide) _ _ _ rfl (hoB3.alloc _) ⟨w3.heap.size, 0, none⟩ 1 1 [.bool J] rfl rfl (cell_one_new _ _ _) (by simp [Value.oneCell']) (by unfold maxLen; omega) (by omega) (by simp; omega) ?_)
                intro v2 w4 hoB4 hgrow4 _
                have hB4 : Below w.heap.size w w4 := (HB3.out.alloc HB3.out.size _).grown hgrow4 (by simp; omega) (fun j hj => (hoB3.lt j hj).1)
                have hoI4 : w4.ownsRow w.heap.size 3 1 _ (m + 1) _ := (HOI3.out.alloc _).kept hgrow4 HAP3.out
                have HR : Hid (∃ (k2 N2 D2 : Nat) (J2 : Bool) (acc2 : List (Nat × Bool)), Value.int .i64 ((k : Int) + 1) = .int .i64 k2 ∧ k2 ≤ n + 1 ∧ Value.int .i64 0 = .int .i64 N2 ∧ Value.int .i64 0 = .int .i64 D2 ∧ Value.bool false = .bool J2 ∧ Hid (numsTo (zs.take k2) = (N2, D2, J2, acc2)) ∧ w4.ownsRow w.heap.size 3 1 v1 acc2.length (ncl acc2) ∧ w4.ownsRow w.heap.size 4 1 v2 acc2.length (bcl acc2) ∧ Below w.heap.size w w4) :=
                  Lib.hid ⟨k + 1, 0, 0, _, _, by simp, by omega, by simp, by simp, rfl, HNEW, by rw [ncl_snoc, List.length_append, HM.out]; exact hoI4, by rw [bcl_snoc, List.length_append, HM.out]; exact hoB4, hB4⟩
                clear HNEW hoB3 hoB4 hgrow4 hB4 hoI4 HB3 HOI3 HAP3
                go_wp2
                refine ⟨HR.out, ?_⟩
                simp [intOf]
                all_goals omega
            · skip
              obtain ⟨D, rfl⟩ : ∃ D', D = D' + 1 := ⟨D - 1, by omega⟩
              rw [numS_sep N D J acc c hdig] at hnew
              have t1 : decide ((48 : Int) ≤ (c : Int)) = true := by first | (simp; done) | (simp; omega)
              have t1' : decide (48 ≤ c) = true := by first | (simp; done) | (simp; omega)
              have t2 : decide ((c : Int) ≤ (57 : Int)) = false := by first | (simp; done) | (simp; omega)
              have t2' : decide (c ≤ 57) = false := by first | (simp; done) | (simp; omega)
              have t3 : ((c : Int) == 45) = false := by first | (simp; done) | (simp; omega)
              have hj : decide (c = 45) = false := by first | (simp; done) | (simp; omega)
              rw [hj] at hnew
              clear hj
              have t5 : decide (0 < D + 1) = true := by simp
              have t5' : decide ((0 : Int) < ((D + 1 : Nat) : Int)) = true := by first | (simp; done) | (simp; omega)
              have HNEW := Lib.hid hnew
              have HAP := Lib.hid hap
              have HAP2 := Lib.hid hap2
              clear hnew hst hdig hap hap2
              go_wp2_with (at_builtin; refine wpList_append_own _ rfl _ _ 31 rfl w.heap.size 3 i0 (.int .i64 0) 1 8 Tryd.underlying31 hi hz0 hz1 hz2 rfl (by decide) _ _ _ rfl (hoI.alloc _) ⟨wr.heap.size, 0, none⟩ 1 1 [.int .i64 (N : Int)] rfl rfl (cell_one_new _ _ _) (by simp [Value.oneCell']) (by unfold maxLen; omega) (by omega) (by have := hB.size; simp; omega) ?_)
              intro v1 w3 hoI3 hgrow3 _
              have hB3 : Below w.heap.size w w3 := (hB.alloc hB.size _).grown hgrow3 (by have := hB.size; simp; omega) (fun j hj => (hoI.lt j hj).1)
              have hoB3 : w3.ownsRow w.heap.size 4 1 _ m (bcl acc) := (hoB.alloc _).kept hgrow3 HAP2.out
              have hap3 := rows_apart hoI3 hoB3 (by decide)
              have hBs3 := hB3.size
              have HB3 := Lib.hid hB3
              have HOI3 := Lib.hid hoI3
              have HAP3 := Lib.hid hap3
              clear hB hoI hoB hoI3 hgrow3 hB3 hap3 HAP HAP2
              go_wp2_with (at_builtin; refine wpList_append_own _ rfl _ _ 66 rfl w.heap.size 4 ib (.bool false) 1 1 Tryd.underlying66 hbi hbz0 hbz1 hbz2 rfl (by decide) _ _ _ rfl (hoB3.alloc _) ⟨w3.heap.size, 0, none⟩ 1 1 [.bool J] rfl rfl (cell_one_new _ _ _) (by simp [Value.oneCell']) (by unfold maxLen; omega) (by omega) (by simp; omega) ?_)
              intro v2 w4 hoB4 hgrow4 _
              have hB4 : Below w.heap.size w w4 := (HB3.out.alloc HB3.out.size _).grown hgrow4 (by simp; omega) (fun j hj => (hoB3.lt j hj).1)
              have hoI4 : w4.ownsRow w.heap.size 3 1 _ (m + 1) _ := (HOI3.out.alloc _).kept hgrow4 HAP3.out
              have HR : Hid (∃ (k2 N2 D2 : Nat) (J2 : Bool) (acc2 : List (Nat × Bool)), Value.int .i64 ((k : Int) + 1) = .int .i64 k2 ∧ k2 ≤ n + 1 ∧ Value.int .i64 0 = .int .i64 N2 ∧ Value.int .i64 0 = .int .i64 D2 ∧ Value.bool false = .bool J2 ∧ Hid (numsTo (zs.take k2) = (N2, D2, J2, acc2)) ∧ w4.ownsRow w.heap.size 3 1 v1 acc2.length (ncl acc2) ∧ w4.ownsRow w.heap.size 4 1 v2 acc2.length (bcl acc2) ∧ Below w.heap.size w w4) :=
                Lib.hid ⟨k + 1, 0, 0, _, _, by simp, by omega, by simp, by simp, rfl, HNEW, by rw [ncl_snoc, List.length_append, HM.out]; exact hoI4, by rw [bcl_snoc, List.length_append, HM.out]; exact hoB4, hB4⟩
              clear HNEW hoB3 hoB4 hgrow4 hB4 hoI4 HB3 HOI3 HAP3
              go_wp2
              refine ⟨HR.out, ?_⟩
              simp [intOf]
              all_goals omega
          · by_cases hlo : c < 48
            · by_cases hhy : c = 45
              · obtain rfl : c = 45 := hhy
                obtain rfl : D = 0 := by omega
                rw [numS_sep0 N J acc 45 hdig] at hnew
                have t1 : decide ((48 : Int) ≤ ((45 : Nat) : Int)) = false := by first | (simp; done) | (simp; omega)
                have t1' : decide (48 ≤ 45) = false := by first | (simp; done) | (simp; omega)
                have t3 : (((45 : Nat) : Int) == 45) = true := by first | (simp; done) | (simp; omega)
                have hj : decide (45 = 45) = true := by first | (simp; done) | (simp; omega)
                rw [hj] at hnew
                clear hj
                have t5 : decide (0 < 0) = false := by simp
                have HNEW := Lib.hid hnew
                have HOI := Lib.hid hoI
                have HOB := Lib.hid hoB
                clear hnew hst hdig hoI hoB hap hap2
                go_wp2
                refine ⟨⟨k + 1, 0, 0, true, acc, by simp, by omega, by simp, by simp, rfl, HNEW, by rw [HM.out]; exact HOI.out, by rw [HM.out]; exact HOB.out, hB⟩, ?_⟩
                simp [intOf]
                all_goals omega
              · skip
                obtain rfl : D = 0 := by omega
                rw [numS_sep0 N J acc c hdig] at hnew
                have t1 : decide ((48 : Int) ≤ (c : Int)) = false := by first | (simp; done) | (simp; omega)
                have t1' : decide (48 ≤ c) = false := by first | (simp; done) | (simp; omega)
                have t3 : ((c : Int) == 45) = false := by first | (simp; done) | (simp; omega)
                have hj : decide (c = 45) = false := by first | (simp; done) | (simp; omega)
                rw [hj] at hnew
                clear hj
                have t5 : decide (0 < 0) = false := by simp
                have HNEW := Lib.hid hnew
                have HOI := Lib.hid hoI
                have HOB := Lib.hid hoB
                clear hnew hst hdig hoI hoB hap hap2
                go_wp2
                refine ⟨⟨k + 1, 0, 0, false, acc, by simp, by omega, by simp, by simp, rfl, HNEW, by rw [HM.out]; exact HOI.out, by rw [HM.out]; exact HOB.out, hB⟩, ?_⟩
                simp [intOf]
                all_goals omega
            · skip
              obtain rfl : D = 0 := by omega
              rw [numS_sep0 N J acc c hdig] at hnew
              have t1 : decide ((48 : Int) ≤ (c : Int)) = true := by first | (simp; done) | (simp; omega)
              have t1' : decide (48 ≤ c) = true := by first | (simp; done) | (simp; omega)
              have t2 : decide ((c : Int) ≤ (57 : Int)) = false := by first | (simp; done) | (simp; omega)
              have t2' : decide (c ≤ 57) = false := by first | (simp; done) | (simp; omega)
              have t3 : ((c : Int) == 45) = false := by first | (simp; done) | (simp; omega)
              have hj : decide (c = 45) = false := by first | (simp; done) | (simp; omega)
              rw [hj] at hnew
              clear hj
              have t5 : decide (0 < 0) = false := by simp
              have HNEW := Lib.hid hnew
              have HOI := Lib.hid hoI
              have HOB := Lib.hid hoB
              clear hnew hst hdig hoI hoB hap hap2
              go_wp2
              refine ⟨⟨k + 1, 0, 0, false, acc, by simp, by omega, by simp, by simp, rfl, HNEW, by rw [HM.out]; exact HOI.out, by rw [HM.out]; exact HOB.out, hB⟩, ?_⟩
              simp [intOf]
              all_goals omega
      · obtain rfl : k = n := by omega
        have g2 : decide (k < k) = false := by simp
        obtain rfl : c = 0 := by have h := HE.out; rw [List.getElem?_eq_getElem hkz, hc] at h; exact Option.some.inj h
        have hdig : ¬ (48 ≤ 0 ∧ 0 ≤ 57) := by decide
        clear hc hkz
        by_cases hpos : 0 < D
        · skip
          obtain ⟨D, rfl⟩ : ∃ D', D = D' + 1 := ⟨D - 1, by omega⟩
          rw [numS_sep N D J acc 0 hdig] at hnew
          have hj : decide (0 = 45) = false := by decide
          rw [hj] at hnew
          clear hj
          have t5 : decide (0 < D + 1) = true := by simp
          have t5' : decide ((0 : Int) < ((D + 1 : Nat) : Int)) = true := by first | (simp; done) | (simp; omega)
          have HNEW := Lib.hid hnew
          have HAP := Lib.hid hap
          have HAP2 := Lib.hid hap2
          clear hnew hst hdig hap hap2
          go_wp2_with (at_builtin; refine wpList_append_own _ rfl _ _ 31 rfl w.heap.size 3 i0 (.int .i64 0) 1 8 Tryd.underlying31 hi hz0 hz1 hz2 rfl (by decide) _ _ _ rfl (hoI.alloc _) ⟨wr.heap.size, 0, none⟩ 1 1 [.int .i64 (N : Int)] rfl rfl (cell_one_new _ _ _) (by simp [Value.oneCell']) (by unfold maxLen; omega) (by omega) (by have := hB.size; simp; omega) ?_)
          intro v1 w3 hoI3 hgrow3 _
          have hB3 : Below w.heap.size w w3 := (hB.alloc hB.size _).grown hgrow3 (by have := hB.size; simp; omega) (fun j hj => (hoI.lt j hj).1)
          have hoB3 : w3.ownsRow w.heap.size 4 1 _ m (bcl acc) := (hoB.alloc _).kept hgrow3 HAP2.out
          have hap3 := rows_apart hoI3 hoB3 (by decide)
          have hBs3 := hB3.size
          have HB3 := Lib.hid hB3
          have HOI3 := Lib.hid hoI3
          have HAP3 := Lib.hid hap3
          clear hB hoI hoB hoI3 hgrow3 hB3 hap3 HAP HAP2
          go_wp2_with (at_builtin; refine wpList_append_own _ rfl _ _ 66 rfl w.heap.size 4 ib (.bool false) 1 1 Tryd.underlying66 hbi hbz0 hbz1 hbz2 rfl (by decide) _ _ _ rfl (hoB3.alloc _) ⟨w3.heap.size, 0, none⟩ 1 1 [.bool J] rfl rfl (cell_one_new _ _ _) (by simp [Value.oneCell']) (by unfold maxLen; omega) (by omega) (by simp; omega) ?_)
          intro v2 w4 hoB4 hgrow4 _
          have hB4 : Below w.heap.size w w4 := (HB3.out.alloc HB3.out.size _).grown hgrow4 (by simp; omega) (fun j hj => (hoB3.lt j hj).1)
          have hoI4 : w4.ownsRow w.heap.size 3 1 _ (m + 1) _ := (HOI3.out.alloc _).kept hgrow4 HAP3.out
          have HR : Hid (∃ (k2 N2 D2 : Nat) (J2 : Bool) (acc2 : List (Nat × Bool)), Value.int .i64 ((k : Int) + 1) = .int .i64 k2 ∧ k2 ≤ k + 1 ∧ Value.int .i64 0 = .int .i64 N2 ∧ Value.int .i64 0 = .int .i64 D2 ∧ Value.bool false = .bool J2 ∧ Hid (numsTo (zs.take k2) = (N2, D2, J2, acc2)) ∧ w4.ownsRow w.heap.size 3 1 v1 acc2.length (ncl acc2) ∧ w4.ownsRow w.heap.size 4 1 v2 acc2.length (bcl acc2) ∧ Below w.heap.size w w4) :=
            Lib.hid ⟨k + 1, 0, 0, _, _, by simp, by omega, by simp, by simp, rfl, HNEW, by rw [ncl_snoc, List.length_append, HM.out]; exact hoI4, by rw [bcl_snoc, List.length_append, HM.out]; exact hoB4, hB4⟩
          clear HNEW hoB3 hoB4 hgrow4 hB4 hoI4 HB3 HOI3 HAP3
          go_wp2
          refine ⟨HR.out, ?_⟩
          simp [intOf]
          all_goals omega
        · skip
          obtain rfl : D = 0 := by omega
          rw [numS_sep0 N J acc 0 hdig] at hnew
          have hj : decide (0 = 45) = false := by decide
          rw [hj] at hnew
          clear hj
          have t5 : decide (0 < 0) = false := by simp
          have HNEW := Lib.hid hnew
          have HOI := Lib.hid hoI
          have HOB := Lib.hid hoB
          clear hnew hst hdig hoI hoB hap hap2
          go_wp2
          refine ⟨⟨k + 1, 0, 0, false, acc, by simp, by omega, by simp, by simp, rfl, HNEW, by rw [HM.out]; exact HOI.out, by rw [HM.out]; exact HOB.out, hB⟩, ?_⟩
          simp [intOf]
          all_goals omega
    · obtain rfl : k = n + 1 := by omega
      have g1 : decide (n + 1 ≤ n) = false := by simp
      have g1' : decide (((n + 1 : Nat) : Int) ≤ (n : Int)) = false := by simp; omega
      have hfin : nums ss = acc := by rw [HF.out, hst.out]
      have hoI2 := hoI
      rw [← HM.out, ← hfin] at hoI2
      have hoB2 := hoB
      rw [← HM.out, ← hfin] at hoB2
      clear hfin hst hoI hoB hap hap2
      go_wp2
      go_ret2
      exact ⟨_, _, rfl, hoI2, hoB2, hB⟩
end Go.Proofs.YtoaiiceglfmfcaaDoor
