/- Walks of air: transmissions that are read; Check. -/
import Derived.Test.YthemdbgcamkecaaAirF
namespace Go.Proofs.Ythemdbgcamkecaa
open Go.RowKit

/-- a transmission -/
structure Tr where
  id : Int
  fr : Int
  ch : Int
  st : Int
  bs : List Nat
instance : Inhabited Tr := ⟨⟨0, 0, 0, 0, []⟩⟩
/-- number k of a row of transmissions -/
def TxAt (w : World) (b off k : Nat) (t : Tr) : Prop := ∃ a c, w.cell? ⟨b, off + k * 5, none⟩ = some (.int .i64 t.id) ∧ w.cell? ⟨b, off + k * 5 + 1, none⟩ = some (.int .i64 t.fr) ∧ w.cell? ⟨b, off + k * 5 + 2, none⟩ = some (.int .i64 t.ch) ∧
  w.cell? ⟨b, off + k * 5 + 3, none⟩ = some (.int .i64 t.st) ∧ w.cell? ⟨b, off + k * 5 + 4, none⟩ = some (.slice a t.bs.length c) ∧ BytesAt w (.slice a t.bs.length c) t.bs
def Txs (w : World) (v : Value) (ts : List Tr) : Prop := ts.length ≤ maxLen ∧ ∃ (ao : Option Addr) (cap : Nat), v = .slice ao ts.length cap ∧
  (0 < ts.length → ∃ b off, ao = some ⟨b, off, none⟩ ∧ b < w.heap.size ∧ ∀ k (h : k < ts.length), TxAt w b off k ts[k])
theorem TxAt.below {w w' : World} {b off k : Nat} {t : Tr} (h : TxAt w b off k t) (hb : Below w.heap.size w w') : TxAt w' b off k t := by
  obtain ⟨a, c, h0, h1, h2, h3, h4, h5⟩ := h
  exact ⟨a, c, kc h0 hb, kc h1 hb, kc h2 hb, kc h3 hb, kc h4 hb, h5.below hb⟩
theorem Txs.below {w w' : World} {v : Value} {ts : List Tr} (h : Txs w v ts) (hb : Below w.heap.size w w') : Txs w' v ts := by
  obtain ⟨h1, ao, cap, rfl, h2⟩ := h
  refine ⟨h1, ao, cap, rfl, fun h0 => ?_⟩
  obtain ⟨b, off, rfl, hlt, hc⟩ := h2 h0
  exact ⟨b, off, rfl, Nat.lt_of_lt_of_le hlt hb.size, fun k h => (hc k h).below hb⟩

/-- what is wrong with a transmission -/
def sentB (d : Int) (t : Tr) : Bool := decide (t.fr < 0) || decide (d ≤ t.fr) || decide (t.ch < 0) || decide (39 < t.ch) || decide (t.st < 0) || decide (1099511627776 < t.st)
def sentV (d : Int) (ts : List Tr) (k : Nat) : Int :=
  if 0 < k ∧ (ts.getD k default).id ≤ (ts.getD (k - 1) default).id then 13 else if sentB d (ts.getD k default) = true then 5 else if 260 < (ts.getD k default).bs.length then 4 else 0
/-- what is wrong -/
def checkE (d : Int) (ls : List (Int × Int)) (js : List (Int × Int × Int)) (ss : List (Int × Int)) (ts : List Tr) : Int :=
  if d < 0 ∨ 8 < d then 5 else if 1000 < js.length ∨ 1000 < ss.length ∨ 1000 < ts.length then 4 else orL [mediumE d ls js ss, firstE (sentV d ts) ts.length]

/-- max of three at a plain region's list -/
theorem wpList_max3 {P : Program} {w : World} {ops : Array Oper} {rest : List Oper} {o : Oper} {a : Act} {Q : Exit → Act → World → Prop} (hgd : o.guard = none) (x y z : Operand) (ts : Array TypeId)
    (ho : o.op = .call { callee := .builtin .max, args := #[x, y, z], argTypes := ts }) (X Y Z M : Int) (hx : a.eval x = .int .i64 X) (hy : a.eval y = .int .i64 Y) (hz : a.eval z = .int .i64 Z)
    (hM : (if Z > (if Y > X then Y else X) then Z else (if Y > X then Y else X)) = M)
    (h : wpList P ops Q rest (a.put o.dst (.int .i64 M)) w) : wpList P ops Q (o :: rest) a w := by
  refine wpList_plain hgd fun K hK => ?_
  have hr := run_max_int3 (P := P) (w := w) ts o.type .i64 .i64 .i64 X Y Z
  rw [hM] at hr
  unfold Oper.wp execOp
  simp only [ho, resolve, invoke, builtin, Sem.run_bind, Sem.run_pure, Result.andThen_ok, List.map_toArray, List.map_cons, List.map_nil, hx, hy, hz, hr]
  exact hK _ _ h

set_option maxHeartbeats 2000000 in
theorem check_any (d : Int) (lv jv sv tv : Value) (ls : List (Int × Int)) (js : List (Int × Int × Int)) (ss : List (Int × Int)) (ts : List Tr) (w : World)
    (h1 : SR w lv ls.length 2 (tcells ls)) (h2 : SR w jv js.length 3 (jcells js)) (h3 : SR w sv ss.length 2 (tcells ss)) (h4 : Txs w tv ts) :
    Calls Try.prog 17 #[.agg #[.int .i64 d, lv, jv, sv], tv] w fun e w' => e = .returned (.int .i64 (checkE d ls js ss ts)) ∧ Below w.heap.size w w' := by
  have cw := within_any d 0 8
  unfold checkE
  by_cases hd : d < 0 ∨ 8 < d
  · rw [if_pos hd]
    have hb : (decide (0 ≤ d) && decide (d ≤ 8)) = false := by
      simp only [Bool.and_eq_false_iff, decide_eq_false_iff_not]
      omega
    rw [hb] at cw
    have CW := Lib.hid cw
    clear cw hb hd h1 h2 h3 h4
    go_enter Try.func17, Try.ntmps17
    go_wp2_with (go_at_call 34; refine (CW.out _).mono ?_; rintro e w' ⟨rfl, rfl⟩)
    go_ret
    exact ⟨rfl, (Below.refl _ _).alloc (Nat.le_refl _) _⟩
  · rw [if_neg hd]
    have hb : (decide (0 ≤ d) && decide (d ≤ 8)) = true := by
      simp only [Bool.and_eq_true, decide_eq_true_eq]
      omega
    rw [hb] at cw
    have CW := Lib.hid cw
    have cm := fun w' hb => medium_any d lv jv sv ls js ss (by omega) w' (h1.below hb) (h2.below hb) (h3.below hb)
    have H4 := Lib.hid h4
    obtain ⟨_, _, _, a2, c2, rfl, _, _⟩ := h2
    obtain ⟨_, _, _, a3, c3, rfl, _, _⟩ := h3
    obtain ⟨hm4, a4, c4, rfl, hcell⟩ := h4
    obtain ⟨n2, hn2⟩ : ∃ n, js.length = n := ⟨_, rfl⟩
    obtain ⟨n3, hn3⟩ : ∃ n, ss.length = n := ⟨_, rfl⟩
    obtain ⟨n, hn⟩ : ∃ n, ts.length = n := ⟨_, rfl⟩
    unfold maxLen at hm4
    rw [hn2, hn3, hn]
    rw [hn] at hm4
    rw [hn2, hn3] at cm
    have HC := Lib.hid hcell
    clear hcell
    obtain ⟨M, hM⟩ : ∃ M : Int, (if (n : Int) > (if (n3 : Int) > (n2 : Int) then (n3 : Int) else n2) then (n : Int) else (if (n3 : Int) > (n2 : Int) then (n3 : Int) else n2)) = M := ⟨_, rfl⟩
    have hMb : 1000 < M ↔ (1000 < n2 ∨ 1000 < n3 ∨ 1000 < n) := by rw [← hM]; split <;> split <;> omega
    have HM := Lib.hid hM
    have CM := Lib.hid cm
    have HN := Lib.hid hn
    clear hM hn2 hn3 hn cw hb h1 cm
    by_cases hbig : 1000 < n2 ∨ 1000 < n3 ∨ 1000 < n
    · rw [if_pos hbig]
      have hmd : decide (1000 < M) = true := by simpa using hMb.2 hbig
      clear hbig hMb
      go_enter Try.func17, Try.ntmps17
      go_wp2_with (first | (go_at_call 34; refine (CW.out _).mono ?_; rintro e w' ⟨rfl, rfl⟩) | (refine wpList_max3 (by rfl) _ _ _ _ (by rfl) (n2 : Int) (n3 : Int) (n : Int) M (by rfl) (by rfl) (by rfl) HM.out ?_))
      go_ret
      exact ⟨rfl, (Below.refl _ _).alloc (Nat.le_refl _) _⟩
    · rw [if_neg hbig]
      have hmd : decide (1000 < M) = false := by simp only [decide_eq_false_iff_not]; rw [hMb]; exact hbig
      have hn1000 : n ≤ 1000 := by omega
      clear hbig hMb
      obtain ⟨E1, hE1⟩ : ∃ E, mediumE d ls js ss = E := ⟨_, rfl⟩
      obtain ⟨E2, hE2⟩ : ∃ E, firstE (sentV d ts) n = E := ⟨_, rfl⟩
      rw [hE1] at CM ⊢
      rw [hE2]
      have HE2 := Lib.hid hE2
      clear hE1 hE2
      go_enter Try.func17, Try.ntmps17
      go_wp2_with (first | (go_at_call 34; refine (CW.out _).mono ?_; rintro e w' ⟨rfl, rfl⟩) | (refine wpList_max3 (by rfl) _ _ _ _ (by rfl) (n2 : Int) (n3 : Int) (n : Int) M (by rfl) (by rfl) (by rfl) HM.out ?_))
      have k0 := cellNew w #[.int .i64 d, lv, .slice a2 n2 c2, .slice a3 n3 c3] 34 0 _ rfl
      have hBW : Below w.heap.size w (w.alloc (.cells #[.int .i64 d, lv, .slice a2 n2 c2, .slice a3 n3 c3] 34)) := (Below.refl _ _).alloc (Nat.le_refl _) _
      generalize hW : w.alloc (.cells _ 34) = W at k0 hBW ⊢
      clear hW
      refine (CM.out _ hBW).mono ?_
      rintro e w1 ⟨rfl, hB1⟩
      have k1 := kc k0 hB1
      have hB1' := hBW.trans (hB1.mono hBW.size)
      by_cases hE1 : E1 = 0
      · subst hE1
        clear k0 hB1 hBW
        go_wp2
        go_loopw [29, 6, 7] (fun i _ _ wr => ∃ k : Nat, k ≤ n ∧ i = .int .i64 k ∧ Hid (firstE (sentV d ts) k = 0) ∧ Below w1.heap.size w1 wr) (fun i _ _ _ => n - (intOf i).toNat)
        case atStart => exact ⟨0, by omega, rfl, rfl, Below.refl _ _⟩
        case round =>
          obtain ⟨k, hk, rfl, hz, hB⟩ := hrel
          have q0 := kc k1 hB
          have hwr := World.block_lt_of_cell? wr _ q0
          simp only at hwr
          have hBr := hB1'.trans (hB.mono hB1'.size)
          by_cases hlt : k < n
          · have hkl : k < ts.length := by rw [HN.out]; exact hlt
            obtain ⟨b, off, rfl, hb, hx⟩ := HC.out (by omega)
            have hbr : b < wr.heap.size := Nat.lt_of_lt_of_le hb hBr.size
            obtain ⟨ta, tc, d0, d1, d2, d3, d4, _⟩ := (hx k hkl).below hBr
            have hv : sentV d ts k = if 0 < k ∧ ts[k].id ≤ (ts.getD (k - 1) default).id then 13 else if sentB d ts[k] = true then 5 else if 260 < ts[k].bs.length then 4 else 0 := by unfold sentV; rw [getD_at ts k _ hkl]
            have hprev : 0 < k → ∃ m P, k = m + 1 ∧ (ts.getD (k - 1) default).id = P ∧ wr.cell? ⟨b, off + m * 5, none⟩ = some (.int .i64 P) := fun h0 => by
              have hm : k - 1 < ts.length := by omega
              obtain ⟨_, _, e0, _⟩ := (hx (k - 1) hm).below hBr
              refine ⟨k - 1, ts[k - 1].id, by omega, by rw [getD_at ts (k - 1) _ hm], e0⟩
            have HX := Lib.hid hx
            obtain ⟨⟨I, F, C, S, bs⟩, he⟩ : ∃ t, ts[k] = t := ⟨_, rfl⟩
            rw [he] at d0 d1 d2 d3 d4 hv
            unfold sentB at hv
            simp only at d0 d1 d2 d3 d4 hv
            obtain ⟨L, hL⟩ : ∃ L, bs.length = L := ⟨_, rfl⟩
            rw [hL] at d4 hv
            have hi0 : (0 : Int) ≤ (k : Int) := by omega
            have hi1 : (k : Int) < (n : Int) := by omega
            have HV := Lib.hid hv
            have HP := Lib.hid hprev
            have hwd : IntKind.i64.wrap (d - 1) = d - 1 := IntWalk.i64_in _ (by omega)
            clear hx he hv hL hprev k1
            have hbad : ∀ E : Int, sentV d ts k = E → E ≠ 0 → E2 = E := fun E h h0 => by
              rw [← HE2.out, firstE_stop _ k hz.out (by rw [h]; exact h0) n hlt, h]
            have hgood : sentV d ts k = 0 → firstE (sentV d ts) (k + 1) = 0 := fun h => firstE_next _ k hz.out h
            have HB := Lib.hid hbad
            have HG := Lib.hid hgood
            clear hbad hgood
            have hBX := hBr.alloc hBr.size (.cells #[.int .i64 I, .int .i64 F, .int .i64 C, .int .i64 S, .slice ta L tc] 24)
            have hBX1 := hB.alloc hB.size (.cells #[.int .i64 I, .int .i64 F, .int .i64 C, .int .i64 S, .slice ta L tc] 24)
            have cF := within_any F 0 (d - 1)
            have cC := within_any C 0 39
            have cS := within_any S 0 1099511627776
            obtain ⟨wF, hwF⟩ : ∃ b, (decide (0 ≤ F) && decide (F ≤ d - 1)) = b := ⟨_, rfl⟩
            obtain ⟨wC, hwC⟩ : ∃ b, (decide (0 ≤ C) && decide (C ≤ 39)) = b := ⟨_, rfl⟩
            obtain ⟨wS, hwS⟩ : ∃ b, (decide (0 ≤ S) && decide (S ≤ 1099511627776)) = b := ⟨_, rfl⟩
            rw [hwF] at cF
            rw [hwC] at cC
            rw [hwS] at cS
            have CF := Lib.hid cF
            have CC := Lib.hid cC
            have CS := Lib.hid cS
            have hsb : (decide (F < 0) || decide (d ≤ F) || decide (C < 0) || decide (39 < C) || decide (S < 0) || decide (1099511627776 < S)) = !(wF && wC && wS) := by
              rw [← hwF, ← hwC, ← hwS, Bool.eq_iff_iff]
              simp only [Bool.or_eq_true, Bool.not_eq_true', Bool.and_eq_false_iff, decide_eq_true_eq, decide_eq_false_iff_not]
              omega
            have HSB := Lib.hid hsb
            clear cF cC cS hwF hwC hwS hsb
            have hguard : (k = 0 ∧ decide (0 < k) = false) ∨ ∃ (m : Nat) (P : Int), k = m + 1 ∧ (ts.getD (k - 1) default).id = P ∧ wr.cell? ⟨b, off + m * 5, none⟩ = some (.int .i64 P) := by
              by_cases h0 : k = 0
              · exact .inl ⟨h0, by simp; omega⟩
              · exact .inr (HP.out (by omega))
            have hrest : (k = 0 ∧ decide (0 < k) = false) ∨ ∃ (m : Nat) (P : Int), decide (0 < k) = true ∧ IntKind.i64.wrap ((k : Int) - 1) = (m : Int) ∧ (0 : Int) ≤ (m : Int) ∧ (m : Int) < (n : Int) ∧ wr.cell? ⟨b, off + m * 5, none⟩ = some (.int .i64 P) ∧ Hid ((ts.getD (k - 1) default).id = P) := by
              rcases hguard with h | ⟨m, P, hkm, hp, hc⟩
              · exact .inl h
              · exact .inr ⟨m, P, by simp; omega, by rw [IntWalk.i64_in _ (by omega)]; omega, by omega, by omega, hc, hp⟩
            clear hguard
            rcases hrest with ⟨hk0, hkd⟩ | ⟨m, P, hkd, hsub, hm0, hm1, hpc, hp⟩
            · have HV0 : Hid (sentV d ts k = if (!(wF && wC && wS)) = true then 5 else if 260 < L then 4 else 0) := by
                unfold Hid
                rw [HV.out, HSB.out, if_neg (by omega)]
              clear hk0
              go_wp2_with fail
              go_quiet (fail)
              cases wF
              · have hE := HB.out 5 (by rw [HV0.out]; rfl) (by decide)
                have HE := Lib.hid hE
                clear hE
                go_wp2_with (go_at_call 34; first | ((with_reducible refine (CF.out _).mono ?_); rintro e w' ⟨rfl, rfl⟩))
                go_ret
                exact ⟨ret_eq (by rw [HE.out]; rfl), below_drewN hBX _⟩
              · cases wC
                · have hE := HB.out 5 (by rw [HV0.out]; rfl) (by decide)
                  have HE := Lib.hid hE
                  clear hE
                  go_wp2_with (go_at_call 34; first | ((with_reducible refine (CF.out _).mono ?_); rintro e w' ⟨rfl, rfl⟩) | ((with_reducible refine (CC.out _).mono ?_); rintro e w' ⟨rfl, rfl⟩))
                  go_ret
                  exact ⟨ret_eq (by rw [HE.out]; rfl), below_drewN hBX _⟩
                · cases wS
                  · have hE := HB.out 5 (by rw [HV0.out]; rfl) (by decide)
                    have HE := Lib.hid hE
                    clear hE
                    go_wp2_with (go_at_call 34; first | ((with_reducible refine (CF.out _).mono ?_); rintro e w' ⟨rfl, rfl⟩) | ((with_reducible refine (CC.out _).mono ?_); rintro e w' ⟨rfl, rfl⟩) | ((with_reducible refine (CS.out _).mono ?_); rintro e w' ⟨rfl, rfl⟩))
                    go_ret
                    exact ⟨ret_eq (by rw [HE.out]; rfl), below_drewN hBX _⟩
                  · by_cases hL : 260 < L
                    · have hE := HB.out 4 (by rw [HV0.out]; simp [hL]) (by decide)
                      have HE := Lib.hid hE
                      clear hE
                      go_wp2_with (go_at_call 34; first | ((with_reducible refine (CF.out _).mono ?_); rintro e w' ⟨rfl, rfl⟩) | ((with_reducible refine (CC.out _).mono ?_); rintro e w' ⟨rfl, rfl⟩) | ((with_reducible refine (CS.out _).mono ?_); rintro e w' ⟨rfl, rfl⟩))
                      go_ret
                      exact ⟨ret_eq (by rw [HE.out]; rfl), below_drewN hBX _⟩
                    · have hg := HG.out (by rw [HV0.out]; simp [hL])
                      have HGG := Lib.hid hg
                      clear hg
                      go_wp2_with (go_at_call 34; first | ((with_reducible refine (CF.out _).mono ?_); rintro e w' ⟨rfl, rfl⟩) | ((with_reducible refine (CC.out _).mono ?_); rintro e w' ⟨rfl, rfl⟩) | ((with_reducible refine (CS.out _).mono ?_); rintro e w' ⟨rfl, rfl⟩))
                      go_roundw
                      case rel => exact ⟨k + 1, by omega, by go_num, HGG.out, below_drewN hBX1 _⟩
                      case measure => simp [intOf]; omega
            · by_cases hip : I ≤ P
              · have hE := HB.out 13 (by rw [HV.out, hp.out, if_pos ⟨by simpa using hkd, hip⟩]) (by decide)
                have HE := Lib.hid hE
                clear hE
                go_wp2_with fail
                go_quiet (fail)
                go_wp2
                go_ret
                exact ⟨ret_eq (by rw [HE.out]; rfl), below_drewN hBX _⟩
              · have hipd : decide (I ≤ P) = false := by simpa using hip
                have HV0 : Hid (sentV d ts k = if (!(wF && wC && wS)) = true then 5 else if 260 < L then 4 else 0) := by
                  unfold Hid
                  rw [HV.out, HSB.out, hp.out, if_neg (fun h => hip h.2)]
                clear hip
                go_wp2_with fail
                go_quiet (fail)
                cases wF
                · have hE := HB.out 5 (by rw [HV0.out]; rfl) (by decide)
                  have HE := Lib.hid hE
                  clear hE
                  go_wp2_with (go_at_call 34; first | ((with_reducible refine (CF.out _).mono ?_); rintro e w' ⟨rfl, rfl⟩))
                  go_ret
                  exact ⟨ret_eq (by rw [HE.out]; rfl), below_drewN hBX _⟩
                · cases wC
                  · have hE := HB.out 5 (by rw [HV0.out]; rfl) (by decide)
                    have HE := Lib.hid hE
                    clear hE
                    go_wp2_with (go_at_call 34; first | ((with_reducible refine (CF.out _).mono ?_); rintro e w' ⟨rfl, rfl⟩) | ((with_reducible refine (CC.out _).mono ?_); rintro e w' ⟨rfl, rfl⟩))
                    go_ret
                    exact ⟨ret_eq (by rw [HE.out]; rfl), below_drewN hBX _⟩
                  · cases wS
                    · have hE := HB.out 5 (by rw [HV0.out]; rfl) (by decide)
                      have HE := Lib.hid hE
                      clear hE
                      go_wp2_with (go_at_call 34; first | ((with_reducible refine (CF.out _).mono ?_); rintro e w' ⟨rfl, rfl⟩) | ((with_reducible refine (CC.out _).mono ?_); rintro e w' ⟨rfl, rfl⟩) | ((with_reducible refine (CS.out _).mono ?_); rintro e w' ⟨rfl, rfl⟩))
                      go_ret
                      exact ⟨ret_eq (by rw [HE.out]; rfl), below_drewN hBX _⟩
                    · by_cases hL : 260 < L
                      · have hE := HB.out 4 (by rw [HV0.out]; simp [hL]) (by decide)
                        have HE := Lib.hid hE
                        clear hE
                        go_wp2_with (go_at_call 34; first | ((with_reducible refine (CF.out _).mono ?_); rintro e w' ⟨rfl, rfl⟩) | ((with_reducible refine (CC.out _).mono ?_); rintro e w' ⟨rfl, rfl⟩) | ((with_reducible refine (CS.out _).mono ?_); rintro e w' ⟨rfl, rfl⟩))
                        go_ret
                        exact ⟨ret_eq (by rw [HE.out]; rfl), below_drewN hBX _⟩
                      · have hg := HG.out (by rw [HV0.out]; simp [hL])
                        have HGG := Lib.hid hg
                        clear hg
                        go_wp2_with (go_at_call 34; first | ((with_reducible refine (CF.out _).mono ?_); rintro e w' ⟨rfl, rfl⟩) | ((with_reducible refine (CC.out _).mono ?_); rintro e w' ⟨rfl, rfl⟩) | ((with_reducible refine (CS.out _).mono ?_); rintro e w' ⟨rfl, rfl⟩))
                        go_roundw
                        case rel => exact ⟨k + 1, by omega, by go_num, HGG.out, below_drewN hBX1 _⟩
                        case measure => simp [intOf]; omega
          · have hE0 : E2 = 0 := by
              rw [← HE2.out, ← hz.out, show n = k by omega]
            subst hE0
            go_wp2
            go_ret
            exact ⟨rfl, hBr⟩
      · have hne : (E1 == 0) = false := by simpa using hE1
        have ho : orL [E1, E2] = E1 := by simp [orL, hE1]
        have HO := Lib.hid ho
        clear hE1 ho
        go_wp2
        go_ret
        exact ⟨ret_eq (by rw [HO.out]), hB1'⟩
end Go.Proofs.Ythemdbgcamkecaa
