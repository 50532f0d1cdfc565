/- the stable sort. -/
import Derived.Test.YteblimdbkiiaaaaFdN
namespace Go.Proofs.Yteblimdbkiiaaaa
open Go.RowKit

theorem Fd_sym (es : Nat → El) (b off n cap : Nat) (hn : n ≤ 1099511627776) (ho : ∀ x, (es x).one) (lt : Nat → Nat → Prop) (hlt : Swo lt) (hc : CmpOk Try.prog 33 lt es n) : ∀ (N : Nat) (p : Nat → Nat) (w : World), Row6 53 w b off es p n → (∀ k, k < n → p k < n) →
    ∀ a m e, a < m → m < e → e ≤ n → e - a ≤ N → Srt lt p a m → Srt lt p m e → (∀ i j, a ≤ i → i < m → m ≤ j → j < e → p i < p j) → Calls Try.prog 64 #[.slice (some ⟨b, off, none⟩) n cap, .int .i64 a, .int .i64 m, .int .i64 e, .func (.func 33) #[] #[]] w
      fun x w' => x = .returned (.tuple #[]) ∧ ∃ p', Row6 53 w' b off es p' n ∧ Mem p p' a e ∧ Srt lt p' a e ∧ Sw b w w'  := by
  intro N
  induction N with
  | zero => intro p w hr hp a m e h1 h2 h3 h4; omega
  | succ N ih =>
    intro p w hr hp a m e h1 h2 h3 h4 hs1 hs2 hidx
    by_cases c1 : m = a + 1
    · exact Fd_sym1 es p b off n cap w hr hn ho lt hlt hc hp a m e h1 h2 h3 hs1 hs2 hidx c1
    · by_cases c2 : e = m + 1
      · exact Fd_sym2 es p b off n cap w hr hn ho lt hlt hc hp a m e h1 h2 h3 hs1 hs2 hidx (by omega) c2
      · exact Fd_sym3 es p b off n cap w hr hn ho lt hlt hc hp a m e h1 h2 h3 hs1 hs2 hidx (by omega) (by omega) (fun p' w' hr' hp' a' m' e' k1 k2 k3 k4 => ih p' w' hr' hp' a' m' e' k1 k2 k3 (by omega))
theorem good_idx {lt : Nat → Nat → Prop} {q : Nat → Nat} {a m e : Nat} (h1 : Good lt q a m) (h2 : Good lt q m e) : ∀ i j, a ≤ i → i < m → m ≤ j → j < e → q i < q j := fun i j l1 l2 l3 l4 => by
  have := h1.own i l1 l2
  have := h2.own j l3 l4
  omega
set_option linter.unusedSimpArgs false in
set_option linter.unusedVariables false in
set_option maxRecDepth 100000 in
set_option maxHeartbeats 4000000 in
theorem Fd_stable (es : Nat → El) (b off n cap : Nat) (w : World) (hr : Row6 53 w b off es (fun k => k) n) (hn : n ≤ 1099511627776) (ho : ∀ x, (es x).one) (lt : Nat → Nat → Prop) (hlt : Swo lt) (hc : CmpOk Try.prog 33 lt es n) :
    Calls Try.prog 54 #[.slice (some ⟨b, off, none⟩) n cap, .int .i64 n, .func (.func 33) #[] #[]] w
      fun x w' => x = .returned (.tuple #[]) ∧ ∃ p', Row6 53 w' b off es p' n ∧ Mem (fun k => k) p' 0 n ∧ Srt lt p' 0 n ∧ Sw b w w' := by
  have SYM := Lib.hid (Fd_sym es b off n cap hn ho lt hlt hc)
  have INS := Lib.hid (fun (p : Nat → Nat) (w : World) hr hp a e hae hen hid => Fd_ins es p b off n cap w hr hn ho lt hlt hc hp a e hae hen hid)
  have hmi : ∀ k, k < n → (fun k : Nat => k) k < n := fun k h => h
  have HMI := Lib.hid hmi
  clear hc ho hmi
  go_enter Try.func54, Try.ntmps54
  go_wp2
  go_loopw [7, 8] (fun vi vj wr => ∃ (a c : Nat) (q : Nat → Nat), vi = .int .i64 a ∧ vj = .int .i64 c ∧ c = a + 20 ∧ a ≤ n ∧ Row6 53 wr b off es q n ∧ Sw b w wr ∧ Mem (fun k => k) q 0 n ∧ Pre lt q 20 a ∧ (∀ k, a ≤ k → q k = k)) (fun vi _ _ => n - (intOf vi).toNat)
  case atStart => exact ⟨0, 20, _, rfl, rfl, rfl, Nat.zero_le _, hr, Sw.refl _ _, Mem.refl _ _ _, .nil, fun _ _ => rfl⟩
  case round =>
    obtain ⟨a, c, q, rfl, rfl, hca, han, hri, hsw, hm, hpre, hid⟩ := hrel
    have hqn := Fd_mlt hm (Nat.le_refl _) HMI.out
    by_cases hcn : c ≤ n
    · have g1 : decide (c ≤ n) = true := by simpa using hcn
      obtain ⟨c2, hc2⟩ : ∃ c2, c + 20 = c2 := ⟨_, rfl⟩
      have w1 : IntKind.i64.wrap ((c : Int) + 20) = (c2 : Int) := by rw [IntWalk.i64_in _ (by omega)]; omega
      have CALL := Lib.hid (INS.out q wr hri hqn a c (by omega) hcn (fun k h1 h2 => hid k h1))
      have HM := Lib.hid hm
      have HPRE := Lib.hid hpre
      have HID := Lib.hid hid
      have HSW := Lib.hid hsw
      have HCA := Lib.hid hca
      have HC2 := Lib.hid hc2
      clear hri hsw hm hpre hid hqn hr hca hc2
      go_wp2_with (go_at_call 63; refine CALL.out.mono ?_; rintro y w3 ⟨rfl, q', hr3, hm3, ht3, hs3⟩)
      have hca := HCA.out
      have hc2 := HC2.out
      refine ⟨⟨c, c2, q', rfl, rfl, by omega, hcn, hr3, HSW.out.trans hs3, HM.out.trans (hm3.wide (Nat.zero_le _) hcn), ?_, fun k h1 => ?_⟩, ?_⟩
      · rw [hca]
        refine .snoc a (HPRE.out.congr fun k h1 => hm3.out k (.inl h1)) ⟨by rw [hca] at ht3; exact ht3, fun i h1 h2 => ?_⟩
        obtain ⟨j, m1, m2, e1⟩ := hm3.from' i h1 (by omega)
        rw [e1, HID.out j m1]
        omega
      · rw [hm3.out k (.inr h1)]
        exact HID.out k (by omega)
      · simp [intOf]
        omega
    · have g1 : decide (c ≤ n) = false := by simpa using hcn
      have CALL := Lib.hid (INS.out q wr hri hqn a n han (Nat.le_refl _) (fun k h1 h2 => hid k h1))
      have HM := Lib.hid hm
      have HPRE := Lib.hid hpre
      have HID := Lib.hid hid
      have HSW := Lib.hid hsw
      clear hri hsw hm hpre hid hqn hr
      go_wp2_with (go_at_call 63; refine CALL.out.mono ?_; rintro y w3 ⟨rfl, q', hr3, hm3, ht3, hs3⟩)
      have hb0 : Blocks lt q' 20 n 0 := by
        refine (HPRE.out.congr fun k h1 => hm3.out k (.inl h1)).all (by decide) (.last a han (by omega) ⟨ht3, fun i h1 h2 => ?_⟩)
        obtain ⟨j, m1, m2, e1⟩ := hm3.from' i h1 h2
        rw [e1, HID.out j m1]
        omega
      have hm0 := HM.out.trans (hm3.wide (Nat.zero_le _) (Nat.le_refl _))
      have hs0 := HSW.out.trans hs3
      go_loopw [6, 7, 8, 9] (fun v6 v7 v8 v9 wr => ∃ (s : Nat) (q : Nat → Nat), v6 = .int .i64 s ∧ 0 < s ∧ s ≤ 2 * n + 20 ∧ Row6 53 wr b off es q n ∧ Sw b w wr ∧ Mem (fun k => k) q 0 n ∧ Blocks lt q s n 0) (fun v6 _ _ _ _ => n - (intOf v6).toNat)
      case atStart => exact ⟨20, q', rfl, by decide, by omega, hr3, hs0, hm0, hb0⟩
      case round =>
        clear hr3 hs0 hm0 hb0 hm3 ht3 hs3 HM HPRE HID HSW CALL
        obtain ⟨s, q, rfl, hsp, hsn, hri, hsw, hm, hb⟩ := hrel
        by_cases hlt1 : s < n
        · have g2 : decide (s < n) = true := by simpa using hlt1
          obtain ⟨s2, hs2⟩ : ∃ s2, 2 * s = s2 := ⟨_, rfl⟩
          have w2 : IntKind.i64.wrap (2 * (s : Int)) = (s2 : Int) := by rw [IntWalk.i64_in _ (by omega)]; omega
          have w3 : IntKind.i64.wrap ((s : Int) * 2) = (s2 : Int) := by rw [IntWalk.i64_in _ (by omega)]; omega
          have HRI := Lib.hid hri
          have HSW := Lib.hid hsw
          have HM := Lib.hid hm
          have HB := Lib.hid hb
          have HS2 := Lib.hid hs2
          clear hri hsw hm hb hs2
          go_wp2
          go_loopw [7, 8] (fun vi vj wr => ∃ (a c : Nat) (q : Nat → Nat), vi = .int .i64 a ∧ vj = .int .i64 c ∧ c = a + s2 ∧ a ≤ n ∧ Row6 53 wr b off es q n ∧ Sw b w wr ∧ Mem (fun k => k) q 0 n ∧ Pre lt q s2 a ∧ Blocks lt q s n a) (fun vi _ _ => n - (intOf vi).toNat)
          case atStart => exact ⟨0, s2, q, rfl, rfl, by omega, Nat.zero_le _, HRI.out, HSW.out, HM.out, .nil, HB.out⟩
          case round =>
            clear HRI HSW HM HB
            obtain ⟨a, c, q, rfl, rfl, hca, han, hri, hsw, hm, hpre, hb⟩ := hrel
            have hs2 := HS2.out
            have hqn := Fd_mlt hm (Nat.le_refl _) HMI.out
            obtain ⟨mm, hmm⟩ : ∃ k, a + s = k := ⟨_, rfl⟩
            have w4 : IntKind.i64.wrap ((a : Int) + (s : Int)) = (mm : Int) := by rw [IntWalk.i64_in _ (by omega)]; omega
            by_cases hcn : c ≤ n
            · have g3 : decide (c ≤ n) = true := by simpa using hcn
              obtain ⟨c2, hc2⟩ : ∃ c2, c + s2 = c2 := ⟨_, rfl⟩
              have w5 : IntKind.i64.wrap ((c : Int) + (s2 : Int)) = (c2 : Int) := by rw [IntWalk.i64_in _ (by omega)]; omega
              obtain ⟨b1, b2, b3⟩ := hb.two hsp (by omega)
              rw [show a + 2 * s = c by omega] at b2 b3
              rw [hmm] at b1 b2
              have CALL := Lib.hid (SYM.out (c - a) q wr hri hqn a mm c (by omega) (by omega) hcn (Nat.le_refl _) b1.srt b2.srt (good_idx b1 b2))
              have B1 := Lib.hid b1
              have B2 := Lib.hid b2
              have B3 := Lib.hid b3
              have HM := Lib.hid hm
              have HPRE := Lib.hid hpre
              have HSW := Lib.hid hsw
              have HX := Lib.hid (show c = a + s2 ∧ c2 = c + s2 ∧ 2 * s = s2 ∧ a + s = mm by omega)
              clear hri hsw hm hpre hqn b1 b2 b3 hb hca hs2 hmm hc2
              go_wp2_with (go_at_call 64; refine CALL.out.mono ?_; rintro y w3 ⟨rfl, q', hr3, hm3, ht3, hs3⟩)
              obtain ⟨hx1, hx2, hx3, hx4⟩ := HX.out
              refine ⟨⟨c, c2, q', rfl, rfl, by omega, hcn, hr3, HSW.out.trans hs3, HM.out.trans (hm3.wide (Nat.zero_le _) hcn), ?_, B3.out.congr fun k h1 h2 => hm3.out k (.inr h1)⟩, ?_⟩
              · have hj := B1.out.join B2.out (by omega) hm3 ht3
                rw [hx1] at hj ⊢
                exact .snoc a (HPRE.out.congr fun k h1 => hm3.out k (.inl h1)) hj
              · simp [intOf]
                omega
            · have g3 : decide (c ≤ n) = false := by simpa using hcn
              obtain ⟨t1, t2⟩ := hb.tail (show n < a + 2 * s by omega)
              rw [hmm] at t1 t2
              by_cases hmn : mm < n
              · have g4 : decide (mm < n) = true := by simpa using hmn
                obtain ⟨b1, b2⟩ := t1 hmn
                have CALL := Lib.hid (SYM.out (n - a) q wr hri hqn a mm n (by omega) hmn (Nat.le_refl _) (Nat.le_refl _) b1.srt b2.srt (good_idx b1 b2))
                have B1 := Lib.hid b1
                have B2 := Lib.hid b2
                have HM := Lib.hid hm
                have HPRE := Lib.hid hpre
                have HSW := Lib.hid hsw
                have HX := Lib.hid (show c = a + s2 ∧ 2 * s = s2 ∧ a + s = mm by omega)
                clear hri hsw hm hpre hqn b1 b2 t1 t2 hb hca hs2 hmm
                go_wp2_with (go_at_call 64; refine CALL.out.mono ?_; rintro y w3 ⟨rfl, q', hr3, hm3, ht3, hs3⟩)
                obtain ⟨hx1, hx2, hx3⟩ := HX.out
                refine ⟨⟨s2, q', rfl, by omega, by omega, hr3, HSW.out.trans hs3, HM.out.trans (hm3.wide (Nat.zero_le _) (Nat.le_refl _)), ?_⟩, ?_⟩
                · exact (HPRE.out.congr fun k h1 => hm3.out k (.inl h1)).all (by omega) (.last a han (by omega) (B1.out.join B2.out (by omega) hm3 ht3))
                · simp [intOf]
                  omega
              · have g4 : decide (mm < n) = false := by simpa using hmn
                have fin : Blocks lt q s2 n 0 := hpre.all (by omega) (.last a han (by omega) (t2 (by omega)))
                have HM := Lib.hid hm
                have FIN := Lib.hid fin
                have HSW := Lib.hid hsw
                have HRI := Lib.hid hri
                have HX := Lib.hid (show 2 * s = s2 by omega)
                clear hri hsw hm hpre hqn t1 t2 hb hca hs2 hmm fin
                go_wp2
                have hx := HX.out
                refine ⟨⟨s2, q, rfl, by omega, by omega, HRI.out, HSW.out, HM.out, FIN.out⟩, ?_⟩
                simp [intOf]
                omega
        · have g2 : decide (s < n) = false := by simpa using hlt1
          have hw := hb.whole (by omega)
          go_wp2
          go_end0
          exact ⟨rfl, q, hri, hm, hw.srt, hsw⟩
theorem Fd_sort (es : Nat → El) (b off n cap : Nat) (w : World) (hr : Row6 53 w b off es (fun k => k) n) (hn : n ≤ 1099511627776) (ho : ∀ x, (es x).one) (lt : Nat → Nat → Prop) (hlt : Swo lt) (hc : CmpOk Try.prog 33 lt es n) :
    Calls Try.prog 32 #[.slice (some ⟨b, off, none⟩) n cap, .func (.func 33) #[] #[]] w
      fun x w' => x = .returned (.tuple #[]) ∧ ∃ p', Row6 53 w' b off es p' n ∧ Mem (fun k => k) p' 0 n ∧ Srt lt p' 0 n ∧ Sw b w w' := by
  have CALL := Lib.hid (Fd_stable es b off n cap w hr hn ho lt hlt hc)
  clear hr ho hc
  go_enter Try.func32, Try.ntmps32
  go_wp2_with (go_at_call 54; refine CALL.out.mono ?_; rintro y w3 ⟨rfl, h3⟩)
  go_end0
  exact ⟨rfl, h3⟩
end Go.Proofs.Yteblimdbkiiaaaa
