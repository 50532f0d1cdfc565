/- capture: Merge of the reference; Ordered. -/
import Derived.Test.YtccknpdnapoboaaDoorCqR
namespace Go.Proofs.YtccknpdnapoboaaDoor
open Go.RowKit

theorem mrg_left (f : Nat) (a : Cp) (la : List Cp) : mrg (f + 1) (a :: la) [] = a :: mrg f la [] := rfl
theorem mrg_right (f : Nat) (b : Cp) (lb : List Cp) : mrg (f + 1) [] (b :: lb) = b :: mrg f [] lb := rfl
theorem mrg_both (f : Nat) (a b : Cp) (la lb : List Cp) : mrg (f + 1) (a :: la) (b :: lb) = if a.t ≤ b.t then a :: mrg f la (b :: lb) else b :: mrg f (a :: la) lb := rfl
set_option linter.unusedSimpArgs false in
set_option linter.unusedVariables false in
set_option maxRecDepth 100000 in
set_option maxHeartbeats 8000000 in
theorem rmerge_any (va vb : Value) (l1 l2 : List Cp) (w : World) (h1 : Cps w va l1) (h2 : Cps w vb l2) (hm1 : l1.length ≤ 64) (hm2 : l2.length ≤ 64) :
    Calls Tryd.prog 23 #[va, vb] w fun e w' => ∃ v', e = .returned v' ∧ Cps w' v' (mrg (l1.length + l2.length) l1 l2) ∧ Below w.heap.size w w' := by
  obtain ⟨i5, hi5, hy0, hy1, hy2⟩ := info_parts Tryd.info_cp
  obtain ⟨R, hR⟩ : ∃ R, mrg (l1.length + l2.length) l1 l2 = R := ⟨_, rfl⟩
  rw [hR]
  obtain ⟨n0, hn0⟩ : ∃ n, l1.length = n := ⟨_, rfl⟩
  obtain ⟨n1, hn1⟩ : ∃ n, l2.length = n := ⟨_, rfl⟩
  have hva : ∃ a c, va = .slice a n0 c := by
    obtain ⟨_, ao, cap, rfl, _⟩ := h1
    exact ⟨ao, cap, by rw [hn0]⟩
  have hvb : ∃ a c, vb = .slice a n1 c := by
    obtain ⟨_, ao, cap, rfl, _⟩ := h2
    exact ⟨ao, cap, by rw [hn1]⟩
  obtain ⟨a0, c0, rfl⟩ := hva
  obtain ⟨a1, c1, rfl⟩ := hvb
  have HR : Hid (R = [] ++ mrg ((n0 - 0) + (n1 - 0)) (l1.drop 0) (l2.drop 0)) := Lib.hid (by rw [← hR, hn0, hn1]; simp)
  rw [hn0] at hm1
  rw [hn1] at hm2
  have HC0 := Lib.hid h1
  have HC1 := Lib.hid h2
  have HN0 := Lib.hid hn0
  have HN1 := Lib.hid hn1
  have HI0 : Hid (CpJ w.heap.size 35 (w.alloc (.cells #[] 35)) (.slice (some ⟨w.heap.size, 0, none⟩) 0 0) [] []) := Lib.hid ⟨rfl, World.ownsRow_made (base := w.heap.size) (e := 35) (size := 5) w #[] 0 (Nat.le_refl _) (by unfold maxLen; omega) rfl, fun j h => absurd h (by simp)⟩
  clear h1 h2 hR hn0 hn1
  go_enter Tryd.func23, Tryd.ntmps23
  go_wp2_with fail
  go_loopw [5, 6, 7] (fun out i k wr => ∃ (I K : Nat) (ts : List Cp) (vs : List Value), i = .int .i64 I ∧ k = .int .i64 K ∧ I ≤ n0 ∧ K ≤ n1 ∧ Hid (R = ts ++ mrg ((n0 - I) + (n1 - K)) (l1.drop I) (l2.drop K)) ∧ ts.length = I + K ∧ Hid (CpJ w.heap.size 35 wr out ts vs) ∧ Below w.heap.size w wr) (fun _ i k _ => (n0 + n1) - ((intOf i).toNat + (intOf k).toNat))
  case atStart => exact ⟨0, 0, [], [], by simp, by simp, Nat.zero_le _, Nat.zero_le _, HR, rfl, HI0, (Below.refl _ _).alloc (Nat.le_refl _) _⟩
  case round =>
    clear HR HI0
    obtain ⟨I, K, ts, vs, rfl, rfl, hI0, hK0, hR, hlen, hinv, hBw⟩ := hrel
    have hlen2 : ts.length ≤ 128 := by omega
    replace hlen := Lib.hid hlen
    by_cases hI : I < n0
    · have hIl : I < l1.length := by rw [HN0.out]; exact hI
      obtain ⟨b0, o0, rfl, hb0, hx0⟩ := HC0.out.2.elim fun ao h => h.elim fun cap h => by
        have e := h.1
        rw [HN0.out] at e
        cases e
        exact h.2 (by omega)
      have g0 : decide (I < n0) = true := by simpa using hI
      have g0' : decide ((I : Int) < (n0 : Int)) = true := by simp; omega
      have i0 : (I : Int) < (n0 : Int) := by omega
      have wI : IntKind.i64.wrap ((I : Int) + 1) = (I : Int) + 1 := IntWalk.i64_in _ (by omega)
      have hd0 : l1.drop I = l1[I] :: l1.drop (I + 1) := List.drop_eq_getElem_cons hIl
      by_cases hK : K < n1
      · have hKl : K < l2.length := by rw [HN1.out]; exact hK
        obtain ⟨b1, o1, rfl, hb1, hx1⟩ := HC1.out.2.elim fun ao h => h.elim fun cap h => by
          have e := h.1
          rw [HN1.out] at e
          cases e
          exact h.2 (by omega)
        have g1 : decide (K < n1) = true := by simpa using hK
        have g1' : decide ((K : Int) < (n1 : Int)) = true := by simp; omega
        have i1 : (K : Int) < (n1 : Int) := by omega
        have wK : IntKind.i64.wrap ((K : Int) + 1) = (K : Int) + 1 := IntWalk.i64_in _ (by omega)
        have hd1 : l2.drop K = l2[K] :: l2.drop (K + 1) := List.drop_eq_getElem_cons hKl
        have hmr : mrg ((n0 - I) + (n1 - K)) (l1.drop I) (l2.drop K) = if (l1[I]).t ≤ (l2[K]).t then l1[I] :: mrg ((n0 - (I + 1)) + (n1 - K)) (l1.drop (I + 1)) (l2.drop K) else l2[K] :: mrg ((n0 - I) + (n1 - (K + 1))) (l1.drop I) (l2.drop (K + 1)) := by
          rw [show (n0 - I) + (n1 - K) = ((n0 - (I + 1)) + (n1 - K)) + 1 by omega, show (n0 - I) + (n1 - (K + 1)) = (n0 - (I + 1)) + (n1 - K) by omega]
          conv => lhs; rw [hd0, hd1]
          rw [mrg_both, ← hd0, ← hd1]
        obtain ⟨_, _, dx, _⟩ := (hx0 I hIl).below hBw
        obtain ⟨_, _, dy, _⟩ := (hx1 K hKl).below hBw
        have e1 : ((K : Int) == (n1 : Int)) = false := by simp; omega
        by_cases hle : (l1[I]).t ≤ (l2[K]).t
        · have hR2 : R = (ts ++ [l1[I]]) ++ mrg ((n0 - (I + 1)) + (n1 - K)) (l1.drop (I + 1)) (l2.drop K) := by rw [hR.out, hmr, if_pos hle, List.append_assoc]; rfl
          obtain ⟨YT, hYT⟩ : ∃ q, (l2[K]).t = q := ⟨_, rfl⟩
          rw [hYT] at dy hle
          have hle' := hle
          clear hYT hmr dx
          obtain ⟨ra, rc, d0, d1, d2, d3, d4, hby⟩ := hx0 I hIl
          have hnil := hby.nil_or
          replace d0 := kc d0 hBw
          replace d1 := kc d1 hBw
          replace d2 := kc d2 hBw
          replace d3 := kc d3 hBw
          replace d4 := kc d4 hBw
          replace hby := hby.below hBw
          obtain ⟨⟨T, C, F, KD, bs⟩, hxe⟩ : ∃ t, l1[I] = t := ⟨_, rfl⟩
          rw [hxe] at d0 d1 d2 d3 d4 hby hnil hR2
          simp only at d0 d1 d2 d3 d4 hby hnil
          rw [hxe] at hle'
          simp only at hle'
          have HLE := Lib.hid hle'
          clear hle' hle
          obtain ⟨L_, hL⟩ : ∃ L, bs.length = L := ⟨_, rfl⟩
          rw [hL] at d4 hby hnil
          have HBY := Lib.hid hby
          have HNIL := Lib.hid hnil
          have HL := Lib.hid hL
          have hbr : b0 < wr.heap.size := Nat.lt_of_lt_of_le hb0 hBw.size
          have o1' : decide (T ≤ YT) = true := by have := HLE.out; simpa using this
          have HHR := Lib.hid hR2
          clear hby hL hR2 hR hxe hnil
          go_wp2_with fail
          go_quiet (fail)
          generalize hX : World.drewN wr _ = X1
          have hVX : Below wr.heap.size wr X1 := by rw [← hX]; exact below_drewN (Below.refl _ _) _
          have r0 := kc d0 hVX
          have r1 := kc d1 hVX
          have r2 := kc d2 hVX
          have r3 := kc d3 hVX
          have r4 := kc d4 hVX
          have HI := Lib.hid (hinv.out.below hVX)
          have HBO := Lib.hid (HBY.out.below hVX)
          have HF := Lib.hid (hBw.trans (hVX.mono hBw.size))
          have hubl : ∀ q, u5.ownBlock = some q → w.heap.size ≤ q := fun q hq => (HI.out.own.lt q hq).1
          clear hX hVX d0 d1 d2 d3 d4 hinv HBY hBw
          have hB7 := (Below.refl X1.heap.size X1).alloc (Nat.le_refl _) (.cells #[.int .i64 T, .int .i64 C, .int .i64 F, .int .i64 KD, .slice ra L_ rc] 35)
          have hinv7 := HI.out.below hB7
          have hby7 := HBO.out.below hB7
          have hf7 := HF.out.trans (hB7.mono HF.out.size)
          have hnew : ∀ j u, [Value.int .i64 T, .int .i64 C, .int .i64 F, .int .i64 KD, .slice ra L_ rc][j]? = some u → (X1.alloc (.cells #[.int .i64 T, .int .i64 C, .int .i64 F, .int .i64 KD, .slice ra L_ rc] 35)).cell? ((⟨X1.heap.size, 0, none⟩ : Addr).add j) = some u := fun j u hj => by
            have := cellNew X1 #[.int .i64 T, .int .i64 C, .int .i64 F, .int .i64 KD, .slice ra L_ rc] 35 j u (by simpa using hj)
            rw [addr_add, Nat.zero_add]
            exact this
          have hov : bs = [] ∨ ∃ b, (Value.slice ra L_ rc).ownBlock = some b ∧ b < (X1.alloc (.cells #[.int .i64 T, .int .i64 C, .int .i64 F, .int .i64 KD, .slice ra L_ rc] 35)).heap.size ∧ u5.ownBlock ≠ some b := by
            rcases HNIL.out with h | ⟨b', e1, e2⟩
            · exact .inl h
            · refine .inr ⟨b', e1, Nat.lt_of_lt_of_le e2 hf7.size, fun e => ?_⟩
              have q2 := hubl b' e
              omega
          have hsz7 : (X1.alloc (.cells #[.int .i64 T, .int .i64 C, .int .i64 F, .int .i64 KD, .slice ra L_ rc] 35)).heap.size = X1.heap.size + 1 := by simp
          have hflen : ts.length ≤ 200 := by omega
          have HIN := Lib.hid hinv7.own
          have HI7 := Lib.hid hinv7
          have HOV := Lib.hid hov
          have HV7 := Lib.hid hby7
          have HF7 := Lib.hid hf7
          have hbase : w.heap.size ≤ (X1.alloc (.cells #[.int .i64 T, .int .i64 C, .int .i64 F, .int .i64 KD, .slice ra L_ rc] 35)).heap.size := hf7.size
          clear hB7 hinv7 hby7 hf7 hov HI HBO HF
          go_wp2_with (at_builtin; refine wpList_append_own_at _ rfl _ _ 22 rfl w.heap.size 35 i5 _ 5 56 Tryd.underlying22 hi5 hy0 hy1 hy2 rfl (by decide) u5 ts.length _ rfl HIN.out ⟨X1.heap.size, 0, none⟩ 1 1 [Value.int .i64 T, .int .i64 C, .int .i64 F, .int .i64 KD, .slice ra L_ rc] rfl rfl hnew ?c2 (by unfold maxLen; omega) (by omega) hbase ?_)
          case c2 => intro u hu; simp at hu; rcases hu with rfl | rfl | rfl | rfl | rfl <;> rfl
          intro v6 w6 hown6 hg6 hnn6 hob6
          have hpush := HI7.out.push (t := ⟨T, C, F, KD, bs⟩) HV7.out HOV.out hown6 hg6 (by rw [hsz7]; exact hob6)
          have hB8 := HF7.out.grown hg6 hbase (fun q hq => (HIN.out.lt q hq).1)
          have HP := Lib.hid hpush
          have HB8 := Lib.hid hB8
          clear hpush hown6 hg6 hnn6 hob6 hB8 HIN HI7 HOV HV7 HF7 hnew hbase hsz7 hflen
          go_wp2
          go_roundw
          case rel => exact ⟨I + 1, K, _, _, by go_num, by go_num, by omega, by omega, HHR, by have := hlen.out; simp; omega, HP, HB8.out⟩
          case measure => simp [intOf]; omega
        · have hR2 : R = (ts ++ [l2[K]]) ++ mrg ((n0 - I) + (n1 - (K + 1))) (l1.drop I) (l2.drop (K + 1)) := by rw [hR.out, hmr, if_neg hle, List.append_assoc]; rfl
          obtain ⟨XT, hXT⟩ : ∃ q, (l1[I]).t = q := ⟨_, rfl⟩
          rw [hXT] at dx hle
          have hle' := hle
          clear hXT hmr dy
          obtain ⟨ra, rc, d0, d1, d2, d3, d4, hby⟩ := hx1 K hKl
          have hnil := hby.nil_or
          replace d0 := kc d0 hBw
          replace d1 := kc d1 hBw
          replace d2 := kc d2 hBw
          replace d3 := kc d3 hBw
          replace d4 := kc d4 hBw
          replace hby := hby.below hBw
          obtain ⟨⟨T, C, F, KD, bs⟩, hxe⟩ : ∃ t, l2[K] = t := ⟨_, rfl⟩
          rw [hxe] at d0 d1 d2 d3 d4 hby hnil hR2
          simp only at d0 d1 d2 d3 d4 hby hnil
          rw [hxe] at hle'
          simp only at hle'
          have HLE := Lib.hid hle'
          clear hle' hle
          obtain ⟨L_, hL⟩ : ∃ L, bs.length = L := ⟨_, rfl⟩
          rw [hL] at d4 hby hnil
          have HBY := Lib.hid hby
          have HNIL := Lib.hid hnil
          have HL := Lib.hid hL
          have hbr : b1 < wr.heap.size := Nat.lt_of_lt_of_le hb1 hBw.size
          have o1' : decide (XT ≤ T) = false := by have := HLE.out; simpa using this
          have HHR := Lib.hid hR2
          clear hby hL hR2 hR hxe hnil
          go_wp2_with fail
          go_quiet (fail)
          generalize hX : World.drewN wr _ = X1
          have hVX : Below wr.heap.size wr X1 := by rw [← hX]; exact below_drewN (Below.refl _ _) _
          have r0 := kc d0 hVX
          have r1 := kc d1 hVX
          have r2 := kc d2 hVX
          have r3 := kc d3 hVX
          have r4 := kc d4 hVX
          have HI := Lib.hid (hinv.out.below hVX)
          have HBO := Lib.hid (HBY.out.below hVX)
          have HF := Lib.hid (hBw.trans (hVX.mono hBw.size))
          have hubl : ∀ q, u5.ownBlock = some q → w.heap.size ≤ q := fun q hq => (HI.out.own.lt q hq).1
          clear hX hVX d0 d1 d2 d3 d4 hinv HBY hBw
          have hB7 := (Below.refl X1.heap.size X1).alloc (Nat.le_refl _) (.cells #[.int .i64 T, .int .i64 C, .int .i64 F, .int .i64 KD, .slice ra L_ rc] 35)
          have hinv7 := HI.out.below hB7
          have hby7 := HBO.out.below hB7
          have hf7 := HF.out.trans (hB7.mono HF.out.size)
          have hnew : ∀ j u, [Value.int .i64 T, .int .i64 C, .int .i64 F, .int .i64 KD, .slice ra L_ rc][j]? = some u → (X1.alloc (.cells #[.int .i64 T, .int .i64 C, .int .i64 F, .int .i64 KD, .slice ra L_ rc] 35)).cell? ((⟨X1.heap.size, 0, none⟩ : Addr).add j) = some u := fun j u hj => by
            have := cellNew X1 #[.int .i64 T, .int .i64 C, .int .i64 F, .int .i64 KD, .slice ra L_ rc] 35 j u (by simpa using hj)
            rw [addr_add, Nat.zero_add]
            exact this
          have hov : bs = [] ∨ ∃ b, (Value.slice ra L_ rc).ownBlock = some b ∧ b < (X1.alloc (.cells #[.int .i64 T, .int .i64 C, .int .i64 F, .int .i64 KD, .slice ra L_ rc] 35)).heap.size ∧ u5.ownBlock ≠ some b := by
            rcases HNIL.out with h | ⟨b', e1, e2⟩
            · exact .inl h
            · refine .inr ⟨b', e1, Nat.lt_of_lt_of_le e2 hf7.size, fun e => ?_⟩
              have q2 := hubl b' e
              omega
          have hsz7 : (X1.alloc (.cells #[.int .i64 T, .int .i64 C, .int .i64 F, .int .i64 KD, .slice ra L_ rc] 35)).heap.size = X1.heap.size + 1 := by simp
          have hflen : ts.length ≤ 200 := by omega
          have HIN := Lib.hid hinv7.own
          have HI7 := Lib.hid hinv7
          have HOV := Lib.hid hov
          have HV7 := Lib.hid hby7
          have HF7 := Lib.hid hf7
          have hbase : w.heap.size ≤ (X1.alloc (.cells #[.int .i64 T, .int .i64 C, .int .i64 F, .int .i64 KD, .slice ra L_ rc] 35)).heap.size := hf7.size
          clear hB7 hinv7 hby7 hf7 hov HI HBO HF
          go_wp2_with (at_builtin; refine wpList_append_own_at _ rfl _ _ 22 rfl w.heap.size 35 i5 _ 5 56 Tryd.underlying22 hi5 hy0 hy1 hy2 rfl (by decide) u5 ts.length _ rfl HIN.out ⟨X1.heap.size, 0, none⟩ 1 1 [Value.int .i64 T, .int .i64 C, .int .i64 F, .int .i64 KD, .slice ra L_ rc] rfl rfl hnew ?c2 (by unfold maxLen; omega) (by omega) hbase ?_)
          case c2 => intro u hu; simp at hu; rcases hu with rfl | rfl | rfl | rfl | rfl <;> rfl
          intro v6 w6 hown6 hg6 hnn6 hob6
          have hpush := HI7.out.push (t := ⟨T, C, F, KD, bs⟩) HV7.out HOV.out hown6 hg6 (by rw [hsz7]; exact hob6)
          have hB8 := HF7.out.grown hg6 hbase (fun q hq => (HIN.out.lt q hq).1)
          have HP := Lib.hid hpush
          have HB8 := Lib.hid hB8
          clear hpush hown6 hg6 hnn6 hob6 hB8 HIN HI7 HOV HV7 HF7 hnew hbase hsz7 hflen
          go_wp2
          go_roundw
          case rel => exact ⟨I, K + 1, _, _, by go_num, by go_num, by omega, by omega, HHR, by have := hlen.out; simp; omega, HP, HB8.out⟩
          case measure => simp [intOf]; omega
      · have hKe : K = n1 := by omega
        have hR2 : R = (ts ++ [l1[I]]) ++ mrg ((n0 - (I + 1)) + (n1 - K)) (l1.drop (I + 1)) (l2.drop K) := by
          rw [hR.out, List.drop_of_length_le (show l2.length ≤ K by rw [HN1.out]; omega), hd0, show (n0 - I) + (n1 - K) = ((n0 - (I + 1)) + (n1 - K)) + 1 by omega, mrg_left, List.append_assoc]; rfl
        have e1 : ((K : Int) == (n1 : Int)) = true := by simp; omega
        have hle' : True := trivial
        clear hKe
        obtain ⟨ra, rc, d0, d1, d2, d3, d4, hby⟩ := hx0 I hIl
        have hnil := hby.nil_or
        replace d0 := kc d0 hBw
        replace d1 := kc d1 hBw
        replace d2 := kc d2 hBw
        replace d3 := kc d3 hBw
        replace d4 := kc d4 hBw
        replace hby := hby.below hBw
        obtain ⟨⟨T, C, F, KD, bs⟩, hxe⟩ : ∃ t, l1[I] = t := ⟨_, rfl⟩
        rw [hxe] at d0 d1 d2 d3 d4 hby hnil hR2
        simp only at d0 d1 d2 d3 d4 hby hnil
        obtain ⟨L_, hL⟩ : ∃ L, bs.length = L := ⟨_, rfl⟩
        rw [hL] at d4 hby hnil
        have HBY := Lib.hid hby
        have HNIL := Lib.hid hnil
        have HL := Lib.hid hL
        have hbr : b0 < wr.heap.size := Nat.lt_of_lt_of_le hb0 hBw.size
        have HHR := Lib.hid hR2
        clear hby hL hR2 hR hxe hnil
        go_wp2_with fail
        go_quiet (fail)
        generalize hX : World.drewN wr _ = X1
        have hVX : Below wr.heap.size wr X1 := by rw [← hX]; exact below_drewN (Below.refl _ _) _
        have r0 := kc d0 hVX
        have r1 := kc d1 hVX
        have r2 := kc d2 hVX
        have r3 := kc d3 hVX
        have r4 := kc d4 hVX
        have HI := Lib.hid (hinv.out.below hVX)
        have HBO := Lib.hid (HBY.out.below hVX)
        have HF := Lib.hid (hBw.trans (hVX.mono hBw.size))
        have hubl : ∀ q, u5.ownBlock = some q → w.heap.size ≤ q := fun q hq => (HI.out.own.lt q hq).1
        clear hX hVX d0 d1 d2 d3 d4 hinv HBY hBw
        have hB7 := (Below.refl X1.heap.size X1).alloc (Nat.le_refl _) (.cells #[.int .i64 T, .int .i64 C, .int .i64 F, .int .i64 KD, .slice ra L_ rc] 35)
        have hinv7 := HI.out.below hB7
        have hby7 := HBO.out.below hB7
        have hf7 := HF.out.trans (hB7.mono HF.out.size)
        have hnew : ∀ j u, [Value.int .i64 T, .int .i64 C, .int .i64 F, .int .i64 KD, .slice ra L_ rc][j]? = some u → (X1.alloc (.cells #[.int .i64 T, .int .i64 C, .int .i64 F, .int .i64 KD, .slice ra L_ rc] 35)).cell? ((⟨X1.heap.size, 0, none⟩ : Addr).add j) = some u := fun j u hj => by
          have := cellNew X1 #[.int .i64 T, .int .i64 C, .int .i64 F, .int .i64 KD, .slice ra L_ rc] 35 j u (by simpa using hj)
          rw [addr_add, Nat.zero_add]
          exact this
        have hov : bs = [] ∨ ∃ b, (Value.slice ra L_ rc).ownBlock = some b ∧ b < (X1.alloc (.cells #[.int .i64 T, .int .i64 C, .int .i64 F, .int .i64 KD, .slice ra L_ rc] 35)).heap.size ∧ u5.ownBlock ≠ some b := by
          rcases HNIL.out with h | ⟨b', e1, e2⟩
          · exact .inl h
          · refine .inr ⟨b', e1, Nat.lt_of_lt_of_le e2 hf7.size, fun e => ?_⟩
            have q2 := hubl b' e
            omega
        have hsz7 : (X1.alloc (.cells #[.int .i64 T, .int .i64 C, .int .i64 F, .int .i64 KD, .slice ra L_ rc] 35)).heap.size = X1.heap.size + 1 := by simp
        have hflen : ts.length ≤ 200 := by omega
        have HIN := Lib.hid hinv7.own
        have HI7 := Lib.hid hinv7
        have HOV := Lib.hid hov
        have HV7 := Lib.hid hby7
        have HF7 := Lib.hid hf7
        have hbase : w.heap.size ≤ (X1.alloc (.cells #[.int .i64 T, .int .i64 C, .int .i64 F, .int .i64 KD, .slice ra L_ rc] 35)).heap.size := hf7.size
        clear hB7 hinv7 hby7 hf7 hov HI HBO HF
        go_wp2_with (at_builtin; refine wpList_append_own_at _ rfl _ _ 22 rfl w.heap.size 35 i5 _ 5 56 Tryd.underlying22 hi5 hy0 hy1 hy2 rfl (by decide) u5 ts.length _ rfl HIN.out ⟨X1.heap.size, 0, none⟩ 1 1 [Value.int .i64 T, .int .i64 C, .int .i64 F, .int .i64 KD, .slice ra L_ rc] rfl rfl hnew ?c2 (by unfold maxLen; omega) (by omega) hbase ?_)
        case c2 => intro u hu; simp at hu; rcases hu with rfl | rfl | rfl | rfl | rfl <;> rfl
        intro v6 w6 hown6 hg6 hnn6 hob6
        have hpush := HI7.out.push (t := ⟨T, C, F, KD, bs⟩) HV7.out HOV.out hown6 hg6 (by rw [hsz7]; exact hob6)
        have hB8 := HF7.out.grown hg6 hbase (fun q hq => (HIN.out.lt q hq).1)
        have HP := Lib.hid hpush
        have HB8 := Lib.hid hB8
        clear hpush hown6 hg6 hnn6 hob6 hB8 HIN HI7 HOV HV7 HF7 hnew hbase hsz7 hflen
        go_wp2
        go_roundw
        case rel => exact ⟨I + 1, K, _, _, by go_num, by go_num, by omega, by omega, HHR, by have := hlen.out; simp; omega, HP, HB8.out⟩
        case measure => simp [intOf]; omega
    · have g0 : decide (I < n0) = false := by simpa using hI
      have g0' : decide ((I : Int) < (n0 : Int)) = false := by simp; omega
      by_cases hK : K < n1
      · have hKl : K < l2.length := by rw [HN1.out]; exact hK
        obtain ⟨b1, o1, rfl, hb1, hx1⟩ := HC1.out.2.elim fun ao h => h.elim fun cap h => by
          have e := h.1
          rw [HN1.out] at e
          cases e
          exact h.2 (by omega)
        have g1 : decide (K < n1) = true := by simpa using hK
        have g1' : decide ((K : Int) < (n1 : Int)) = true := by simp; omega
        have i1 : (K : Int) < (n1 : Int) := by omega
        have wK : IntKind.i64.wrap ((K : Int) + 1) = (K : Int) + 1 := IntWalk.i64_in _ (by omega)
        have hd1 : l2.drop K = l2[K] :: l2.drop (K + 1) := List.drop_eq_getElem_cons hKl
        have hR2 : R = (ts ++ [l2[K]]) ++ mrg ((n0 - I) + (n1 - (K + 1))) (l1.drop I) (l2.drop (K + 1)) := by
          rw [hR.out, List.drop_of_length_le (show l1.length ≤ I by rw [HN0.out]; omega), hd1, show (n0 - I) + (n1 - K) = ((n0 - I) + (n1 - (K + 1))) + 1 by omega, mrg_right, List.append_assoc]; rfl
        have e1 : ((K : Int) == (n1 : Int)) = false := by simp; omega
        have hle' : True := trivial
        obtain ⟨ra, rc, d0, d1, d2, d3, d4, hby⟩ := hx1 K hKl
        have hnil := hby.nil_or
        replace d0 := kc d0 hBw
        replace d1 := kc d1 hBw
        replace d2 := kc d2 hBw
        replace d3 := kc d3 hBw
        replace d4 := kc d4 hBw
        replace hby := hby.below hBw
        obtain ⟨⟨T, C, F, KD, bs⟩, hxe⟩ : ∃ t, l2[K] = t := ⟨_, rfl⟩
        rw [hxe] at d0 d1 d2 d3 d4 hby hnil hR2
        simp only at d0 d1 d2 d3 d4 hby hnil
        obtain ⟨L_, hL⟩ : ∃ L, bs.length = L := ⟨_, rfl⟩
        rw [hL] at d4 hby hnil
        have HBY := Lib.hid hby
        have HNIL := Lib.hid hnil
        have HL := Lib.hid hL
        have hbr : b1 < wr.heap.size := Nat.lt_of_lt_of_le hb1 hBw.size
        have HHR := Lib.hid hR2
        clear hby hL hR2 hR hxe hnil
        go_wp2_with fail
        go_quiet (fail)
        generalize hX : World.drewN wr _ = X1
        have hVX : Below wr.heap.size wr X1 := by rw [← hX]; exact below_drewN (Below.refl _ _) _
        have r0 := kc d0 hVX
        have r1 := kc d1 hVX
        have r2 := kc d2 hVX
        have r3 := kc d3 hVX
        have r4 := kc d4 hVX
        have HI := Lib.hid (hinv.out.below hVX)
        have HBO := Lib.hid (HBY.out.below hVX)
        have HF := Lib.hid (hBw.trans (hVX.mono hBw.size))
        have hubl : ∀ q, u5.ownBlock = some q → w.heap.size ≤ q := fun q hq => (HI.out.own.lt q hq).1
        clear hX hVX d0 d1 d2 d3 d4 hinv HBY hBw
        have hB7 := (Below.refl X1.heap.size X1).alloc (Nat.le_refl _) (.cells #[.int .i64 T, .int .i64 C, .int .i64 F, .int .i64 KD, .slice ra L_ rc] 35)
        have hinv7 := HI.out.below hB7
        have hby7 := HBO.out.below hB7
        have hf7 := HF.out.trans (hB7.mono HF.out.size)
        have hnew : ∀ j u, [Value.int .i64 T, .int .i64 C, .int .i64 F, .int .i64 KD, .slice ra L_ rc][j]? = some u → (X1.alloc (.cells #[.int .i64 T, .int .i64 C, .int .i64 F, .int .i64 KD, .slice ra L_ rc] 35)).cell? ((⟨X1.heap.size, 0, none⟩ : Addr).add j) = some u := fun j u hj => by
          have := cellNew X1 #[.int .i64 T, .int .i64 C, .int .i64 F, .int .i64 KD, .slice ra L_ rc] 35 j u (by simpa using hj)
          rw [addr_add, Nat.zero_add]
          exact this
        have hov : bs = [] ∨ ∃ b, (Value.slice ra L_ rc).ownBlock = some b ∧ b < (X1.alloc (.cells #[.int .i64 T, .int .i64 C, .int .i64 F, .int .i64 KD, .slice ra L_ rc] 35)).heap.size ∧ u5.ownBlock ≠ some b := by
          rcases HNIL.out with h | ⟨b', e1, e2⟩
          · exact .inl h
          · refine .inr ⟨b', e1, Nat.lt_of_lt_of_le e2 hf7.size, fun e => ?_⟩
            have q2 := hubl b' e
            omega
        have hsz7 : (X1.alloc (.cells #[.int .i64 T, .int .i64 C, .int .i64 F, .int .i64 KD, .slice ra L_ rc] 35)).heap.size = X1.heap.size + 1 := by simp
        have hflen : ts.length ≤ 200 := by omega
        have HIN := Lib.hid hinv7.own
        have HI7 := Lib.hid hinv7
        have HOV := Lib.hid hov
        have HV7 := Lib.hid hby7
        have HF7 := Lib.hid hf7
        have hbase : w.heap.size ≤ (X1.alloc (.cells #[.int .i64 T, .int .i64 C, .int .i64 F, .int .i64 KD, .slice ra L_ rc] 35)).heap.size := hf7.size
        clear hB7 hinv7 hby7 hf7 hov HI HBO HF
        go_wp2_with (at_builtin; refine wpList_append_own_at _ rfl _ _ 22 rfl w.heap.size 35 i5 _ 5 56 Tryd.underlying22 hi5 hy0 hy1 hy2 rfl (by decide) u5 ts.length _ rfl HIN.out ⟨X1.heap.size, 0, none⟩ 1 1 [Value.int .i64 T, .int .i64 C, .int .i64 F, .int .i64 KD, .slice ra L_ rc] rfl rfl hnew ?c2 (by unfold maxLen; omega) (by omega) hbase ?_)
        case c2 => intro u hu; simp at hu; rcases hu with rfl | rfl | rfl | rfl | rfl <;> rfl
        intro v6 w6 hown6 hg6 hnn6 hob6
        have hpush := HI7.out.push (t := ⟨T, C, F, KD, bs⟩) HV7.out HOV.out hown6 hg6 (by rw [hsz7]; exact hob6)
        have hB8 := HF7.out.grown hg6 hbase (fun q hq => (HIN.out.lt q hq).1)
        have HP := Lib.hid hpush
        have HB8 := Lib.hid hB8
        clear hpush hown6 hg6 hnn6 hob6 hB8 HIN HI7 HOV HV7 HF7 hnew hbase hsz7 hflen
        go_wp2
        go_roundw
        case rel => exact ⟨I, K + 1, _, _, by go_num, by go_num, by omega, by omega, HHR, by have := hlen.out; simp; omega, HP, HB8.out⟩
        case measure => simp [intOf]; omega
      · have g1 : decide (K < n1) = false := by simpa using hK
        have g1' : decide ((K : Int) < (n1 : Int)) = false := by simp; omega
        have hRR := hR.out
        rw [List.drop_of_length_le (show l1.length ≤ I by rw [HN0.out]; omega), List.drop_of_length_le (show l2.length ≤ K by rw [HN1.out]; omega), mrg_nil, List.append_nil] at hRR
        subst hRR
        have hcp := hinv.out.cps
        clear hinv hR
        go_wp2
        go_ret
        exact ⟨_, rfl, hcp, hBw⟩
end Go.Proofs.YtccknpdnapoboaaDoor
