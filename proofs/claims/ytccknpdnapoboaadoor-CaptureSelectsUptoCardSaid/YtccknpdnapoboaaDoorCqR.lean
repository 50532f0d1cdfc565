/- capture: Merge. -/
import Derived.Test.YtccknpdnapoboaaDoorCqN
import Derived.BigQuiet
namespace Go.Proofs.YtccknpdnapoboaaDoor
open Go.RowKit

/-- two captures as one -/
def mrg : Nat → List Cp → List Cp → List Cp
  | 0, _, _ => []
  | _+1, [], [] => []
  | f+1, [], b :: lb => b :: mrg f [] lb
  | f+1, a :: la, [] => a :: mrg f la []
  | f+1, a :: la, b :: lb => if a.t ≤ b.t then a :: mrg f la (b :: lb) else b :: mrg f (a :: la) lb
theorem mrg_nil (f : Nat) : mrg f [] [] = [] := by cases f <;> rfl
theorem CpsC.below {w w' : World} {v : Value} {ts : List Cp} (h : CpsC w v ts) (hb : Below w.heap.size w w') : CpsC w' v ts := ⟨h.1.below hb, h.2⟩
/-- what 's[1:]' of records hands back -/
theorem cps_tail (w : World) (a : Option Addr) (N n c : Nat) (x : Cp) (ts : List Cp) (h : CpsC w (.slice a N c) (x :: ts)) (hn : ts.length = n) (hN : n + 1 = N) :
    ∃ b off a' c', a = some ⟨b, off, none⟩ ∧ b < w.heap.size ∧ CpAt w b off 0 x ∧ CpsC w (.slice a' n c') ts ∧ ∀ W, (Instr.slice 22 (.slice a N c) (some (.int .i64 1)) none none).run Tryd.prog W = .ok (.slice a' n c') W := by
  subst hN
  obtain ⟨⟨hm, ao, cap, e, hcell⟩, hcap⟩ := h
  have hc := hcap _ _ _ rfl
  simp only [List.length_cons, hn] at e
  cases e
  obtain ⟨b, off, rfl, hb, hcs⟩ := hcell (by simp)
  refine ⟨b, off, if c = 1 then some ⟨b, off, none⟩ else (some ⟨b, off, none⟩ : Option Addr).map (·.add 5), c - 1, rfl, hb, hcs 0 (by simp), ⟨⟨by simp at hm; omega, _, _, by rw [hn], ?_⟩, fun a' n' c' e' => by cases e'; omega⟩, fun W => ?_⟩
  · intro h0
    have : ¬ c = 1 := by omega
    rw [if_neg this]
    refine ⟨b, off + 5, by simp [addr_off], hb, fun k hk => ?_⟩
    have := hcs (k + 1) (by simp; omega)
    simp only [List.getElem_cons_succ] at this
    obtain ⟨t, ht⟩ : ∃ t, ts[k] = t := ⟨_, rfl⟩
    rw [ht] at this ⊢
    have e : k + 1 = 1 + k := by omega
    rw [e] at this
    exact this.shift
  · have hu : Tryd.prog.underlying 22 = some (.slice (Tryd.prog.elem 22)) := by kernel_rfl
    rw [run_slice_l (ht := hu) (kl := .i64) (l := (1 : Int)) (h0 := by omega) (h1 := by omega)]
    have hs : (sizeOf (Tryd.prog.elem 22)).run Tryd.prog W = .ok 5 W := by kernel_rfl
    rw [hs]
    simp [Result.andThen, sliced]
def slLen : Value → Nat
  | .slice _ n _ => n
  | _ => 0
set_option linter.unusedSimpArgs false in
set_option linter.unusedVariables false in
set_option maxRecDepth 100000 in
set_option maxHeartbeats 8000000 in
theorem merge_any (va vb : Value) (l1 l2 : List Cp) (w : World) (h1 : CpsC w va l1) (h2 : CpsC w vb l2) (hm1 : l1.length ≤ 64) (hm2 : l2.length ≤ 64) :
    Calls Tryd.prog 22 #[va, vb] w fun e w' => ∃ v', e = .returned v' ∧ Cps w' v' (mrg (l1.length + l2.length) l1 l2) ∧ Below w.heap.size w w' := by
  obtain ⟨i5, hi5, hy0, hy1, hy2⟩ := info_parts Tryd.info_cp
  obtain ⟨R, hR⟩ : ∃ R, mrg (l1.length + l2.length) l1 l2 = R := ⟨_, rfl⟩
  rw [hR]
  have HR : Hid (R = [] ++ mrg (l1.length + l2.length) l1 l2) := Lib.hid (by rw [hR]; rfl)
  have HA := Lib.hid h1
  have HB := Lib.hid h2
  have HI0 := Lib.hid (CpI.nil w.heap.size 35 w)
  clear h1 h2 hR
  go_enter Tryd.func22, Tryd.ntmps22
  go_wp2_with fail
  go_loopw [0, 1, 5] (fun t0 t1 out wr => ∃ (la lb ts : List Cp) (vs : List Value) (n0 n1 : Nat) (a0 a1 : Option Addr) (c0 c1 : Nat), t0 = .slice a0 n0 c0 ∧ t1 = .slice a1 n1 c1 ∧ Hid (la.length = n0) ∧ Hid (lb.length = n1) ∧ Hid (CpsC w (.slice a0 n0 c0) la) ∧ Hid (CpsC w (.slice a1 n1 c1) lb) ∧ Hid (R = ts ++ mrg (n0 + n1) la lb) ∧ ts.length + (n0 + n1) ≤ 128 ∧ Hid (CpI w.heap.size 35 wr out ts vs) ∧ Below w.heap.size w wr) (fun t0 t1 _ _ => slLen t0 + slLen t1)
  case atStart =>
    obtain ⟨⟨_, ao, cap, e1, _⟩, _⟩ := HA.out
    obtain ⟨⟨_, ao2, cap2, e2, _⟩, _⟩ := HB.out
    exact ⟨l1, l2, [], [], l1.length, l2.length, ao, ao2, cap, cap2, e1, e2, Lib.hid rfl, Lib.hid rfl, by rw [← e1]; exact HA, by rw [← e2]; exact HB, HR, by simp; omega, HI0, Below.refl _ _⟩
  case round =>
    clear HA HB HR HI0
    obtain ⟨la, lb, ts, vs, n0, n1, a0, a1, c0, c1, rfl, rfl, hl0, hl1, hA, hB, hR, hlen, hinv, hBw⟩ := hrel
    cases la with
    | nil =>
      have z0 : n0 = 0 := hl0.out.symm
      subst z0
      cases lb with
      | nil =>
        have z1 : n1 = 0 := hl1.out.symm
        subst z1
        have hRR := hR.out
        rw [mrg_nil, List.append_nil] at hRR
        subst hRR
        have hcp := hinv.out.cps
        clear hinv hR
        go_wp2
        go_ret
        exact ⟨_, rfl, hcp, hBw⟩
      | cons y ly =>
        obtain ⟨m1, hm1⟩ : ∃ m, m + 1 = n1 := ⟨ly.length, hl1.out⟩
        have hln1 : ly.length = m1 := by have := hl1.out; simp at this; omega
        obtain ⟨b1, o1, a1', c1', rfl, hb1, hat1, htl1, hrun1⟩ := cps_tail w a1 n1 m1 c1 y ly hB.out hln1 hm1
        have p1 : 0 < n1 := by omega
        have g1 : decide (0 < n1) = true := by simpa using p1
        have g1' : decide ((0 : Int) < (n1 : Int)) = true := by simp; omega
        have e1 : ((n1 : Int) == 0) = false := by simp; omega
        have i1 : (0 : Int) < (n1 : Int) := by omega
        have hR2 : R = (ts ++ [y]) ++ mrg (0 + m1) [] ly := by rw [hR.out, ← hm1, ← Nat.add_assoc, List.append_assoc]; rfl
        obtain ⟨⟨T, C, F, KD, bs⟩, hxe⟩ : ∃ t, y = t := ⟨_, rfl⟩
        subst hxe
        obtain ⟨ra, rc, d0, d1, d2, d3, d4, hby⟩ := hat1.below hBw
        simp only [Nat.zero_mul, Nat.add_zero] at d0 d1 d2 d3 d4
        simp only at d0 d1 d2 d3 d4 hby
        obtain ⟨L, hL⟩ : ∃ L, bs.length = L := ⟨_, rfl⟩
        rw [hL] at d4 hby
        have HBY := Lib.hid hby
        have HL := Lib.hid hL
        have hbr : b1 < wr.heap.size := Nat.lt_of_lt_of_le hb1 hBw.size
        have HTL := Lib.hid htl1
        have HHR := Lib.hid hR2
        have HLN := Lib.hid hln1
        have HMN := Lib.hid hm1
        clear hby hL htl1 hR2 hln1 hm1 hR
        go_wp2_with fail
        go_quiet (fail)
        generalize hX : World.drewN wr _ = X1
        have hVX : Below wr.heap.size wr X1 := by rw [← hX]; exact below_drewN (Below.refl _ _) _
        have r0 := kc d0 hVX
        have r1 := kc d1 hVX
        have r2 := kc d2 hVX
        have r3 := kc d3 hVX
        have r4 := kc d4 hVX
        have HI := Lib.hid (hinv.out.below hVX)
        have HBV := Lib.hid (HBY.out.below hVX)
        have HF := Lib.hid (hBw.trans (hVX.mono hBw.size))
        clear hX hVX d0 d1 d2 d3 d4 hinv HBY hBw
        go_wp2_with fail
        refine (copied_any T C F KD ra L rc bs HL.out X1 HBV.out).mono ?_
        rintro e W ⟨xa, xc, rfl, hbo, hon, hBW⟩
        have hubl : ∀ q, u5.ownBlock = some q → q < X1.heap.size := fun q hq => (HI.out.own.lt q hq).2
        replace HI := Lib.hid (HI.out.below hBW)
        have HBO := Lib.hid hbo
        have hsX := HF.out.size
        replace HF := Lib.hid (HF.out.trans (hBW.mono HF.out.size))
        have hon2 : Own w.heap.size (.slice xa L xc) := hon.mono hsX
        clear hbo hBW hsX HBV

        have hB7 := (Below.refl W.heap.size W).alloc (Nat.le_refl _) (.cells #[.int .i64 T, .int .i64 C, .int .i64 F, .int .i64 KD, .slice xa L xc] 35)
        have hinv7 := HI.out.below hB7
        have hby7 := HBO.out.below hB7
        have hf7 := HF.out.trans (hB7.mono HF.out.size)
        have hnew : ∀ j u, [Value.int .i64 T, .int .i64 C, .int .i64 F, .int .i64 KD, .slice xa L xc][j]? = some u → (W.alloc (.cells #[.int .i64 T, .int .i64 C, .int .i64 F, .int .i64 KD, .slice xa L xc] 35)).cell? ((⟨W.heap.size, 0, none⟩ : Addr).add j) = some u := fun j u hj => by
          have := cellNew W #[.int .i64 T, .int .i64 C, .int .i64 F, .int .i64 KD, .slice xa L xc] 35 j u (by simpa using hj)
          rw [addr_add, Nat.zero_add]
          exact this
        have hov : bs = [] ∨ ∃ b, (Value.slice xa L xc).ownBlock = some b ∧ b < (W.alloc (.cells #[.int .i64 T, .int .i64 C, .int .i64 F, .int .i64 KD, .slice xa L xc] 35)).heap.size ∧ u5.ownBlock ≠ some b := by
          rcases hby7.nil_or with h | ⟨b', e1, e2⟩
          · exact .inl h
          · refine .inr ⟨b', e1, e2, fun e => ?_⟩
            have q1 := hon b' e1
            have q2 := hubl b' e
            omega
        have hsz7 : (W.alloc (.cells #[.int .i64 T, .int .i64 C, .int .i64 F, .int .i64 KD, .slice xa L xc] 35)).heap.size = W.heap.size + 1 := by simp
        have hflen : ts.length ≤ 200 := by omega
        have HIN := Lib.hid hinv7.own
        have HI7 := Lib.hid hinv7
        have HOV := Lib.hid hov
        have HV7 := Lib.hid hby7
        have HF7 := Lib.hid hf7
        have hbase : w.heap.size ≤ (W.alloc (.cells #[.int .i64 T, .int .i64 C, .int .i64 F, .int .i64 KD, .slice xa L xc] 35)).heap.size := hf7.size
        clear hB7 hinv7 hby7 hf7 hov HI HBO HF
        go_wp2_with (at_builtin; refine wpList_append_own_at _ rfl _ _ 22 rfl w.heap.size 35 i5 _ 5 56 Tryd.underlying22 hi5 hy0 hy1 hy2 rfl (by decide) u5 ts.length _ rfl HIN.out ⟨W.heap.size, 0, none⟩ 1 1 [Value.int .i64 T, .int .i64 C, .int .i64 F, .int .i64 KD, .slice xa L xc] rfl rfl hnew ?c2 (by unfold maxLen; omega) (by omega) hbase ?_)
        case c2 => intro u hu; simp at hu; rcases hu with rfl | rfl | rfl | rfl | rfl <;> rfl
        intro v6 w6 hown6 hg6 hnn6 hob6
        have hpush := HI7.out.push (t := ⟨T, C, F, KD, bs⟩) HV7.out hon2 HOV.out hown6 hg6 (by rw [hsz7]; exact hob6)
        have hB8 := HF7.out.grown hg6 hbase (fun q hq => (HIN.out.lt q hq).1)
        have HP := Lib.hid hpush
        have HB8 := Lib.hid hB8
        clear hpush hown6 hg6 hnn6 hob6 hB8 HIN HI7 HOV HV7 HF7 hnew hbase hsz7 hflen
        go_wp2
        go_roundw
        case rel => exact ⟨[], ly, _, _, 0, m1, a0, a1', c0, c1', rfl, rfl, Lib.hid rfl, HLN, hA, HTL, HHR, by simp; have := HMN.out; omega, HP, HB8.out⟩
        case measure => have := HMN.out; simp [slLen]; omega
    | cons x lx =>
      obtain ⟨m0, hm0⟩ : ∃ m, m + 1 = n0 := ⟨lx.length, hl0.out⟩
      have hln0 : lx.length = m0 := by have := hl0.out; simp at this; omega
      obtain ⟨b0, o0, a0', c0', rfl, hb0, hat0, htl0, hrun0⟩ := cps_tail w a0 n0 m0 c0 x lx hA.out hln0 hm0
      have p0 : 0 < n0 := by omega
      have g0 : decide (0 < n0) = true := by simpa using p0
      have g0' : decide ((0 : Int) < (n0 : Int)) = true := by simp; omega
      have e0 : ((n0 : Int) == 0) = false := by simp; omega
      have i0 : (0 : Int) < (n0 : Int) := by omega
      cases lb with
      | nil =>
        have z1 : n1 = 0 := hl1.out.symm
        subst z1
        have hR2 : R = (ts ++ [x]) ++ mrg (m0 + 0) lx [] := by rw [hR.out, ← hm0, Nat.add_zero, Nat.add_zero, List.append_assoc]; rfl
        obtain ⟨⟨T, C, F, KD, bs⟩, hxe⟩ : ∃ t, x = t := ⟨_, rfl⟩
        subst hxe
        obtain ⟨ra, rc, d0, d1, d2, d3, d4, hby⟩ := hat0.below hBw
        simp only [Nat.zero_mul, Nat.add_zero] at d0 d1 d2 d3 d4
        simp only at d0 d1 d2 d3 d4 hby
        obtain ⟨L, hL⟩ : ∃ L, bs.length = L := ⟨_, rfl⟩
        rw [hL] at d4 hby
        have HBY := Lib.hid hby
        have HL := Lib.hid hL
        have hbr : b0 < wr.heap.size := Nat.lt_of_lt_of_le hb0 hBw.size
        have HTL := Lib.hid htl0
        have HHR := Lib.hid hR2
        have HLN := Lib.hid hln0
        have HMN := Lib.hid hm0
        clear hby hL htl0 hR2 hln0 hm0 hR
        go_wp2_with fail
        go_quiet (fail)
        generalize hX : World.drewN wr _ = X1
        have hVX : Below wr.heap.size wr X1 := by rw [← hX]; exact below_drewN (Below.refl _ _) _
        have r0 := kc d0 hVX
        have r1 := kc d1 hVX
        have r2 := kc d2 hVX
        have r3 := kc d3 hVX
        have r4 := kc d4 hVX
        have HI := Lib.hid (hinv.out.below hVX)
        have HBV := Lib.hid (HBY.out.below hVX)
        have HF := Lib.hid (hBw.trans (hVX.mono hBw.size))
        clear hX hVX d0 d1 d2 d3 d4 hinv HBY hBw
        go_wp2_with fail
        refine (copied_any T C F KD ra L rc bs HL.out X1 HBV.out).mono ?_
        rintro e W ⟨xa, xc, rfl, hbo, hon, hBW⟩
        have hubl : ∀ q, u5.ownBlock = some q → q < X1.heap.size := fun q hq => (HI.out.own.lt q hq).2
        replace HI := Lib.hid (HI.out.below hBW)
        have HBO := Lib.hid hbo
        have hsX := HF.out.size
        replace HF := Lib.hid (HF.out.trans (hBW.mono HF.out.size))
        have hon2 : Own w.heap.size (.slice xa L xc) := hon.mono hsX
        clear hbo hBW hsX HBV

        have hB7 := (Below.refl W.heap.size W).alloc (Nat.le_refl _) (.cells #[.int .i64 T, .int .i64 C, .int .i64 F, .int .i64 KD, .slice xa L xc] 35)
        have hinv7 := HI.out.below hB7
        have hby7 := HBO.out.below hB7
        have hf7 := HF.out.trans (hB7.mono HF.out.size)
        have hnew : ∀ j u, [Value.int .i64 T, .int .i64 C, .int .i64 F, .int .i64 KD, .slice xa L xc][j]? = some u → (W.alloc (.cells #[.int .i64 T, .int .i64 C, .int .i64 F, .int .i64 KD, .slice xa L xc] 35)).cell? ((⟨W.heap.size, 0, none⟩ : Addr).add j) = some u := fun j u hj => by
          have := cellNew W #[.int .i64 T, .int .i64 C, .int .i64 F, .int .i64 KD, .slice xa L xc] 35 j u (by simpa using hj)
          rw [addr_add, Nat.zero_add]
          exact this
        have hov : bs = [] ∨ ∃ b, (Value.slice xa L xc).ownBlock = some b ∧ b < (W.alloc (.cells #[.int .i64 T, .int .i64 C, .int .i64 F, .int .i64 KD, .slice xa L xc] 35)).heap.size ∧ u5.ownBlock ≠ some b := by
          rcases hby7.nil_or with h | ⟨b', e1, e2⟩
          · exact .inl h
          · refine .inr ⟨b', e1, e2, fun e => ?_⟩
            have q1 := hon b' e1
            have q2 := hubl b' e
            omega
        have hsz7 : (W.alloc (.cells #[.int .i64 T, .int .i64 C, .int .i64 F, .int .i64 KD, .slice xa L xc] 35)).heap.size = W.heap.size + 1 := by simp
        have hflen : ts.length ≤ 200 := by omega
        have HIN := Lib.hid hinv7.own
        have HI7 := Lib.hid hinv7
        have HOV := Lib.hid hov
        have HV7 := Lib.hid hby7
        have HF7 := Lib.hid hf7
        have hbase : w.heap.size ≤ (W.alloc (.cells #[.int .i64 T, .int .i64 C, .int .i64 F, .int .i64 KD, .slice xa L xc] 35)).heap.size := hf7.size
        clear hB7 hinv7 hby7 hf7 hov HI HBO HF
        go_wp2_with (at_builtin; refine wpList_append_own_at _ rfl _ _ 22 rfl w.heap.size 35 i5 _ 5 56 Tryd.underlying22 hi5 hy0 hy1 hy2 rfl (by decide) u5 ts.length _ rfl HIN.out ⟨W.heap.size, 0, none⟩ 1 1 [Value.int .i64 T, .int .i64 C, .int .i64 F, .int .i64 KD, .slice xa L xc] rfl rfl hnew ?c2 (by unfold maxLen; omega) (by omega) hbase ?_)
        case c2 => intro u hu; simp at hu; rcases hu with rfl | rfl | rfl | rfl | rfl <;> rfl
        intro v6 w6 hown6 hg6 hnn6 hob6
        have hpush := HI7.out.push (t := ⟨T, C, F, KD, bs⟩) HV7.out hon2 HOV.out hown6 hg6 (by rw [hsz7]; exact hob6)
        have hB8 := HF7.out.grown hg6 hbase (fun q hq => (HIN.out.lt q hq).1)
        have HP := Lib.hid hpush
        have HB8 := Lib.hid hB8
        clear hpush hown6 hg6 hnn6 hob6 hB8 HIN HI7 HOV HV7 HF7 hnew hbase hsz7 hflen
        go_wp2
        go_roundw
        case rel => exact ⟨lx, [], _, _, m0, 0, a0', a1, c0', c1, rfl, rfl, HLN, Lib.hid rfl, HTL, hB, HHR, by simp; have := HMN.out; omega, HP, HB8.out⟩
        case measure => have := HMN.out; simp [slLen]; omega
      | cons y ly =>
        obtain ⟨m1, hm1⟩ : ∃ m, m + 1 = n1 := ⟨ly.length, hl1.out⟩
        have hln1 : ly.length = m1 := by have := hl1.out; simp at this; omega
        obtain ⟨b1, o1, a1', c1', rfl, hb1, hat1, htl1, hrun1⟩ := cps_tail w a1 n1 m1 c1 y ly hB.out hln1 hm1
        have p1 : 0 < n1 := by omega
        have g1 : decide (0 < n1) = true := by simpa using p1
        have g1' : decide ((0 : Int) < (n1 : Int)) = true := by simp; omega
        have e1 : ((n1 : Int) == 0) = false := by simp; omega
        have i1 : (0 : Int) < (n1 : Int) := by omega
        have hmr : mrg (n0 + n1) (x :: lx) (y :: ly) = if x.t ≤ y.t then x :: mrg (m0 + n1) lx (y :: ly) else y :: mrg (n0 + m1) (x :: lx) ly := by
          have e1 : n0 + n1 = (m0 + n1) + 1 := by omega
          have e2 : n0 + m1 = m0 + n1 := by omega
          rw [e1, e2]
          rfl
        obtain ⟨_, _, dy, _⟩ := hat1.below hBw
        obtain ⟨_, _, dx, _⟩ := hat0.below hBw
        simp only [Nat.zero_mul, Nat.add_zero] at dx dy
        by_cases hle : x.t ≤ y.t
        · have o1 : decide (x.t ≤ y.t) = true := by simpa using hle
          have hR2 : R = (ts ++ [x]) ++ mrg (m0 + n1) lx (y :: ly) := by rw [hR.out, hmr, if_pos hle, List.append_assoc]; rfl
          obtain ⟨YT, hYT⟩ : ∃ q, y.t = q := ⟨_, rfl⟩
          rw [hYT] at dy o1
          clear hle hYT hmr dx hln1 hm1 htl1 hrun1
          obtain ⟨⟨T, C, F, KD, bs⟩, hxe⟩ : ∃ t, x = t := ⟨_, rfl⟩
          subst hxe
          obtain ⟨ra, rc, d0, d1, d2, d3, d4, hby⟩ := hat0.below hBw
          simp only [Nat.zero_mul, Nat.add_zero] at d0 d1 d2 d3 d4
          simp only at d0 d1 d2 d3 d4 hby
          obtain ⟨L, hL⟩ : ∃ L, bs.length = L := ⟨_, rfl⟩
          rw [hL] at d4 hby
          have HBY := Lib.hid hby
          have HL := Lib.hid hL
          have hbr : b0 < wr.heap.size := Nat.lt_of_lt_of_le hb0 hBw.size
          have HTL := Lib.hid htl0
          have HHR := Lib.hid hR2
          have HLN := Lib.hid hln0
          have HMN := Lib.hid hm0
          clear hby hL htl0 hR2 hln0 hm0 hR
          go_wp2_with fail
          go_quiet (fail)
          generalize hX : World.drewN wr _ = X1
          have hVX : Below wr.heap.size wr X1 := by rw [← hX]; exact below_drewN (Below.refl _ _) _
          have r0 := kc d0 hVX
          have r1 := kc d1 hVX
          have r2 := kc d2 hVX
          have r3 := kc d3 hVX
          have r4 := kc d4 hVX
          have HI := Lib.hid (hinv.out.below hVX)
          have HBV := Lib.hid (HBY.out.below hVX)
          have HF := Lib.hid (hBw.trans (hVX.mono hBw.size))
          clear hX hVX d0 d1 d2 d3 d4 hinv HBY hBw
          go_wp2_with fail
          refine (copied_any T C F KD ra L rc bs HL.out X1 HBV.out).mono ?_
          rintro e W ⟨xa, xc, rfl, hbo, hon, hBW⟩
          have hubl : ∀ q, u5.ownBlock = some q → q < X1.heap.size := fun q hq => (HI.out.own.lt q hq).2
          replace HI := Lib.hid (HI.out.below hBW)
          have HBO := Lib.hid hbo
          have hsX := HF.out.size
          replace HF := Lib.hid (HF.out.trans (hBW.mono HF.out.size))
          have hon2 : Own w.heap.size (.slice xa L xc) := hon.mono hsX
          clear hbo hBW hsX HBV

          have hB7 := (Below.refl W.heap.size W).alloc (Nat.le_refl _) (.cells #[.int .i64 T, .int .i64 C, .int .i64 F, .int .i64 KD, .slice xa L xc] 35)
          have hinv7 := HI.out.below hB7
          have hby7 := HBO.out.below hB7
          have hf7 := HF.out.trans (hB7.mono HF.out.size)
          have hnew : ∀ j u, [Value.int .i64 T, .int .i64 C, .int .i64 F, .int .i64 KD, .slice xa L xc][j]? = some u → (W.alloc (.cells #[.int .i64 T, .int .i64 C, .int .i64 F, .int .i64 KD, .slice xa L xc] 35)).cell? ((⟨W.heap.size, 0, none⟩ : Addr).add j) = some u := fun j u hj => by
            have := cellNew W #[.int .i64 T, .int .i64 C, .int .i64 F, .int .i64 KD, .slice xa L xc] 35 j u (by simpa using hj)
            rw [addr_add, Nat.zero_add]
            exact this
          have hov : bs = [] ∨ ∃ b, (Value.slice xa L xc).ownBlock = some b ∧ b < (W.alloc (.cells #[.int .i64 T, .int .i64 C, .int .i64 F, .int .i64 KD, .slice xa L xc] 35)).heap.size ∧ u5.ownBlock ≠ some b := by
            rcases hby7.nil_or with h | ⟨b', e1, e2⟩
            · exact .inl h
            · refine .inr ⟨b', e1, e2, fun e => ?_⟩
              have q1 := hon b' e1
              have q2 := hubl b' e
              omega
          have hsz7 : (W.alloc (.cells #[.int .i64 T, .int .i64 C, .int .i64 F, .int .i64 KD, .slice xa L xc] 35)).heap.size = W.heap.size + 1 := by simp
          have hflen : ts.length ≤ 200 := by omega
          have HIN := Lib.hid hinv7.own
          have HI7 := Lib.hid hinv7
          have HOV := Lib.hid hov
          have HV7 := Lib.hid hby7
          have HF7 := Lib.hid hf7
          have hbase : w.heap.size ≤ (W.alloc (.cells #[.int .i64 T, .int .i64 C, .int .i64 F, .int .i64 KD, .slice xa L xc] 35)).heap.size := hf7.size
          clear hB7 hinv7 hby7 hf7 hov HI HBO HF
          go_wp2_with (at_builtin; refine wpList_append_own_at _ rfl _ _ 22 rfl w.heap.size 35 i5 _ 5 56 Tryd.underlying22 hi5 hy0 hy1 hy2 rfl (by decide) u5 ts.length _ rfl HIN.out ⟨W.heap.size, 0, none⟩ 1 1 [Value.int .i64 T, .int .i64 C, .int .i64 F, .int .i64 KD, .slice xa L xc] rfl rfl hnew ?c2 (by unfold maxLen; omega) (by omega) hbase ?_)
          case c2 => intro u hu; simp at hu; rcases hu with rfl | rfl | rfl | rfl | rfl <;> rfl
          intro v6 w6 hown6 hg6 hnn6 hob6
          have hpush := HI7.out.push (t := ⟨T, C, F, KD, bs⟩) HV7.out hon2 HOV.out hown6 hg6 (by rw [hsz7]; exact hob6)
          have hB8 := HF7.out.grown hg6 hbase (fun q hq => (HIN.out.lt q hq).1)
          have HP := Lib.hid hpush
          have HB8 := Lib.hid hB8
          clear hpush hown6 hg6 hnn6 hob6 hB8 HIN HI7 HOV HV7 HF7 hnew hbase hsz7 hflen
          go_wp2
          go_roundw
          case rel => exact ⟨lx, y :: ly, _, _, m0, n1, a0', _, c0', c1, rfl, rfl, HLN, hl1, HTL, hB, HHR, by simp; have := HMN.out; omega, HP, HB8.out⟩
          case measure => have := HMN.out; simp [slLen]; omega
        · have o1 : decide (x.t ≤ y.t) = false := by simpa using hle
          have hR2 : R = (ts ++ [y]) ++ mrg (n0 + m1) (x :: lx) ly := by rw [hR.out, hmr, if_neg hle, List.append_assoc]; rfl
          obtain ⟨XT, hXT⟩ : ∃ q, x.t = q := ⟨_, rfl⟩
          rw [hXT] at dx o1
          clear hle hXT hmr dy hln0 hm0 htl0 hrun0
          obtain ⟨⟨T, C, F, KD, bs⟩, hxe⟩ : ∃ t, y = t := ⟨_, rfl⟩
          subst hxe
          obtain ⟨ra, rc, d0, d1, d2, d3, d4, hby⟩ := hat1.below hBw
          simp only [Nat.zero_mul, Nat.add_zero] at d0 d1 d2 d3 d4
          simp only at d0 d1 d2 d3 d4 hby
          obtain ⟨L, hL⟩ : ∃ L, bs.length = L := ⟨_, rfl⟩
          rw [hL] at d4 hby
          have HBY := Lib.hid hby
          have HL := Lib.hid hL
          have hbr : b1 < wr.heap.size := Nat.lt_of_lt_of_le hb1 hBw.size
          have HTL := Lib.hid htl1
          have HHR := Lib.hid hR2
          have HLN := Lib.hid hln1
          have HMN := Lib.hid hm1
          clear hby hL htl1 hR2 hln1 hm1 hR
          go_wp2_with fail
          go_quiet (fail)
          generalize hX : World.drewN wr _ = X1
          have hVX : Below wr.heap.size wr X1 := by rw [← hX]; exact below_drewN (Below.refl _ _) _
          have r0 := kc d0 hVX
          have r1 := kc d1 hVX
          have r2 := kc d2 hVX
          have r3 := kc d3 hVX
          have r4 := kc d4 hVX
          have HI := Lib.hid (hinv.out.below hVX)
          have HBV := Lib.hid (HBY.out.below hVX)
          have HF := Lib.hid (hBw.trans (hVX.mono hBw.size))
          clear hX hVX d0 d1 d2 d3 d4 hinv HBY hBw
          go_wp2_with fail
          refine (copied_any T C F KD ra L rc bs HL.out X1 HBV.out).mono ?_
          rintro e W ⟨xa, xc, rfl, hbo, hon, hBW⟩
          have hubl : ∀ q, u5.ownBlock = some q → q < X1.heap.size := fun q hq => (HI.out.own.lt q hq).2
          replace HI := Lib.hid (HI.out.below hBW)
          have HBO := Lib.hid hbo
          have hsX := HF.out.size
          replace HF := Lib.hid (HF.out.trans (hBW.mono HF.out.size))
          have hon2 : Own w.heap.size (.slice xa L xc) := hon.mono hsX
          clear hbo hBW hsX HBV

          have hB7 := (Below.refl W.heap.size W).alloc (Nat.le_refl _) (.cells #[.int .i64 T, .int .i64 C, .int .i64 F, .int .i64 KD, .slice xa L xc] 35)
          have hinv7 := HI.out.below hB7
          have hby7 := HBO.out.below hB7
          have hf7 := HF.out.trans (hB7.mono HF.out.size)
          have hnew : ∀ j u, [Value.int .i64 T, .int .i64 C, .int .i64 F, .int .i64 KD, .slice xa L xc][j]? = some u → (W.alloc (.cells #[.int .i64 T, .int .i64 C, .int .i64 F, .int .i64 KD, .slice xa L xc] 35)).cell? ((⟨W.heap.size, 0, none⟩ : Addr).add j) = some u := fun j u hj => by
            have := cellNew W #[.int .i64 T, .int .i64 C, .int .i64 F, .int .i64 KD, .slice xa L xc] 35 j u (by simpa using hj)
            rw [addr_add, Nat.zero_add]
            exact this
          have hov : bs = [] ∨ ∃ b, (Value.slice xa L xc).ownBlock = some b ∧ b < (W.alloc (.cells #[.int .i64 T, .int .i64 C, .int .i64 F, .int .i64 KD, .slice xa L xc] 35)).heap.size ∧ u5.ownBlock ≠ some b := by
            rcases hby7.nil_or with h | ⟨b', e1, e2⟩
            · exact .inl h
            · refine .inr ⟨b', e1, e2, fun e => ?_⟩
              have q1 := hon b' e1
              have q2 := hubl b' e
              omega
          have hsz7 : (W.alloc (.cells #[.int .i64 T, .int .i64 C, .int .i64 F, .int .i64 KD, .slice xa L xc] 35)).heap.size = W.heap.size + 1 := by simp
          have hflen : ts.length ≤ 200 := by omega
          have HIN := Lib.hid hinv7.own
          have HI7 := Lib.hid hinv7
          have HOV := Lib.hid hov
          have HV7 := Lib.hid hby7
          have HF7 := Lib.hid hf7
          have hbase : w.heap.size ≤ (W.alloc (.cells #[.int .i64 T, .int .i64 C, .int .i64 F, .int .i64 KD, .slice xa L xc] 35)).heap.size := hf7.size
          clear hB7 hinv7 hby7 hf7 hov HI HBO HF
          go_wp2_with (at_builtin; refine wpList_append_own_at _ rfl _ _ 22 rfl w.heap.size 35 i5 _ 5 56 Tryd.underlying22 hi5 hy0 hy1 hy2 rfl (by decide) u5 ts.length _ rfl HIN.out ⟨W.heap.size, 0, none⟩ 1 1 [Value.int .i64 T, .int .i64 C, .int .i64 F, .int .i64 KD, .slice xa L xc] rfl rfl hnew ?c2 (by unfold maxLen; omega) (by omega) hbase ?_)
          case c2 => intro u hu; simp at hu; rcases hu with rfl | rfl | rfl | rfl | rfl <;> rfl
          intro v6 w6 hown6 hg6 hnn6 hob6
          have hpush := HI7.out.push (t := ⟨T, C, F, KD, bs⟩) HV7.out hon2 HOV.out hown6 hg6 (by rw [hsz7]; exact hob6)
          have hB8 := HF7.out.grown hg6 hbase (fun q hq => (HIN.out.lt q hq).1)
          have HP := Lib.hid hpush
          have HB8 := Lib.hid hB8
          clear hpush hown6 hg6 hnn6 hob6 hB8 HIN HI7 HOV HV7 HF7 hnew hbase hsz7 hflen
          go_wp2
          go_roundw
          case rel => exact ⟨x :: lx, ly, _, _, n0, m1, _, a1', c0, c1', rfl, rfl, hl0, HLN, hA, HTL, HHR, by simp; have := HMN.out; omega, HP, HB8.out⟩
          case measure => have := HMN.out; simp [slLen]; omega
end Go.Proofs.YtccknpdnapoboaaDoor
