/- air: the walk of AirHears. -/
import Derived.Test.YthemdbgcamkecaaRvD
namespace Go.Proofs.Ythemdbgcamkecaa
open Go.RowKit

theorem Try.bytes_listen : Try.prog.bytesOf 45 = 32 := by kernel_rfl
theorem Try.info_listen : (Try.prog.info? 45).map (fun i => (i.zero, i.size, i.bytes)) = some (some (.agg #[.int .i64 0, .int .i64 0, .int .i64 0, .int .i64 0]), 4, 32) := by kernel_rfl
theorem rd_listen {w : World} (cs : List Value) (h : Rd Try.prog w 45 cs) : ∃ t, cs = lenc t ∧ True := by
  obtain ⟨hl, hf⟩ := h.struct Try.underlying45
  rw [Try.cells_ln] at hl
  obtain ⟨c0, c1, c2, c3, rfl⟩ := list4 cs hl
  have f0 : Rd Try.prog w 3 (([c0, c1, c2, c3].drop 0).take (Try.prog.cellsOf 3)) := hf 0 _ rfl
  have f1 : Rd Try.prog w 3 (([c0, c1, c2, c3].drop 1).take (Try.prog.cellsOf 3)) := hf 1 _ rfl
  have f2 : Rd Try.prog w 3 (([c0, c1, c2, c3].drop 2).take (Try.prog.cellsOf 3)) := hf 2 _ rfl
  have f3 : Rd Try.prog w 3 (([c0, c1, c2, c3].drop 3).take (Try.prog.cellsOf 3)) := hf 3 _ rfl
  simp only [Try.cells_int, List.drop_succ_cons, List.drop_zero, List.take_succ_cons, List.take_zero] at f0 f1 f2 f3
  obtain ⟨x0, e0, _⟩ := f0.i64 Try.underlying3
  obtain ⟨x1, e1, _⟩ := f1.i64 Try.underlying3
  obtain ⟨x2, e2, _⟩ := f2.i64 Try.underlying3
  obtain ⟨x3, e3, _⟩ := f3.i64 Try.underlying3
  simp only [List.cons.injEq, and_true] at e0 e1 e2 e3
  subst e0 e1 e2 e3
  exact ⟨(x0, x1, x2, x3), rfl, trivial⟩
theorem arg_listens {w : World} {v : Value} (h : Arg Try.prog w 53 v) : ∃ l, SR w v l.length 4 (lcells l) ∧ l.length * 32 ≤ 140737488355328 := by
  obtain ⟨l, h1, h2, _⟩ := sr_of_in lenc (fun _ => True) 4 32 (fun _ => rfl) (fun x _ u hu => by simp [lenc] at hu; rcases hu with rfl | rfl | rfl | rfl <;> rfl) (by decide) Try.cells_ln Try.bytes_listen rd_listen (h.slIn Try.underlying53)
  unfold reachBytes at h2
  exact ⟨l, h1, by omega⟩

set_option linter.unusedSimpArgs false in
set_option linter.unusedVariables false in
set_option maxRecDepth 100000 in
set_option maxHeartbeats 8000000 in
theorem airHears_walk (v0 v1 v2 : Value) (w : World) (a0 : Arg Try.prog w 34 v0) (a1 : Arg Try.prog w 35 v1) (a2 : Arg Try.prog w 53 v2) :
    Calls Try.prog 9 #[v0, v1, v2] w fun e w' => e = .returned (.bool true) ∧ Below w.heap.size w w' := by
  obtain ⟨d, lv, jv, sv, ls, js, ss, rfl, hair, _⟩ := arg_air a0
  obtain ⟨ts, htx, hbd⟩ := arg_txs a1
  obtain ⟨l, hls, hlb⟩ := arg_listens a2
  obtain ⟨i4, hi4, hx0, hx1, hx2⟩ := info_parts Try.info_listen
  have T := cells_new w [.int .i64 d, lv, jv, sv] 34
  have hBW : Below w.heap.size w (w.alloc (.cells #[.int .i64 d, lv, jv, sv] 34)) := (Below.refl _ _).alloc (Nat.le_refl _) _
  have hs0 : w.heap.size + 1 ≤ (w.alloc (.cells #[.int .i64 d, lv, jv, sv] 34)).heap.size := by simp
  have HA := Lib.hid hair
  have HT := Lib.hid htx
  have HB := Lib.hid hbd
  have HL := Lib.hid hls
  have HLB := Lib.hid hlb
  obtain ⟨hmx, ao, cap, hv1, _⟩ := htx
  obtain ⟨n, hn⟩ : ∃ n, ts.length = n := ⟨_, rfl⟩
  have HN := Lib.hid hn
  rw [hn] at hv1 hmx
  unfold maxLen at hmx
  subst hv1
  obtain ⟨n2, hn2⟩ : ∃ n, l.length = n := ⟨_, rfl⟩
  have HN2 := Lib.hid hn2
  obtain ⟨ln, lc, hlv⟩ := hls.val
  rw [hn2] at hlv
  subst hlv
  clear hair hbd a0 a1 a2 hn hls hlb hn2
  go_enter Try.func9, Try.ntmps9
  go_wp2_with fail
  generalize hW : w.alloc (.cells _ 34) = W at T hBW hs0 ⊢
  clear hW
  refine (lives_any _).mono ?_
  rintro e w1 ⟨rfl, hB1⟩
  have T1 := T.keep hB1
  have hC1 := hBW.trans (hB1.mono hBW.size)
  have hs1 := Nat.le_trans hs0 hB1.size
  have hOpen := T.keep hB1
  simp only [Cells, blk, List.cons_append, List.nil_append, and_true, Nat.reduceAdd, Nat.add_zero, Nat.zero_add] at hOpen
  obtain ⟨k0, k1, k2, k3⟩ := hOpen
  clear T hB1 hs0
  have cf := few_any d lv jv sv (.slice ao n cap) ls.length js.length ss.length ts.length 2 3 2 (tcells ls) (jcells js) (tcells ss) ts w1 (HA.out.l.below hC1) (HA.out.j.below hC1) (HA.out.s.below hC1) (HT.out.below hC1) rfl
  obtain ⟨fw, hfw⟩ : ∃ b, decide (ls.length ≤ 64 ∧ js.length ≤ 64 ∧ ss.length ≤ 64 ∧ ts.length ≤ 64) = b := ⟨_, rfl⟩
  rw [hfw] at cf
  have CF := Lib.hid cf
  clear cf hfw
  go_wp2_with fail
  refine CF.out.mono ?_
  rintro e w2 ⟨rfl, hB2⟩
  have T2 := T1.keep hB2
  have hC2 := hC1.trans (hB2.mono hC1.size)
  have hs2 := Nat.le_trans hs1 hB2.size
  clear k0 k1 k2 k3
  have hOpen := T1.keep hB2
  simp only [Cells, blk, List.cons_append, List.nil_append, and_true, Nat.reduceAdd, Nat.add_zero, Nat.zero_add] at hOpen
  obtain ⟨k0, k1, k2, k3⟩ := hOpen
  clear T1 hB2 hs1
  cases fw
  · go_wp2
    go_ret
    exact ⟨rfl, hC2⟩
  · by_cases hbig : 64 < n2
    · have gb : decide (64 < n2) = true := by simpa using hbig
      have gb2 : decide ((64 : Int) < (n2 : Int)) = true := by simp; omega
      go_wp2
      go_ret
      exact ⟨rfl, hC2⟩
    · have gb : decide (64 < n2) = false := by simpa using hbig
      have gb2 : decide ((64 : Int) < (n2 : Int)) = false := by simp; omega
      have cc := rcheck_any d lv jv sv (.slice ao n cap) ls js ss ts w2 (HA.out.l.below hC2) (HA.out.j.below hC2) (HA.out.s.below hC2) (HT.out.below hC2)
      obtain ⟨E, hE⟩ : ∃ b, checkE d ls js ss ts = b := ⟨_, rfl⟩
      rw [hE] at cc
      have HE := Lib.hid hE
      have CC := Lib.hid cc
      clear cc hE
      go_wp2_with fail
      refine CC.out.mono ?_
      rintro e w3 ⟨rfl, hB3⟩
      have T3 := T2.keep hB3
      have hC3 := hC2.trans (hB3.mono hC2.size)
      have hs3 := Nat.le_trans hs2 hB3.size
      clear k0 k1 k2 k3
      have hOpen := T2.keep hB3
      simp only [Cells, blk, List.cons_append, List.nil_append, and_true, Nat.reduceAdd, Nat.add_zero, Nat.zero_add] at hOpen
      obtain ⟨k0, k1, k2, k3⟩ := hOpen
      clear T2 hB3 hs2
      by_cases hE0 : E = 0
      · subst hE0
        obtain ⟨_, hfit, hids⟩ := check_fits HE.out
        have HF := Lib.hid hfit
        have HID := Lib.hid hids
        have HBE := Lib.hid (best_er_eq hids)
        clear hfit hids k0 k1 k2 k3
        go_wp2_with fail
        go_loopw [7, 8, 9, 10, 11] (fun i _ _ _ _ wr => ∃ k : Nat, i = .int .i64 k ∧ k ≤ n2 ∧ Below w3.heap.size w3 wr) (fun i _ _ _ _ _ => n2 - (intOf i).toNat)
        case atStart => exact ⟨0, by simp, Nat.zero_le _, Below.refl _ _⟩
        case round =>
          obtain ⟨k, rfl, hk, hB3⟩ := hrel
          have hCV := hC3.trans (hB3.mono hC3.size)
          have TV0 := T3.keep hB3
          have hsV := Nat.le_trans hs3 hB3.size
          rename World => V
          by_cases hlt : k < n2
          · have g1 : decide (k < n2) = true := by simpa using hlt
            have hkl : k < l.length := by rw [HN2.out]; exact hlt
            have hc5 := HL.out
            obtain ⟨_, _, _, ao5, cap5, e5, _, hc5⟩ := hc5
            simp only [Value.slice.injEq] at e5
            obtain ⟨rfl, e6, rfl⟩ := e5
            clear e6
            obtain ⟨b5, o5, rfl, hb5, hc5⟩ := hc5 (by omega)
            obtain ⟨q0, q1, q2, q3⟩ := lcells_get l k hkl
            obtain ⟨⟨dev, LC, LS, LE⟩, hx⟩ : ∃ x, l[k] = x := ⟨_, rfl⟩
            rw [hx] at q0 q1 q2 q3
            have TV : Cells V (blk w.heap.size 0 0 [.int .i64 d, lv, jv, sv] ++ blk b5 (o5 + k * 4) 0 [.int .i64 dev, .int .i64 LC, .int .i64 LS, .int .i64 LE]) := TV0.app ⟨kc (hc5 _ _ q0) hCV, kc (hc5 _ _ q1) hCV, kc (hc5 _ _ q2) hCV, kc (hc5 _ _ q3) hCV, trivial⟩
            have i1 : (k : Int) < (n2 : Int) := by omega
            have w1' : IntKind.i64.wrap ((k : Int) + 1) = (k : Int) + 1 := IntWalk.i64_in _ (by omega)
            obtain ⟨F, hF⟩ : ∃ F, bestE (okK ls dev LC LS LE ts) (ltE ts) ts.length = F := ⟨_, rfl⟩
            obtain ⟨RC, hRC⟩ : ∃ R, hearR ls js ss ts dev F = R := ⟨_, rfl⟩
            obtain ⟨okv, hokv⟩ : ∃ b, decide (0 ≤ F) = b := ⟨_, rfl⟩
            obtain ⟨r0, r1, r2, r3, r4, rb⟩ := RC
            have ch : ∀ (lvo jvo svo tvc : Value) (W' : World), SR W' lvo ls.length 2 (tcells ls) → SR W' jvo js.length 3 (jcells js) → SR W' svo ss.length 2 (tcells ss) → Txs W' tvc ts →
                Calls Try.prog 26 #[.agg #[.int .i64 d, lvo, jvo, svo], tvc, .agg #[.int .i64 dev, .int .i64 LC, .int .i64 LS, .int .i64 LE]] W'
                  fun e w' => ∃ va, e = .returned (.tuple #[.agg #[.int .i64 r0, .int .i64 r1, .int .i64 r2, .int .i64 r3, .int .i64 r4, va], .bool okv]) ∧ BytesO W'.heap.size w' va rb ∧ Below W'.heap.size W' w' := fun lvo jvo svo tvc W' g1 g2 g3 g4 => by
              have h := hear_any d lvo jvo svo tvc ls js ss ts dev LC LS LE W' HF.out g1 g2 g3 g4
              rw [hF, hRC, hokv] at h
              exact h
            have ch2 : ∀ W', Below w.heap.size w W' → Calls Try.prog 28 #[.agg #[.int .i64 d, lv, jv, sv], .slice ao n cap, .agg #[.int .i64 dev, .int .i64 LC, .int .i64 LS, .int .i64 LE]] W'
                fun e w' => ∃ va, e = .returned (.tuple #[.agg #[.int .i64 r0, .int .i64 r1, .int .i64 r2, .int .i64 r3, .int .i64 r4, va], .bool okv]) ∧ BytesO W'.heap.size w' va rb ∧ Below W'.heap.size W' w' := fun W' hW => by
              have h := rhear_any d lv jv sv (.slice ao n cap) ls js ss ts dev LC LS LE W' HF.out (HA.out.l.below hW) (HA.out.j.below hW) (HA.out.s.below hW) (HT.out.below hW)
              rw [HBE.out, hF, hRC, hokv] at h
              exact h
            have CH := Lib.hid ch
            have CH2 := Lib.hid ch2
            have HB3 := Lib.hid hB3
            have hwV := hsV
            clear ch ch2 hF hRC hokv q0 q1 q2 q3 hx hc5 TV0 hB3
            go_upto_region 8 with fail
            go_cut [8, 9] (fun p ok wx => ∃ i va, p = .pointer (some ⟨i, 0, none⟩) ∧ ok = .bool okv ∧ wx.heap[i]? = some (.cells #[.int .i64 r0, .int .i64 r1, .int .i64 r2, .int .i64 r3, .int .i64 r4, va] 47 (0, 0)) ∧ BytesAt wx va rb ∧ Below V.heap.size V wx)
            case first =>
              refine wp_region_held_drew (S := (fun W' : World => Below V.heap.size V W' ∧ V.heap.size ≤ W'.heap.size ∧ Cells W' (blk w.heap.size 0 0 [.int .i64 d, lv, jv, sv] ++ blk b5 (o5 + k * 4) 0 [.int .i64 dev, .int .i64 LC, .int .i64 LS, .int .i64 LE]))) (by kernel_rfl) (⟨(Below.refl _ _).drew, Nat.le_refl _, TV.drew⟩) (fun hHeld => ?_)
              generalize World.drew _ = wd at hHeld ⊢
              have hz := hHeld.2.1
              refine wpAnyH_take (i := 0) (oi := _) (v := ?_) (by rw [List.getElem?_toArray]; rfl) (by kernel_rfl) (by kernel_rfl) (by kernel_rfl) (by exact fun _ _ _ h => h) (Or.inl ⟨by rfl, ?_⟩) (by assumption) ?_
              rotate_left
              · intro w hSw
                try simp only [Cells, blk, List.cons_append, List.nil_append, and_true, Nat.reduceAdd, Nat.add_zero, Nat.zero_add] at hSw
                go_simp
                try with_reducible rfl
              simp only [Act.put, List.setIfInBounds_toArray, List.set_cons_zero, List.set_cons_succ]
              refine wpAnyH_take (i := 2) (oi := _) (v := ?_) (by rw [List.getElem?_toArray]; rfl) (by kernel_rfl) (by kernel_rfl) (by kernel_rfl) (by exact fun _ _ _ h => h) (Or.inl ⟨by rfl, ?_⟩) (by assumption) ?_
              rotate_left
              · intro w hSw
                try simp only [Cells, blk, List.cons_append, List.nil_append, and_true, Nat.reduceAdd, Nat.add_zero, Nat.zero_add] at hSw
                go_simp
                try with_reducible rfl
              simp only [Act.put, List.setIfInBounds_toArray, List.set_cons_zero, List.set_cons_succ]
              refine wpAnyH_take (i := 4) (oi := _) (v := ?_) (by rw [List.getElem?_toArray]; rfl) (by kernel_rfl) (by kernel_rfl) (by kernel_rfl) (by exact fun _ _ _ h => h) (Or.inl ⟨by rfl, ?_⟩) (by assumption) ?_
              rotate_left
              · intro w hSw
                try simp only [Cells, blk, List.cons_append, List.nil_append, and_true, Nat.reduceAdd, Nat.add_zero, Nat.zero_add] at hSw
                go_simp
                try with_reducible rfl
              simp only [Act.put, List.setIfInBounds_toArray, List.set_cons_zero, List.set_cons_succ]
              refine wpAnyH_take (i := 5) (oi := _) (v := ?_) (by rw [List.getElem?_toArray]; rfl) (by kernel_rfl) (by kernel_rfl) (by kernel_rfl) (by exact fun _ _ _ h => h) (Or.inl ⟨by rfl, ?_⟩) (by assumption) ?_
              rotate_left
              · intro w hSw
                try simp only [Cells, blk, List.cons_append, List.nil_append, and_true, Nat.reduceAdd, Nat.add_zero, Nat.zero_add] at hSw
                go_simp
                try with_reducible rfl
              simp only [Act.put, List.setIfInBounds_toArray, List.set_cons_zero, List.set_cons_succ]
              refine wpAnyH_take (i := 6) (oi := _) (v := ?_) (by rw [List.getElem?_toArray]; rfl) (by kernel_rfl) (by kernel_rfl) (by kernel_rfl) (by exact fun _ _ _ h => h) (Or.inl ⟨by rfl, ?_⟩) (by assumption) ?_
              rotate_left
              · intro w hSw
                try simp only [Cells, blk, List.cons_append, List.nil_append, and_true, Nat.reduceAdd, Nat.add_zero, Nat.zero_add] at hSw
                go_simp
                try with_reducible rfl
              simp only [Act.put, List.setIfInBounds_toArray, List.set_cons_zero, List.set_cons_succ]
              refine wpAnyH_take (i := 7) (oi := _) (v := ?_) (by rw [List.getElem?_toArray]; rfl) (by kernel_rfl) (by kernel_rfl) (by kernel_rfl) (by exact fun _ _ _ h => h) (Or.inl ⟨by rfl, ?_⟩) (by assumption) ?_
              rotate_left
              · intro w hSw
                try simp only [Cells, blk, List.cons_append, List.nil_append, and_true, Nat.reduceAdd, Nat.add_zero, Nat.zero_add] at hSw
                go_simp
                try with_reducible rfl
              simp only [Act.put, List.setIfInBounds_toArray, List.set_cons_zero, List.set_cons_succ]
              refine wpAnyH_ready (rs := [1, 12]) (by kernel_rfl) (by simp) (AllReadyH.cons (o := _) (by rw [List.getElem?_toArray]; rfl) (fun K hK => ?_) (AllReadyH.cons (o := _) (by rw [List.getElem?_toArray]; rfl) (fun K hK => ?_) AllReadyH.nil))
              · go_simp
                go_at_call 18
                refine (own_any d lv jv sv ls js ss _ (HA.out.l.below (hCV.trans (hHeld.1.mono hCV.size))) (HA.out.j.below (hCV.trans (hHeld.1.mono hCV.size))) (HA.out.s.below (hCV.trans (hHeld.1.mono hCV.size))) HA.out.lb HA.out.jb HA.out.sb).mono ?_
                rintro e wo ⟨lvo, jvo, svo, rfl, ⟨so1, _⟩, ⟨so2, _⟩, ⟨so3, _⟩, hBo⟩
                try replace h8 := (hBo.block _ (by have := h8s; omega)).trans h8
                try replace h8s := Nat.le_trans h8s hBo.size
                refine hK.out _ _ (⟨hHeld.1.trans (hBo.mono (by have := hHeld.2.1; omega)), Nat.le_trans hHeld.2.1 hBo.size, hHeld.2.2.keep hBo⟩) (fun hHeld2 => ?_)
                replace hHeld := hHeld2
                clear hK K hHeld2
                try simp only [Act.put, List.setIfInBounds_toArray, List.set_cons_zero, List.set_cons_succ]
                have hz := hHeld.2.1
                refine wpAnyH_ready (rs := [3, 12]) (by kernel_rfl) (by simp) (AllReadyH.cons (o := _) (by rw [List.getElem?_toArray]; rfl) (fun K hK => ?_) (AllReadyH.cons (o := _) (by rw [List.getElem?_toArray]; rfl) (fun K hK => ?_) AllReadyH.nil))
                · go_simp
                  go_at_call 19
                  refine (copy_any _ ts _ (HT.out.below (hCV.trans (hHeld.1.mono hCV.size))) HB.out).mono ?_
                  rintro e wc2 ⟨tvc, vsc, rfl, hinv, hBc⟩
                  try replace so1 := so1.below hBc
                  try replace so2 := so2.below hBc
                  try replace so3 := so3.below hBc
                  try replace hco := hco.below hBc
                  have hco := hinv.txs
                  clear hinv
                  try replace h8 := (hBc.block _ (by have := h8s; omega)).trans h8
                  try replace h8s := Nat.le_trans h8s hBc.size
                  refine hK.out _ _ (⟨hHeld.1.trans (hBc.mono (by have := hHeld.2.1; omega)), Nat.le_trans hHeld.2.1 hBc.size, hHeld.2.2.keep hBc⟩) (fun hHeld2 => ?_)
                  replace hHeld := hHeld2
                  clear hK K hHeld2
                  try simp only [Act.put, List.setIfInBounds_toArray, List.set_cons_zero, List.set_cons_succ]
                  have hz := hHeld.2.1
                  refine wpAnyH_ready (rs := [8, 12]) (by kernel_rfl) (by simp) (AllReadyH.cons (o := _) (by rw [List.getElem?_toArray]; rfl) (fun K hK => ?_) (AllReadyH.cons (o := _) (by rw [List.getElem?_toArray]; rfl) (fun K hK => ?_) AllReadyH.nil))
                  · go_simp
                    go_at_call 26
                    refine (CH.out lvo jvo svo tvc _ so1 so2 so3 hco).mono ?_
                    rintro e w4 ⟨va, rfl, hva, hB4⟩
                    obtain ⟨xa, xc, rfl⟩ := hva.1.1.val
                    have hnl := hva.1.nil_or
                    have hvo := hva.2
                    have hvb := hva.1
                    clear hva
                    try have hlow := h8s
                    try replace h8 := (hB4.block _ (by have := h8s; omega)).trans h8
                    try replace h8s := Nat.le_trans h8s hB4.size
                    refine hK.out _ _ (⟨hHeld.1.trans (hB4.mono (by have := hHeld.2.1; omega)), Nat.le_trans hHeld.2.1 hB4.size, hHeld.2.2.keep hB4⟩) (fun hHeld2 => ?_)
                    replace hHeld := hHeld2
                    clear hK K hHeld2
                    try simp only [Act.put, List.setIfInBounds_toArray, List.set_cons_zero, List.set_cons_succ]
                    have hz := hHeld.2.1
                    try have f0 := cell_of_row _ _ 0 _ _ _ h8
                    try have f1 := cell_of_row _ _ 1 _ _ _ h8
                    try have f2 := cell_of_row _ _ 2 _ _ _ h8
                    try have f3 := cell_of_row _ _ 3 _ _ _ h8
                    try have f4 := cell_of_row _ _ 4 _ _ _ h8
                    try have f5 := cell_of_row _ _ 5 _ _ _ h8
                    try have z0 := frozen_of_row _ _ 0 _ _ h8
                    try have z1 := frozen_of_row _ _ 1 _ _ h8
                    try have z2 := frozen_of_row _ _ 2 _ _ h8
                    try have z3 := frozen_of_row _ _ 3 _ _ h8
                    try have z4 := frozen_of_row _ _ 4 _ _ h8
                    try have z5 := frozen_of_row _ _ 5 _ _ h8
                    try simp at f0 f1 f2 f3 f4 f5
                    refine wpAnyH_take (i := 9) (oi := _) (v := ?_) (by rw [List.getElem?_toArray]; rfl) (by kernel_rfl) (by kernel_rfl) (by kernel_rfl) (by exact fun _ _ _ h => h) (Or.inl ⟨by rfl, ?_⟩) (by assumption) ?_
                    rotate_left
                    · intro w hSw
                      try simp only [Cells, blk, List.cons_append, List.nil_append, and_true, Nat.reduceAdd, Nat.add_zero, Nat.zero_add] at hSw
                      go_simp
                      try with_reducible rfl
                    simp only [Act.put, List.setIfInBounds_toArray, List.set_cons_zero, List.set_cons_succ]
                    refine wpAnyH_take (i := 10) (oi := _) (v := ?_) (by rw [List.getElem?_toArray]; rfl) (by kernel_rfl) (by kernel_rfl) (by kernel_rfl) (by exact fun _ _ _ h => h) (Or.inl ⟨by rfl, ?_⟩) (by assumption) ?_
                    rotate_left
                    · intro w hSw
                      try simp only [Cells, blk, List.cons_append, List.nil_append, and_true, Nat.reduceAdd, Nat.add_zero, Nat.zero_add] at hSw
                      go_simp
                      try with_reducible rfl
                    simp only [Act.put, List.setIfInBounds_toArray, List.set_cons_zero, List.set_cons_succ]
                    refine wpAnyH_take (i := 11) (oi := _) (v := ?_) (by rw [List.getElem?_toArray]; rfl) (by kernel_rfl) (by kernel_rfl) (by kernel_rfl) (by exact fun _ _ _ h => h) (Or.inl ⟨by rfl, ?_⟩) (by assumption) ?_
                    rotate_left
                    · intro w hSw
                      try simp only [Cells, blk, List.cons_append, List.nil_append, and_true, Nat.reduceAdd, Nat.add_zero, Nat.zero_add] at hSw
                      go_simp
                      try with_reducible rfl
                    simp only [Act.put, List.setIfInBounds_toArray, List.set_cons_zero, List.set_cons_succ]
                    refine wpAnyH_ready (rs := [12]) (by kernel_rfl) (by simp) (AllReadyH.cons (o := _) (by rw [List.getElem?_toArray]; rfl) (fun K hK => ?_) AllReadyH.nil)
                    go_simp
                    generalize hX : World.alloc _ (.cells _ 47) = w8
                    obtain ⟨h8, hB8, h8z⟩ := alloc_named hX
                    clear hX
                    refine hK.out _ _ (⟨hHeld.1.trans (hB8.mono (by have := hHeld.2.1; omega)), Nat.le_trans hHeld.2.1 hB8.size, hHeld.2.2.keep hB8⟩) (fun hHeld2 => ?_)
                    replace hHeld := hHeld2
                    clear hK K hHeld2
                    try simp only [Act.put, List.setIfInBounds_toArray, List.set_cons_zero, List.set_cons_succ]
                    have h8s := Nat.le_of_eq h8z.symm
                    clear h8z
                    have hi8 := hz
                    have hz := hHeld.2.1
                    try replace so1 := so1.below hB8
                    try replace so2 := so2.below hB8
                    try replace so3 := so3.below hB8
                    try replace hco := hco.below hB8
                    try replace hvb := hvb.below hB8
                    try have f0 := cell_of_row _ _ 0 _ _ _ h8
                    try have f1 := cell_of_row _ _ 1 _ _ _ h8
                    try have f2 := cell_of_row _ _ 2 _ _ _ h8
                    try have f3 := cell_of_row _ _ 3 _ _ _ h8
                    try have f4 := cell_of_row _ _ 4 _ _ _ h8
                    try have f5 := cell_of_row _ _ 5 _ _ _ h8
                    try have z0 := frozen_of_row _ _ 0 _ _ h8
                    try have z1 := frozen_of_row _ _ 1 _ _ h8
                    try have z2 := frozen_of_row _ _ 2 _ _ h8
                    try have z3 := frozen_of_row _ _ 3 _ _ h8
                    try have z4 := frozen_of_row _ _ 4 _ _ h8
                    try have z5 := frozen_of_row _ _ 5 _ _ h8
                    try simp at f0 f1 f2 f3 f4 f5
                    refine wpAnyH_ready (rs := [13]) (by kernel_rfl) (by simp) (AllReadyH.cons (o := _) (by rw [List.getElem?_toArray]; rfl) (fun K hK => ?_) AllReadyH.nil)
                    go_simp
                    generalize hX : World.setCell _ _ _ = w9
                    obtain ⟨h9, hg9⟩ := set6 h8 hX
                    clear hX
                    have hva9 := set6_by hg9 hvb (by
                      rcases hnl with e | ⟨b, e1, e2⟩
                      · exact .inl e
                      · refine .inr ⟨b, e1, ?_⟩
                        have := hvo b e1
                        omega)
                    refine hK.out _ _ (⟨hHeld.1.grown hg9 (by have := hHeld.2.1; omega) (fun q hq => by have := hi8; simp at hq; omega), Nat.le_trans hHeld.2.1 hg9.size, hHeld.2.2.grown hg9 (fun x hx => by have := hi8; have := hwV; simp [blk] at hx; rcases hx with rfl | rfl | rfl | rfl | rfl | rfl | rfl | rfl <;> (simp; omega))⟩) (fun hHeld2 => ?_)
                    replace hHeld := hHeld2
                    clear hK K hHeld2
                    try simp only [Act.put, List.setIfInBounds_toArray, List.set_cons_zero, List.set_cons_succ]
                    have hz := hHeld.2.1
                    refine wpAnyH_take (i := 14) (oi := _) (v := ?_) (by rw [List.getElem?_toArray]; rfl) (by kernel_rfl) (by kernel_rfl) (by kernel_rfl) (by exact fun _ _ _ h => h) (Or.inl ⟨by rfl, ?_⟩) (by assumption) ?_
                    rotate_left
                    · intro w hSw
                      try simp only [Cells, blk, List.cons_append, List.nil_append, and_true, Nat.reduceAdd, Nat.add_zero, Nat.zero_add] at hSw
                      go_simp
                      try with_reducible rfl
                    simp only [Act.put, List.setIfInBounds_toArray, List.set_cons_zero, List.set_cons_succ]
                    refine wpAnyH_done (by kernel_rfl) ?_ _
                    go_wp2_with fail
                    go_meet
                    exact ⟨_, _, rfl, rfl, h9, hva9, hHeld.1⟩
                  · go_simp
                    generalize hX : World.alloc _ (.cells _ 47) = w8
                    obtain ⟨h8, hB8, h8z⟩ := alloc_named hX
                    clear hX
                    refine hK.out _ _ (⟨hHeld.1.trans (hB8.mono (by have := hHeld.2.1; omega)), Nat.le_trans hHeld.2.1 hB8.size, hHeld.2.2.keep hB8⟩) (fun hHeld2 => ?_)
                    replace hHeld := hHeld2
                    clear hK K hHeld2
                    try simp only [Act.put, List.setIfInBounds_toArray, List.set_cons_zero, List.set_cons_succ]
                    have h8s := Nat.le_of_eq h8z.symm
                    clear h8z
                    have hi8 := hz
                    have hz := hHeld.2.1
                    try replace so1 := so1.below hB8
                    try replace so2 := so2.below hB8
                    try replace so3 := so3.below hB8
                    try replace hco := hco.below hB8
                    try replace hvb := hvb.below hB8
                    try have f0 := cell_of_row _ _ 0 _ _ _ h8
                    try have f1 := cell_of_row _ _ 1 _ _ _ h8
                    try have f2 := cell_of_row _ _ 2 _ _ _ h8
                    try have f3 := cell_of_row _ _ 3 _ _ _ h8
                    try have f4 := cell_of_row _ _ 4 _ _ _ h8
                    try have f5 := cell_of_row _ _ 5 _ _ _ h8
                    try have z0 := frozen_of_row _ _ 0 _ _ h8
                    try have z1 := frozen_of_row _ _ 1 _ _ h8
                    try have z2 := frozen_of_row _ _ 2 _ _ h8
                    try have z3 := frozen_of_row _ _ 3 _ _ h8
                    try have z4 := frozen_of_row _ _ 4 _ _ h8
                    try have z5 := frozen_of_row _ _ 5 _ _ h8
                    try simp at f0 f1 f2 f3 f4 f5
                    refine wpAnyH_ready (rs := [8]) (by kernel_rfl) (by simp) (AllReadyH.cons (o := _) (by rw [List.getElem?_toArray]; rfl) (fun K hK => ?_) AllReadyH.nil)
                    go_simp
                    go_at_call 26
                    refine (CH.out lvo jvo svo tvc _ so1 so2 so3 hco).mono ?_
                    rintro e w4 ⟨va, rfl, hva, hB4⟩
                    obtain ⟨xa, xc, rfl⟩ := hva.1.1.val
                    have hnl := hva.1.nil_or
                    have hvo := hva.2
                    have hvb := hva.1
                    clear hva
                    try have hlow := h8s
                    try replace h8 := (hB4.block _ (by have := h8s; omega)).trans h8
                    try replace h8s := Nat.le_trans h8s hB4.size
                    refine hK.out _ _ (⟨hHeld.1.trans (hB4.mono (by have := hHeld.2.1; omega)), Nat.le_trans hHeld.2.1 hB4.size, hHeld.2.2.keep hB4⟩) (fun hHeld2 => ?_)
                    replace hHeld := hHeld2
                    clear hK K hHeld2
                    try simp only [Act.put, List.setIfInBounds_toArray, List.set_cons_zero, List.set_cons_succ]
                    have hz := hHeld.2.1
                    try have f0 := cell_of_row _ _ 0 _ _ _ h8
                    try have f1 := cell_of_row _ _ 1 _ _ _ h8
                    try have f2 := cell_of_row _ _ 2 _ _ _ h8
                    try have f3 := cell_of_row _ _ 3 _ _ _ h8
                    try have f4 := cell_of_row _ _ 4 _ _ _ h8
                    try have f5 := cell_of_row _ _ 5 _ _ _ h8
                    try have z0 := frozen_of_row _ _ 0 _ _ h8
                    try have z1 := frozen_of_row _ _ 1 _ _ h8
                    try have z2 := frozen_of_row _ _ 2 _ _ h8
                    try have z3 := frozen_of_row _ _ 3 _ _ h8
                    try have z4 := frozen_of_row _ _ 4 _ _ h8
                    try have z5 := frozen_of_row _ _ 5 _ _ h8
                    try simp at f0 f1 f2 f3 f4 f5
                    refine wpAnyH_take (i := 9) (oi := _) (v := ?_) (by rw [List.getElem?_toArray]; rfl) (by kernel_rfl) (by kernel_rfl) (by kernel_rfl) (by exact fun _ _ _ h => h) (Or.inl ⟨by rfl, ?_⟩) (by assumption) ?_
                    rotate_left
                    · intro w hSw
                      try simp only [Cells, blk, List.cons_append, List.nil_append, and_true, Nat.reduceAdd, Nat.add_zero, Nat.zero_add] at hSw
                      go_simp
                      try with_reducible rfl
                    simp only [Act.put, List.setIfInBounds_toArray, List.set_cons_zero, List.set_cons_succ]
                    refine wpAnyH_take (i := 10) (oi := _) (v := ?_) (by rw [List.getElem?_toArray]; rfl) (by kernel_rfl) (by kernel_rfl) (by kernel_rfl) (by exact fun _ _ _ h => h) (Or.inl ⟨by rfl, ?_⟩) (by assumption) ?_
                    rotate_left
                    · intro w hSw
                      try simp only [Cells, blk, List.cons_append, List.nil_append, and_true, Nat.reduceAdd, Nat.add_zero, Nat.zero_add] at hSw
                      go_simp
                      try with_reducible rfl
                    simp only [Act.put, List.setIfInBounds_toArray, List.set_cons_zero, List.set_cons_succ]
                    refine wpAnyH_take (i := 11) (oi := _) (v := ?_) (by rw [List.getElem?_toArray]; rfl) (by kernel_rfl) (by kernel_rfl) (by kernel_rfl) (by exact fun _ _ _ h => h) (Or.inl ⟨by rfl, ?_⟩) (by assumption) ?_
                    rotate_left
                    · intro w hSw
                      try simp only [Cells, blk, List.cons_append, List.nil_append, and_true, Nat.reduceAdd, Nat.add_zero, Nat.zero_add] at hSw
                      go_simp
                      try with_reducible rfl
                    simp only [Act.put, List.setIfInBounds_toArray, List.set_cons_zero, List.set_cons_succ]
                    refine wpAnyH_ready (rs := [13]) (by kernel_rfl) (by simp) (AllReadyH.cons (o := _) (by rw [List.getElem?_toArray]; rfl) (fun K hK => ?_) AllReadyH.nil)
                    go_simp
                    generalize hX : World.setCell _ _ _ = w9
                    obtain ⟨h9, hg9⟩ := set6 h8 hX
                    clear hX
                    have hva9 := set6_by hg9 hvb (by
                      rcases hnl with e | ⟨b, e1, e2⟩
                      · exact .inl e
                      · refine .inr ⟨b, e1, ?_⟩
                        have := hvo b e1
                        omega)
                    refine hK.out _ _ (⟨hHeld.1.grown hg9 (by have := hHeld.2.1; omega) (fun q hq => by have := hi8; simp at hq; omega), Nat.le_trans hHeld.2.1 hg9.size, hHeld.2.2.grown hg9 (fun x hx => by have := hi8; have := hwV; simp [blk] at hx; rcases hx with rfl | rfl | rfl | rfl | rfl | rfl | rfl | rfl <;> (simp; omega))⟩) (fun hHeld2 => ?_)
                    replace hHeld := hHeld2
                    clear hK K hHeld2
                    try simp only [Act.put, List.setIfInBounds_toArray, List.set_cons_zero, List.set_cons_succ]
                    have hz := hHeld.2.1
                    refine wpAnyH_take (i := 14) (oi := _) (v := ?_) (by rw [List.getElem?_toArray]; rfl) (by kernel_rfl) (by kernel_rfl) (by kernel_rfl) (by exact fun _ _ _ h => h) (Or.inl ⟨by rfl, ?_⟩) (by assumption) ?_
                    rotate_left
                    · intro w hSw
                      try simp only [Cells, blk, List.cons_append, List.nil_append, and_true, Nat.reduceAdd, Nat.add_zero, Nat.zero_add] at hSw
                      go_simp
                      try with_reducible rfl
                    simp only [Act.put, List.setIfInBounds_toArray, List.set_cons_zero, List.set_cons_succ]
                    refine wpAnyH_done (by kernel_rfl) ?_ _
                    go_wp2_with fail
                    go_meet
                    exact ⟨_, _, rfl, rfl, h9, hva9, hHeld.1⟩
                · go_simp
                  generalize hX : World.alloc _ (.cells _ 47) = w8
                  obtain ⟨h8, hB8, h8z⟩ := alloc_named hX
                  clear hX
                  refine hK.out _ _ (⟨hHeld.1.trans (hB8.mono (by have := hHeld.2.1; omega)), Nat.le_trans hHeld.2.1 hB8.size, hHeld.2.2.keep hB8⟩) (fun hHeld2 => ?_)
                  replace hHeld := hHeld2
                  clear hK K hHeld2
                  try simp only [Act.put, List.setIfInBounds_toArray, List.set_cons_zero, List.set_cons_succ]
                  have h8s := Nat.le_of_eq h8z.symm
                  clear h8z
                  have hi8 := hz
                  have hz := hHeld.2.1
                  try replace so1 := so1.below hB8
                  try replace so2 := so2.below hB8
                  try replace so3 := so3.below hB8
                  try replace hco := hco.below hB8
                  try replace hvb := hvb.below hB8
                  try have f0 := cell_of_row _ _ 0 _ _ _ h8
                  try have f1 := cell_of_row _ _ 1 _ _ _ h8
                  try have f2 := cell_of_row _ _ 2 _ _ _ h8
                  try have f3 := cell_of_row _ _ 3 _ _ _ h8
                  try have f4 := cell_of_row _ _ 4 _ _ _ h8
                  try have f5 := cell_of_row _ _ 5 _ _ _ h8
                  try have z0 := frozen_of_row _ _ 0 _ _ h8
                  try have z1 := frozen_of_row _ _ 1 _ _ h8
                  try have z2 := frozen_of_row _ _ 2 _ _ h8
                  try have z3 := frozen_of_row _ _ 3 _ _ h8
                  try have z4 := frozen_of_row _ _ 4 _ _ h8
                  try have z5 := frozen_of_row _ _ 5 _ _ h8
                  try simp at f0 f1 f2 f3 f4 f5
                  refine wpAnyH_ready (rs := [3]) (by kernel_rfl) (by simp) (AllReadyH.cons (o := _) (by rw [List.getElem?_toArray]; rfl) (fun K hK => ?_) AllReadyH.nil)
                  go_simp
                  go_at_call 19
                  refine (copy_any _ ts _ (HT.out.below (hCV.trans (hHeld.1.mono hCV.size))) HB.out).mono ?_
                  rintro e wc2 ⟨tvc, vsc, rfl, hinv, hBc⟩
                  try replace so1 := so1.below hBc
                  try replace so2 := so2.below hBc
                  try replace so3 := so3.below hBc
                  try replace hco := hco.below hBc
                  have hco := hinv.txs
                  clear hinv
                  try replace h8 := (hBc.block _ (by have := h8s; omega)).trans h8
                  try replace h8s := Nat.le_trans h8s hBc.size
                  refine hK.out _ _ (⟨hHeld.1.trans (hBc.mono (by have := hHeld.2.1; omega)), Nat.le_trans hHeld.2.1 hBc.size, hHeld.2.2.keep hBc⟩) (fun hHeld2 => ?_)
                  replace hHeld := hHeld2
                  clear hK K hHeld2
                  try simp only [Act.put, List.setIfInBounds_toArray, List.set_cons_zero, List.set_cons_succ]
                  have hz := hHeld.2.1
                  refine wpAnyH_ready (rs := [8]) (by kernel_rfl) (by simp) (AllReadyH.cons (o := _) (by rw [List.getElem?_toArray]; rfl) (fun K hK => ?_) AllReadyH.nil)
                  go_simp
                  go_at_call 26
                  refine (CH.out lvo jvo svo tvc _ so1 so2 so3 hco).mono ?_
                  rintro e w4 ⟨va, rfl, hva, hB4⟩
                  obtain ⟨xa, xc, rfl⟩ := hva.1.1.val
                  have hnl := hva.1.nil_or
                  have hvo := hva.2
                  have hvb := hva.1
                  clear hva
                  try have hlow := h8s
                  try replace h8 := (hB4.block _ (by have := h8s; omega)).trans h8
                  try replace h8s := Nat.le_trans h8s hB4.size
                  refine hK.out _ _ (⟨hHeld.1.trans (hB4.mono (by have := hHeld.2.1; omega)), Nat.le_trans hHeld.2.1 hB4.size, hHeld.2.2.keep hB4⟩) (fun hHeld2 => ?_)
                  replace hHeld := hHeld2
                  clear hK K hHeld2
                  try simp only [Act.put, List.setIfInBounds_toArray, List.set_cons_zero, List.set_cons_succ]
                  have hz := hHeld.2.1
                  try have f0 := cell_of_row _ _ 0 _ _ _ h8
                  try have f1 := cell_of_row _ _ 1 _ _ _ h8
                  try have f2 := cell_of_row _ _ 2 _ _ _ h8
                  try have f3 := cell_of_row _ _ 3 _ _ _ h8
                  try have f4 := cell_of_row _ _ 4 _ _ _ h8
                  try have f5 := cell_of_row _ _ 5 _ _ _ h8
                  try have z0 := frozen_of_row _ _ 0 _ _ h8
                  try have z1 := frozen_of_row _ _ 1 _ _ h8
                  try have z2 := frozen_of_row _ _ 2 _ _ h8
                  try have z3 := frozen_of_row _ _ 3 _ _ h8
                  try have z4 := frozen_of_row _ _ 4 _ _ h8
                  try have z5 := frozen_of_row _ _ 5 _ _ h8
                  try simp at f0 f1 f2 f3 f4 f5
                  refine wpAnyH_take (i := 9) (oi := _) (v := ?_) (by rw [List.getElem?_toArray]; rfl) (by kernel_rfl) (by kernel_rfl) (by kernel_rfl) (by exact fun _ _ _ h => h) (Or.inl ⟨by rfl, ?_⟩) (by assumption) ?_
                  rotate_left
                  · intro w hSw
                    try simp only [Cells, blk, List.cons_append, List.nil_append, and_true, Nat.reduceAdd, Nat.add_zero, Nat.zero_add] at hSw
                    go_simp
                    try with_reducible rfl
                  simp only [Act.put, List.setIfInBounds_toArray, List.set_cons_zero, List.set_cons_succ]
                  refine wpAnyH_take (i := 10) (oi := _) (v := ?_) (by rw [List.getElem?_toArray]; rfl) (by kernel_rfl) (by kernel_rfl) (by kernel_rfl) (by exact fun _ _ _ h => h) (Or.inl ⟨by rfl, ?_⟩) (by assumption) ?_
                  rotate_left
                  · intro w hSw
                    try simp only [Cells, blk, List.cons_append, List.nil_append, and_true, Nat.reduceAdd, Nat.add_zero, Nat.zero_add] at hSw
                    go_simp
                    try with_reducible rfl
                  simp only [Act.put, List.setIfInBounds_toArray, List.set_cons_zero, List.set_cons_succ]
                  refine wpAnyH_take (i := 11) (oi := _) (v := ?_) (by rw [List.getElem?_toArray]; rfl) (by kernel_rfl) (by kernel_rfl) (by kernel_rfl) (by exact fun _ _ _ h => h) (Or.inl ⟨by rfl, ?_⟩) (by assumption) ?_
                  rotate_left
                  · intro w hSw
                    try simp only [Cells, blk, List.cons_append, List.nil_append, and_true, Nat.reduceAdd, Nat.add_zero, Nat.zero_add] at hSw
                    go_simp
                    try with_reducible rfl
                  simp only [Act.put, List.setIfInBounds_toArray, List.set_cons_zero, List.set_cons_succ]
                  refine wpAnyH_ready (rs := [13]) (by kernel_rfl) (by simp) (AllReadyH.cons (o := _) (by rw [List.getElem?_toArray]; rfl) (fun K hK => ?_) AllReadyH.nil)
                  go_simp
                  generalize hX : World.setCell _ _ _ = w9
                  obtain ⟨h9, hg9⟩ := set6 h8 hX
                  clear hX
                  have hva9 := set6_by hg9 hvb (by
                    rcases hnl with e | ⟨b, e1, e2⟩
                    · exact .inl e
                    · refine .inr ⟨b, e1, ?_⟩
                      have := hvo b e1
                      omega)
                  refine hK.out _ _ (⟨hHeld.1.grown hg9 (by have := hHeld.2.1; omega) (fun q hq => by have := hi8; simp at hq; omega), Nat.le_trans hHeld.2.1 hg9.size, hHeld.2.2.grown hg9 (fun x hx => by have := hi8; have := hwV; simp [blk] at hx; rcases hx with rfl | rfl | rfl | rfl | rfl | rfl | rfl | rfl <;> (simp; omega))⟩) (fun hHeld2 => ?_)
                  replace hHeld := hHeld2
                  clear hK K hHeld2
                  try simp only [Act.put, List.setIfInBounds_toArray, List.set_cons_zero, List.set_cons_succ]
                  have hz := hHeld.2.1
                  refine wpAnyH_take (i := 14) (oi := _) (v := ?_) (by rw [List.getElem?_toArray]; rfl) (by kernel_rfl) (by kernel_rfl) (by kernel_rfl) (by exact fun _ _ _ h => h) (Or.inl ⟨by rfl, ?_⟩) (by assumption) ?_
                  rotate_left
                  · intro w hSw
                    try simp only [Cells, blk, List.cons_append, List.nil_append, and_true, Nat.reduceAdd, Nat.add_zero, Nat.zero_add] at hSw
                    go_simp
                    try with_reducible rfl
                  simp only [Act.put, List.setIfInBounds_toArray, List.set_cons_zero, List.set_cons_succ]
                  refine wpAnyH_done (by kernel_rfl) ?_ _
                  go_wp2_with fail
                  go_meet
                  exact ⟨_, _, rfl, rfl, h9, hva9, hHeld.1⟩
              · go_simp
                generalize hX : World.alloc _ (.cells _ 47) = w8
                obtain ⟨h8, hB8, h8z⟩ := alloc_named hX
                clear hX
                refine hK.out _ _ (⟨hHeld.1.trans (hB8.mono (by have := hHeld.2.1; omega)), Nat.le_trans hHeld.2.1 hB8.size, hHeld.2.2.keep hB8⟩) (fun hHeld2 => ?_)
                replace hHeld := hHeld2
                clear hK K hHeld2
                try simp only [Act.put, List.setIfInBounds_toArray, List.set_cons_zero, List.set_cons_succ]
                have h8s := Nat.le_of_eq h8z.symm
                clear h8z
                have hi8 := hz
                have hz := hHeld.2.1
                try replace so1 := so1.below hB8
                try replace so2 := so2.below hB8
                try replace so3 := so3.below hB8
                try replace hco := hco.below hB8
                try replace hvb := hvb.below hB8
                try have f0 := cell_of_row _ _ 0 _ _ _ h8
                try have f1 := cell_of_row _ _ 1 _ _ _ h8
                try have f2 := cell_of_row _ _ 2 _ _ _ h8
                try have f3 := cell_of_row _ _ 3 _ _ _ h8
                try have f4 := cell_of_row _ _ 4 _ _ _ h8
                try have f5 := cell_of_row _ _ 5 _ _ _ h8
                try have z0 := frozen_of_row _ _ 0 _ _ h8
                try have z1 := frozen_of_row _ _ 1 _ _ h8
                try have z2 := frozen_of_row _ _ 2 _ _ h8
                try have z3 := frozen_of_row _ _ 3 _ _ h8
                try have z4 := frozen_of_row _ _ 4 _ _ h8
                try have z5 := frozen_of_row _ _ 5 _ _ h8
                try simp at f0 f1 f2 f3 f4 f5
                refine wpAnyH_ready (rs := [1]) (by kernel_rfl) (by simp) (AllReadyH.cons (o := _) (by rw [List.getElem?_toArray]; rfl) (fun K hK => ?_) AllReadyH.nil)
                go_simp
                go_at_call 18
                refine (own_any d lv jv sv ls js ss _ (HA.out.l.below (hCV.trans (hHeld.1.mono hCV.size))) (HA.out.j.below (hCV.trans (hHeld.1.mono hCV.size))) (HA.out.s.below (hCV.trans (hHeld.1.mono hCV.size))) HA.out.lb HA.out.jb HA.out.sb).mono ?_
                rintro e wo ⟨lvo, jvo, svo, rfl, ⟨so1, _⟩, ⟨so2, _⟩, ⟨so3, _⟩, hBo⟩
                try replace h8 := (hBo.block _ (by have := h8s; omega)).trans h8
                try replace h8s := Nat.le_trans h8s hBo.size
                refine hK.out _ _ (⟨hHeld.1.trans (hBo.mono (by have := hHeld.2.1; omega)), Nat.le_trans hHeld.2.1 hBo.size, hHeld.2.2.keep hBo⟩) (fun hHeld2 => ?_)
                replace hHeld := hHeld2
                clear hK K hHeld2
                try simp only [Act.put, List.setIfInBounds_toArray, List.set_cons_zero, List.set_cons_succ]
                have hz := hHeld.2.1
                refine wpAnyH_ready (rs := [3]) (by kernel_rfl) (by simp) (AllReadyH.cons (o := _) (by rw [List.getElem?_toArray]; rfl) (fun K hK => ?_) AllReadyH.nil)
                go_simp
                go_at_call 19
                refine (copy_any _ ts _ (HT.out.below (hCV.trans (hHeld.1.mono hCV.size))) HB.out).mono ?_
                rintro e wc2 ⟨tvc, vsc, rfl, hinv, hBc⟩
                try replace so1 := so1.below hBc
                try replace so2 := so2.below hBc
                try replace so3 := so3.below hBc
                try replace hco := hco.below hBc
                have hco := hinv.txs
                clear hinv
                try replace h8 := (hBc.block _ (by have := h8s; omega)).trans h8
                try replace h8s := Nat.le_trans h8s hBc.size
                refine hK.out _ _ (⟨hHeld.1.trans (hBc.mono (by have := hHeld.2.1; omega)), Nat.le_trans hHeld.2.1 hBc.size, hHeld.2.2.keep hBc⟩) (fun hHeld2 => ?_)
                replace hHeld := hHeld2
                clear hK K hHeld2
                try simp only [Act.put, List.setIfInBounds_toArray, List.set_cons_zero, List.set_cons_succ]
                have hz := hHeld.2.1
                refine wpAnyH_ready (rs := [8]) (by kernel_rfl) (by simp) (AllReadyH.cons (o := _) (by rw [List.getElem?_toArray]; rfl) (fun K hK => ?_) AllReadyH.nil)
                go_simp
                go_at_call 26
                refine (CH.out lvo jvo svo tvc _ so1 so2 so3 hco).mono ?_
                rintro e w4 ⟨va, rfl, hva, hB4⟩
                obtain ⟨xa, xc, rfl⟩ := hva.1.1.val
                have hnl := hva.1.nil_or
                have hvo := hva.2
                have hvb := hva.1
                clear hva
                try have hlow := h8s
                try replace h8 := (hB4.block _ (by have := h8s; omega)).trans h8
                try replace h8s := Nat.le_trans h8s hB4.size
                refine hK.out _ _ (⟨hHeld.1.trans (hB4.mono (by have := hHeld.2.1; omega)), Nat.le_trans hHeld.2.1 hB4.size, hHeld.2.2.keep hB4⟩) (fun hHeld2 => ?_)
                replace hHeld := hHeld2
                clear hK K hHeld2
                try simp only [Act.put, List.setIfInBounds_toArray, List.set_cons_zero, List.set_cons_succ]
                have hz := hHeld.2.1
                try have f0 := cell_of_row _ _ 0 _ _ _ h8
                try have f1 := cell_of_row _ _ 1 _ _ _ h8
                try have f2 := cell_of_row _ _ 2 _ _ _ h8
                try have f3 := cell_of_row _ _ 3 _ _ _ h8
                try have f4 := cell_of_row _ _ 4 _ _ _ h8
                try have f5 := cell_of_row _ _ 5 _ _ _ h8
                try have z0 := frozen_of_row _ _ 0 _ _ h8
                try have z1 := frozen_of_row _ _ 1 _ _ h8
                try have z2 := frozen_of_row _ _ 2 _ _ h8
                try have z3 := frozen_of_row _ _ 3 _ _ h8
                try have z4 := frozen_of_row _ _ 4 _ _ h8
                try have z5 := frozen_of_row _ _ 5 _ _ h8
                try simp at f0 f1 f2 f3 f4 f5
                refine wpAnyH_take (i := 9) (oi := _) (v := ?_) (by rw [List.getElem?_toArray]; rfl) (by kernel_rfl) (by kernel_rfl) (by kernel_rfl) (by exact fun _ _ _ h => h) (Or.inl ⟨by rfl, ?_⟩) (by assumption) ?_
                rotate_left
                · intro w hSw
                  try simp only [Cells, blk, List.cons_append, List.nil_append, and_true, Nat.reduceAdd, Nat.add_zero, Nat.zero_add] at hSw
                  go_simp
                  try with_reducible rfl
                simp only [Act.put, List.setIfInBounds_toArray, List.set_cons_zero, List.set_cons_succ]
                refine wpAnyH_take (i := 10) (oi := _) (v := ?_) (by rw [List.getElem?_toArray]; rfl) (by kernel_rfl) (by kernel_rfl) (by kernel_rfl) (by exact fun _ _ _ h => h) (Or.inl ⟨by rfl, ?_⟩) (by assumption) ?_
                rotate_left
                · intro w hSw
                  try simp only [Cells, blk, List.cons_append, List.nil_append, and_true, Nat.reduceAdd, Nat.add_zero, Nat.zero_add] at hSw
                  go_simp
                  try with_reducible rfl
                simp only [Act.put, List.setIfInBounds_toArray, List.set_cons_zero, List.set_cons_succ]
                refine wpAnyH_take (i := 11) (oi := _) (v := ?_) (by rw [List.getElem?_toArray]; rfl) (by kernel_rfl) (by kernel_rfl) (by kernel_rfl) (by exact fun _ _ _ h => h) (Or.inl ⟨by rfl, ?_⟩) (by assumption) ?_
                rotate_left
                · intro w hSw
                  try simp only [Cells, blk, List.cons_append, List.nil_append, and_true, Nat.reduceAdd, Nat.add_zero, Nat.zero_add] at hSw
                  go_simp
                  try with_reducible rfl
                simp only [Act.put, List.setIfInBounds_toArray, List.set_cons_zero, List.set_cons_succ]
                refine wpAnyH_ready (rs := [13]) (by kernel_rfl) (by simp) (AllReadyH.cons (o := _) (by rw [List.getElem?_toArray]; rfl) (fun K hK => ?_) AllReadyH.nil)
                go_simp
                generalize hX : World.setCell _ _ _ = w9
                obtain ⟨h9, hg9⟩ := set6 h8 hX
                clear hX
                have hva9 := set6_by hg9 hvb (by
                  rcases hnl with e | ⟨b, e1, e2⟩
                  · exact .inl e
                  · refine .inr ⟨b, e1, ?_⟩
                    have := hvo b e1
                    omega)
                refine hK.out _ _ (⟨hHeld.1.grown hg9 (by have := hHeld.2.1; omega) (fun q hq => by have := hi8; simp at hq; omega), Nat.le_trans hHeld.2.1 hg9.size, hHeld.2.2.grown hg9 (fun x hx => by have := hi8; have := hwV; simp [blk] at hx; rcases hx with rfl | rfl | rfl | rfl | rfl | rfl | rfl | rfl <;> (simp; omega))⟩) (fun hHeld2 => ?_)
                replace hHeld := hHeld2
                clear hK K hHeld2
                try simp only [Act.put, List.setIfInBounds_toArray, List.set_cons_zero, List.set_cons_succ]
                have hz := hHeld.2.1
                refine wpAnyH_take (i := 14) (oi := _) (v := ?_) (by rw [List.getElem?_toArray]; rfl) (by kernel_rfl) (by kernel_rfl) (by kernel_rfl) (by exact fun _ _ _ h => h) (Or.inl ⟨by rfl, ?_⟩) (by assumption) ?_
                rotate_left
                · intro w hSw
                  try simp only [Cells, blk, List.cons_append, List.nil_append, and_true, Nat.reduceAdd, Nat.add_zero, Nat.zero_add] at hSw
                  go_simp
                  try with_reducible rfl
                simp only [Act.put, List.setIfInBounds_toArray, List.set_cons_zero, List.set_cons_succ]
                refine wpAnyH_done (by kernel_rfl) ?_ _
                go_wp2_with fail
                go_meet
                exact ⟨_, _, rfl, rfl, h9, hva9, hHeld.1⟩
            case rest =>
              obtain ⟨j1, va1, rfl, rfl, hi1, hva1, hBX⟩ := hcut
              rename World => X
              have TX := TV.keep hBX
              have hCX := hCV.trans (hBX.mono hCV.size)
              have hwX := Nat.le_trans hwV hBX.size
              have hi1s : j1 < X.heap.size := (Array.getElem?_eq_some_iff.1 hi1).1
              go_upto_region 9 with fail
              go_cut [10, 11] (fun p ok wx => ∃ i va, p = .pointer (some ⟨i, 0, none⟩) ∧ ok = .bool okv ∧ wx.heap[i]? = some (.cells #[.int .i64 r0, .int .i64 r1, .int .i64 r2, .int .i64 r3, .int .i64 r4, va] 47 (0, 0)) ∧ BytesAt wx va rb ∧ Below X.heap.size X wx)
              case first =>
                refine wp_region_held_drew (S := (fun W' : World => Below X.heap.size X W' ∧ X.heap.size ≤ W'.heap.size ∧ Cells W' (blk w.heap.size 0 0 [.int .i64 d, lv, jv, sv] ++ blk b5 (o5 + k * 4) 0 [.int .i64 dev, .int .i64 LC, .int .i64 LS, .int .i64 LE]))) (by kernel_rfl) (⟨(Below.refl _ _).drew, Nat.le_refl _, TX.drew⟩) (fun hHeld => ?_)
                generalize World.drew _ = wd at hHeld ⊢
                have hz := hHeld.2.1
                refine wpAnyH_take (i := 0) (oi := _) (v := ?_) (by rw [List.getElem?_toArray]; rfl) (by kernel_rfl) (by kernel_rfl) (by kernel_rfl) (by exact fun _ _ _ h => h) (Or.inl ⟨by rfl, ?_⟩) (by assumption) ?_
                rotate_left
                · intro w hSw
                  try simp only [Cells, blk, List.cons_append, List.nil_append, and_true, Nat.reduceAdd, Nat.add_zero, Nat.zero_add] at hSw
                  go_simp
                  try with_reducible rfl
                simp only [Act.put, List.setIfInBounds_toArray, List.set_cons_zero, List.set_cons_succ]
                refine wpAnyH_take (i := 1) (oi := _) (v := ?_) (by rw [List.getElem?_toArray]; rfl) (by kernel_rfl) (by kernel_rfl) (by kernel_rfl) (by exact fun _ _ _ h => h) (Or.inl ⟨by rfl, ?_⟩) (by assumption) ?_
                rotate_left
                · intro w hSw
                  try simp only [Cells, blk, List.cons_append, List.nil_append, and_true, Nat.reduceAdd, Nat.add_zero, Nat.zero_add] at hSw
                  go_simp
                  try with_reducible rfl
                simp only [Act.put, List.setIfInBounds_toArray, List.set_cons_zero, List.set_cons_succ]
                refine wpAnyH_take (i := 2) (oi := _) (v := ?_) (by rw [List.getElem?_toArray]; rfl) (by kernel_rfl) (by kernel_rfl) (by kernel_rfl) (by exact fun _ _ _ h => h) (Or.inl ⟨by rfl, ?_⟩) (by assumption) ?_
                rotate_left
                · intro w hSw
                  try simp only [Cells, blk, List.cons_append, List.nil_append, and_true, Nat.reduceAdd, Nat.add_zero, Nat.zero_add] at hSw
                  go_simp
                  try with_reducible rfl
                simp only [Act.put, List.setIfInBounds_toArray, List.set_cons_zero, List.set_cons_succ]
                refine wpAnyH_take (i := 3) (oi := _) (v := ?_) (by rw [List.getElem?_toArray]; rfl) (by kernel_rfl) (by kernel_rfl) (by kernel_rfl) (by exact fun _ _ _ h => h) (Or.inl ⟨by rfl, ?_⟩) (by assumption) ?_
                rotate_left
                · intro w hSw
                  try simp only [Cells, blk, List.cons_append, List.nil_append, and_true, Nat.reduceAdd, Nat.add_zero, Nat.zero_add] at hSw
                  go_simp
                  try with_reducible rfl
                simp only [Act.put, List.setIfInBounds_toArray, List.set_cons_zero, List.set_cons_succ]
                refine wpAnyH_take (i := 4) (oi := _) (v := ?_) (by rw [List.getElem?_toArray]; rfl) (by kernel_rfl) (by kernel_rfl) (by kernel_rfl) (by exact fun _ _ _ h => h) (Or.inl ⟨by rfl, ?_⟩) (by assumption) ?_
                rotate_left
                · intro w hSw
                  try simp only [Cells, blk, List.cons_append, List.nil_append, and_true, Nat.reduceAdd, Nat.add_zero, Nat.zero_add] at hSw
                  go_simp
                  try with_reducible rfl
                simp only [Act.put, List.setIfInBounds_toArray, List.set_cons_zero, List.set_cons_succ]
                refine wpAnyH_take (i := 5) (oi := _) (v := ?_) (by rw [List.getElem?_toArray]; rfl) (by kernel_rfl) (by kernel_rfl) (by kernel_rfl) (by exact fun _ _ _ h => h) (Or.inl ⟨by rfl, ?_⟩) (by assumption) ?_
                rotate_left
                · intro w hSw
                  try simp only [Cells, blk, List.cons_append, List.nil_append, and_true, Nat.reduceAdd, Nat.add_zero, Nat.zero_add] at hSw
                  go_simp
                  try with_reducible rfl
                simp only [Act.put, List.setIfInBounds_toArray, List.set_cons_zero, List.set_cons_succ]
                refine wpAnyH_ready (rs := [6, 10]) (by kernel_rfl) (by simp) (AllReadyH.cons (o := _) (by rw [List.getElem?_toArray]; rfl) (fun K hK => ?_) (AllReadyH.cons (o := _) (by rw [List.getElem?_toArray]; rfl) (fun K hK => ?_) AllReadyH.nil))
                · go_simp
                  go_at_call 28
                  refine (CH2.out _ (hCX.trans (hHeld.1.mono hCX.size))).mono ?_
                  rintro e w4 ⟨va, rfl, hva, hB4⟩
                  obtain ⟨xa, xc, rfl⟩ := hva.1.1.val
                  have hnl := hva.1.nil_or
                  have hvo := hva.2
                  have hvb := hva.1
                  clear hva
                  try have hlow := h8s
                  try replace h8 := (hB4.block _ (by have := h8s; omega)).trans h8
                  try replace h8s := Nat.le_trans h8s hB4.size
                  refine hK.out _ _ (⟨hHeld.1.trans (hB4.mono (by have := hHeld.2.1; omega)), Nat.le_trans hHeld.2.1 hB4.size, hHeld.2.2.keep hB4⟩) (fun hHeld2 => ?_)
                  replace hHeld := hHeld2
                  clear hK K hHeld2
                  try simp only [Act.put, List.setIfInBounds_toArray, List.set_cons_zero, List.set_cons_succ]
                  have hz := hHeld.2.1
                  try have f0 := cell_of_row _ _ 0 _ _ _ h8
                  try have f1 := cell_of_row _ _ 1 _ _ _ h8
                  try have f2 := cell_of_row _ _ 2 _ _ _ h8
                  try have f3 := cell_of_row _ _ 3 _ _ _ h8
                  try have f4 := cell_of_row _ _ 4 _ _ _ h8
                  try have f5 := cell_of_row _ _ 5 _ _ _ h8
                  try have z0 := frozen_of_row _ _ 0 _ _ h8
                  try have z1 := frozen_of_row _ _ 1 _ _ h8
                  try have z2 := frozen_of_row _ _ 2 _ _ h8
                  try have z3 := frozen_of_row _ _ 3 _ _ h8
                  try have z4 := frozen_of_row _ _ 4 _ _ h8
                  try have z5 := frozen_of_row _ _ 5 _ _ h8
                  try simp at f0 f1 f2 f3 f4 f5
                  refine wpAnyH_take (i := 7) (oi := _) (v := ?_) (by rw [List.getElem?_toArray]; rfl) (by kernel_rfl) (by kernel_rfl) (by kernel_rfl) (by exact fun _ _ _ h => h) (Or.inl ⟨by rfl, ?_⟩) (by assumption) ?_
                  rotate_left
                  · intro w hSw
                    try simp only [Cells, blk, List.cons_append, List.nil_append, and_true, Nat.reduceAdd, Nat.add_zero, Nat.zero_add] at hSw
                    go_simp
                    try with_reducible rfl
                  simp only [Act.put, List.setIfInBounds_toArray, List.set_cons_zero, List.set_cons_succ]
                  refine wpAnyH_take (i := 8) (oi := _) (v := ?_) (by rw [List.getElem?_toArray]; rfl) (by kernel_rfl) (by kernel_rfl) (by kernel_rfl) (by exact fun _ _ _ h => h) (Or.inl ⟨by rfl, ?_⟩) (by assumption) ?_
                  rotate_left
                  · intro w hSw
                    try simp only [Cells, blk, List.cons_append, List.nil_append, and_true, Nat.reduceAdd, Nat.add_zero, Nat.zero_add] at hSw
                    go_simp
                    try with_reducible rfl
                  simp only [Act.put, List.setIfInBounds_toArray, List.set_cons_zero, List.set_cons_succ]
                  refine wpAnyH_take (i := 9) (oi := _) (v := ?_) (by rw [List.getElem?_toArray]; rfl) (by kernel_rfl) (by kernel_rfl) (by kernel_rfl) (by exact fun _ _ _ h => h) (Or.inl ⟨by rfl, ?_⟩) (by assumption) ?_
                  rotate_left
                  · intro w hSw
                    try simp only [Cells, blk, List.cons_append, List.nil_append, and_true, Nat.reduceAdd, Nat.add_zero, Nat.zero_add] at hSw
                    go_simp
                    try with_reducible rfl
                  simp only [Act.put, List.setIfInBounds_toArray, List.set_cons_zero, List.set_cons_succ]
                  refine wpAnyH_ready (rs := [10]) (by kernel_rfl) (by simp) (AllReadyH.cons (o := _) (by rw [List.getElem?_toArray]; rfl) (fun K hK => ?_) AllReadyH.nil)
                  go_simp
                  generalize hX : World.alloc _ (.cells _ 47) = w8
                  obtain ⟨h8, hB8, h8z⟩ := alloc_named hX
                  clear hX
                  refine hK.out _ _ (⟨hHeld.1.trans (hB8.mono (by have := hHeld.2.1; omega)), Nat.le_trans hHeld.2.1 hB8.size, hHeld.2.2.keep hB8⟩) (fun hHeld2 => ?_)
                  replace hHeld := hHeld2
                  clear hK K hHeld2
                  try simp only [Act.put, List.setIfInBounds_toArray, List.set_cons_zero, List.set_cons_succ]
                  have h8s := Nat.le_of_eq h8z.symm
                  clear h8z
                  have hi8 := hz
                  have hz := hHeld.2.1
                  try replace so1 := so1.below hB8
                  try replace so2 := so2.below hB8
                  try replace so3 := so3.below hB8
                  try replace hco := hco.below hB8
                  try replace hvb := hvb.below hB8
                  try have f0 := cell_of_row _ _ 0 _ _ _ h8
                  try have f1 := cell_of_row _ _ 1 _ _ _ h8
                  try have f2 := cell_of_row _ _ 2 _ _ _ h8
                  try have f3 := cell_of_row _ _ 3 _ _ _ h8
                  try have f4 := cell_of_row _ _ 4 _ _ _ h8
                  try have f5 := cell_of_row _ _ 5 _ _ _ h8
                  try have z0 := frozen_of_row _ _ 0 _ _ h8
                  try have z1 := frozen_of_row _ _ 1 _ _ h8
                  try have z2 := frozen_of_row _ _ 2 _ _ h8
                  try have z3 := frozen_of_row _ _ 3 _ _ h8
                  try have z4 := frozen_of_row _ _ 4 _ _ h8
                  try have z5 := frozen_of_row _ _ 5 _ _ h8
                  try simp at f0 f1 f2 f3 f4 f5
                  refine wpAnyH_ready (rs := [11]) (by kernel_rfl) (by simp) (AllReadyH.cons (o := _) (by rw [List.getElem?_toArray]; rfl) (fun K hK => ?_) AllReadyH.nil)
                  go_simp
                  generalize hX : World.setCell _ _ _ = w9
                  obtain ⟨h9, hg9⟩ := set6 h8 hX
                  clear hX
                  have hva9 := set6_by hg9 hvb (by
                    rcases hnl with e | ⟨b, e1, e2⟩
                    · exact .inl e
                    · refine .inr ⟨b, e1, ?_⟩
                      have := hvo b e1
                      omega)
                  refine hK.out _ _ (⟨hHeld.1.grown hg9 (by have := hHeld.2.1; omega) (fun q hq => by have := hi8; simp at hq; omega), Nat.le_trans hHeld.2.1 hg9.size, hHeld.2.2.grown hg9 (fun x hx => by have := hi8; have := hwX; simp [blk] at hx; rcases hx with rfl | rfl | rfl | rfl | rfl | rfl | rfl | rfl <;> (simp; omega))⟩) (fun hHeld2 => ?_)
                  replace hHeld := hHeld2
                  clear hK K hHeld2
                  try simp only [Act.put, List.setIfInBounds_toArray, List.set_cons_zero, List.set_cons_succ]
                  have hz := hHeld.2.1
                  refine wpAnyH_take (i := 12) (oi := _) (v := ?_) (by rw [List.getElem?_toArray]; rfl) (by kernel_rfl) (by kernel_rfl) (by kernel_rfl) (by exact fun _ _ _ h => h) (Or.inl ⟨by rfl, ?_⟩) (by assumption) ?_
                  rotate_left
                  · intro w hSw
                    try simp only [Cells, blk, List.cons_append, List.nil_append, and_true, Nat.reduceAdd, Nat.add_zero, Nat.zero_add] at hSw
                    go_simp
                    try with_reducible rfl
                  simp only [Act.put, List.setIfInBounds_toArray, List.set_cons_zero, List.set_cons_succ]
                  refine wpAnyH_done (by kernel_rfl) ?_ _
                  go_wp2_with fail
                  go_meet
                  exact ⟨_, _, rfl, rfl, h9, hva9, hHeld.1⟩
                · go_simp
                  generalize hX : World.alloc _ (.cells _ 47) = w8
                  obtain ⟨h8, hB8, h8z⟩ := alloc_named hX
                  clear hX
                  refine hK.out _ _ (⟨hHeld.1.trans (hB8.mono (by have := hHeld.2.1; omega)), Nat.le_trans hHeld.2.1 hB8.size, hHeld.2.2.keep hB8⟩) (fun hHeld2 => ?_)
                  replace hHeld := hHeld2
                  clear hK K hHeld2
                  try simp only [Act.put, List.setIfInBounds_toArray, List.set_cons_zero, List.set_cons_succ]
                  have h8s := Nat.le_of_eq h8z.symm
                  clear h8z
                  have hi8 := hz
                  have hz := hHeld.2.1
                  try replace so1 := so1.below hB8
                  try replace so2 := so2.below hB8
                  try replace so3 := so3.below hB8
                  try replace hco := hco.below hB8
                  try replace hvb := hvb.below hB8
                  try have f0 := cell_of_row _ _ 0 _ _ _ h8
                  try have f1 := cell_of_row _ _ 1 _ _ _ h8
                  try have f2 := cell_of_row _ _ 2 _ _ _ h8
                  try have f3 := cell_of_row _ _ 3 _ _ _ h8
                  try have f4 := cell_of_row _ _ 4 _ _ _ h8
                  try have f5 := cell_of_row _ _ 5 _ _ _ h8
                  try have z0 := frozen_of_row _ _ 0 _ _ h8
                  try have z1 := frozen_of_row _ _ 1 _ _ h8
                  try have z2 := frozen_of_row _ _ 2 _ _ h8
                  try have z3 := frozen_of_row _ _ 3 _ _ h8
                  try have z4 := frozen_of_row _ _ 4 _ _ h8
                  try have z5 := frozen_of_row _ _ 5 _ _ h8
                  try simp at f0 f1 f2 f3 f4 f5
                  refine wpAnyH_ready (rs := [6]) (by kernel_rfl) (by simp) (AllReadyH.cons (o := _) (by rw [List.getElem?_toArray]; rfl) (fun K hK => ?_) AllReadyH.nil)
                  go_simp
                  go_at_call 28
                  refine (CH2.out _ (hCX.trans (hHeld.1.mono hCX.size))).mono ?_
                  rintro e w4 ⟨va, rfl, hva, hB4⟩
                  obtain ⟨xa, xc, rfl⟩ := hva.1.1.val
                  have hnl := hva.1.nil_or
                  have hvo := hva.2
                  have hvb := hva.1
                  clear hva
                  try have hlow := h8s
                  try replace h8 := (hB4.block _ (by have := h8s; omega)).trans h8
                  try replace h8s := Nat.le_trans h8s hB4.size
                  refine hK.out _ _ (⟨hHeld.1.trans (hB4.mono (by have := hHeld.2.1; omega)), Nat.le_trans hHeld.2.1 hB4.size, hHeld.2.2.keep hB4⟩) (fun hHeld2 => ?_)
                  replace hHeld := hHeld2
                  clear hK K hHeld2
                  try simp only [Act.put, List.setIfInBounds_toArray, List.set_cons_zero, List.set_cons_succ]
                  have hz := hHeld.2.1
                  try have f0 := cell_of_row _ _ 0 _ _ _ h8
                  try have f1 := cell_of_row _ _ 1 _ _ _ h8
                  try have f2 := cell_of_row _ _ 2 _ _ _ h8
                  try have f3 := cell_of_row _ _ 3 _ _ _ h8
                  try have f4 := cell_of_row _ _ 4 _ _ _ h8
                  try have f5 := cell_of_row _ _ 5 _ _ _ h8
                  try have z0 := frozen_of_row _ _ 0 _ _ h8
                  try have z1 := frozen_of_row _ _ 1 _ _ h8
                  try have z2 := frozen_of_row _ _ 2 _ _ h8
                  try have z3 := frozen_of_row _ _ 3 _ _ h8
                  try have z4 := frozen_of_row _ _ 4 _ _ h8
                  try have z5 := frozen_of_row _ _ 5 _ _ h8
                  try simp at f0 f1 f2 f3 f4 f5
                  refine wpAnyH_take (i := 7) (oi := _) (v := ?_) (by rw [List.getElem?_toArray]; rfl) (by kernel_rfl) (by kernel_rfl) (by kernel_rfl) (by exact fun _ _ _ h => h) (Or.inl ⟨by rfl, ?_⟩) (by assumption) ?_
                  rotate_left
                  · intro w hSw
                    try simp only [Cells, blk, List.cons_append, List.nil_append, and_true, Nat.reduceAdd, Nat.add_zero, Nat.zero_add] at hSw
                    go_simp
                    try with_reducible rfl
                  simp only [Act.put, List.setIfInBounds_toArray, List.set_cons_zero, List.set_cons_succ]
                  refine wpAnyH_take (i := 8) (oi := _) (v := ?_) (by rw [List.getElem?_toArray]; rfl) (by kernel_rfl) (by kernel_rfl) (by kernel_rfl) (by exact fun _ _ _ h => h) (Or.inl ⟨by rfl, ?_⟩) (by assumption) ?_
                  rotate_left
                  · intro w hSw
                    try simp only [Cells, blk, List.cons_append, List.nil_append, and_true, Nat.reduceAdd, Nat.add_zero, Nat.zero_add] at hSw
                    go_simp
                    try with_reducible rfl
                  simp only [Act.put, List.setIfInBounds_toArray, List.set_cons_zero, List.set_cons_succ]
                  refine wpAnyH_take (i := 9) (oi := _) (v := ?_) (by rw [List.getElem?_toArray]; rfl) (by kernel_rfl) (by kernel_rfl) (by kernel_rfl) (by exact fun _ _ _ h => h) (Or.inl ⟨by rfl, ?_⟩) (by assumption) ?_
                  rotate_left
                  · intro w hSw
                    try simp only [Cells, blk, List.cons_append, List.nil_append, and_true, Nat.reduceAdd, Nat.add_zero, Nat.zero_add] at hSw
                    go_simp
                    try with_reducible rfl
                  simp only [Act.put, List.setIfInBounds_toArray, List.set_cons_zero, List.set_cons_succ]
                  refine wpAnyH_ready (rs := [11]) (by kernel_rfl) (by simp) (AllReadyH.cons (o := _) (by rw [List.getElem?_toArray]; rfl) (fun K hK => ?_) AllReadyH.nil)
                  go_simp
                  generalize hX : World.setCell _ _ _ = w9
                  obtain ⟨h9, hg9⟩ := set6 h8 hX
                  clear hX
                  have hva9 := set6_by hg9 hvb (by
                    rcases hnl with e | ⟨b, e1, e2⟩
                    · exact .inl e
                    · refine .inr ⟨b, e1, ?_⟩
                      have := hvo b e1
                      omega)
                  refine hK.out _ _ (⟨hHeld.1.grown hg9 (by have := hHeld.2.1; omega) (fun q hq => by have := hi8; simp at hq; omega), Nat.le_trans hHeld.2.1 hg9.size, hHeld.2.2.grown hg9 (fun x hx => by have := hi8; have := hwX; simp [blk] at hx; rcases hx with rfl | rfl | rfl | rfl | rfl | rfl | rfl | rfl <;> (simp; omega))⟩) (fun hHeld2 => ?_)
                  replace hHeld := hHeld2
                  clear hK K hHeld2
                  try simp only [Act.put, List.setIfInBounds_toArray, List.set_cons_zero, List.set_cons_succ]
                  have hz := hHeld.2.1
                  refine wpAnyH_take (i := 12) (oi := _) (v := ?_) (by rw [List.getElem?_toArray]; rfl) (by kernel_rfl) (by kernel_rfl) (by kernel_rfl) (by exact fun _ _ _ h => h) (Or.inl ⟨by rfl, ?_⟩) (by assumption) ?_
                  rotate_left
                  · intro w hSw
                    try simp only [Cells, blk, List.cons_append, List.nil_append, and_true, Nat.reduceAdd, Nat.add_zero, Nat.zero_add] at hSw
                    go_simp
                    try with_reducible rfl
                  simp only [Act.put, List.setIfInBounds_toArray, List.set_cons_zero, List.set_cons_succ]
                  refine wpAnyH_done (by kernel_rfl) ?_ _
                  go_wp2_with fail
                  go_meet
                  exact ⟨_, _, rfl, rfl, h9, hva9, hHeld.1⟩
              case rest =>
                obtain ⟨j2, va2, rfl, rfl, hi2, hva2, hBY⟩ := hcut
                rename World => Y
                have hCY := hCX.trans (hBY.mono hCX.size)
                have hBf := HB3.out.trans ((hBX.mono HB3.out.size).trans (hBY.mono (Nat.le_trans HB3.out.size hBX.size)))
                have hi1Y := (hBY.block j1 hi1s).trans hi1
                have hsb : sameB ⟨r0, r1, r2, r3, r4, rb⟩ ⟨r0, r1, r2, r3, r4, rb⟩ = true := by unfold sameB; simp
                have cs := same_any ⟨r0, r1, r2, r3, r4, rb⟩ ⟨r0, r1, r2, r3, r4, rb⟩ va1 va2 Y (hva1.below hBY) hva2
                rw [hsb] at cs
                have CS := Lib.hid cs
                have TY : Cells Y (blk j1 0 0 [.int .i64 r0, .int .i64 r1, .int .i64 r2, .int .i64 r3, .int .i64 r4, va1] ++ blk j2 0 0 [.int .i64 r0, .int .i64 r1, .int .i64 r2, .int .i64 r3, .int .i64 r4, va2]) :=
                  (show Cells Y (blk j1 0 0 [.int .i64 r0, .int .i64 r1, .int .i64 r2, .int .i64 r3, .int .i64 r4, va1]) from ⟨cell_of_row _ _ 0 _ _ _ hi1Y, cell_of_row _ _ 1 _ _ _ hi1Y, cell_of_row _ _ 2 _ _ _ hi1Y, cell_of_row _ _ 3 _ _ _ hi1Y, cell_of_row _ _ 4 _ _ _ hi1Y, cell_of_row _ _ 5 _ _ _ hi1Y, trivial⟩).app
                  ⟨cell_of_row _ _ 0 _ _ _ hi2, cell_of_row _ _ 1 _ _ _ hi2, cell_of_row _ _ 2 _ _ _ hi2, cell_of_row _ _ 3 _ _ _ hi2, cell_of_row _ _ 4 _ _ _ hi2, cell_of_row _ _ 5 _ _ _ hi2, trivial⟩
                have HBF := Lib.hid hBf
                clear hsb cs hi1 hi1Y hi2 hva1 hva2 TV TX hBf hBX hBY
                have hOpen := TY
                simp only [Cells, blk, List.cons_append, List.nil_append, and_true, Nat.reduceAdd, Nat.add_zero, Nat.zero_add] at hOpen
                obtain ⟨k0, k1, k2, k3, k4, k5, k6, k7, k8, k9, k10, k11⟩ := hOpen
                have gok : (okv != okv) = false := by simp
                go_wp2_with (go_at_call 27; refine CS.out.mono ?_; rintro e w6 ⟨rfl, hB6⟩)
                refine ⟨⟨k + 1, by simp, hlt, HBF.out.trans (hB6.mono HBF.out.size)⟩, ?_⟩
                simp [intOf]
                omega
          · have g1 : decide (k < n2) = false := by simpa using hlt
            go_upto_region 12 with fail
            refine wp_region_held_drew (S := (fun W' : World => Below V.heap.size V W' ∧ V.heap.size ≤ W'.heap.size ∧ Cells W' (blk w.heap.size 0 0 [.int .i64 d, lv, jv, sv]))) (by kernel_rfl) (⟨(Below.refl _ _).drew, Nat.le_refl _, TV0.drew⟩) (fun hHeld => ?_)
            generalize World.drew _ = wd at hHeld ⊢
            have hz := hHeld.2.1
            refine wpAnyH_take (i := 0) (oi := _) (v := ?_) (by rw [List.getElem?_toArray]; rfl) (by kernel_rfl) (by kernel_rfl) (by kernel_rfl) (by exact fun _ _ _ h => h) (Or.inl ⟨by rfl, ?_⟩) (by assumption) ?_
            rotate_left
            · intro w hSw
              try simp only [Cells, blk, List.cons_append, List.nil_append, and_true, Nat.reduceAdd, Nat.add_zero, Nat.zero_add] at hSw
              go_simp
              try with_reducible rfl
            simp only [Act.put, List.setIfInBounds_toArray, List.set_cons_zero, List.set_cons_succ]
            refine wpAnyH_take (i := 2) (oi := _) (v := ?_) (by rw [List.getElem?_toArray]; rfl) (by kernel_rfl) (by kernel_rfl) (by kernel_rfl) (by exact fun _ _ _ h => h) (Or.inl ⟨by rfl, ?_⟩) (by assumption) ?_
            rotate_left
            · intro w hSw
              try simp only [Cells, blk, List.cons_append, List.nil_append, and_true, Nat.reduceAdd, Nat.add_zero, Nat.zero_add] at hSw
              go_simp
              try with_reducible rfl
            simp only [Act.put, List.setIfInBounds_toArray, List.set_cons_zero, List.set_cons_succ]
            refine wpAnyH_take (i := 5) (oi := _) (v := ?_) (by rw [List.getElem?_toArray]; rfl) (by kernel_rfl) (by kernel_rfl) (by kernel_rfl) (by exact fun _ _ _ h => h) (Or.inl ⟨by rfl, ?_⟩) (by assumption) ?_
            rotate_left
            · intro w hSw
              try simp only [Cells, blk, List.cons_append, List.nil_append, and_true, Nat.reduceAdd, Nat.add_zero, Nat.zero_add] at hSw
              go_simp
              try with_reducible rfl
            simp only [Act.put, List.setIfInBounds_toArray, List.set_cons_zero, List.set_cons_succ]
            refine wpAnyH_take (i := 8) (oi := _) (v := ?_) (by rw [List.getElem?_toArray]; rfl) (by kernel_rfl) (by kernel_rfl) (by kernel_rfl) (by exact fun _ _ _ h => h) (Or.inl ⟨by rfl, ?_⟩) (by assumption) ?_
            rotate_left
            · intro w hSw
              try simp only [Cells, blk, List.cons_append, List.nil_append, and_true, Nat.reduceAdd, Nat.add_zero, Nat.zero_add] at hSw
              go_simp
              try with_reducible rfl
            simp only [Act.put, List.setIfInBounds_toArray, List.set_cons_zero, List.set_cons_succ]
            refine wpAnyH_take (i := 9) (oi := _) (v := ?_) (by rw [List.getElem?_toArray]; rfl) (by kernel_rfl) (by kernel_rfl) (by kernel_rfl) (by exact fun _ _ _ h => h) (Or.inl ⟨by rfl, ?_⟩) (by assumption) ?_
            rotate_left
            · intro w hSw
              try simp only [Cells, blk, List.cons_append, List.nil_append, and_true, Nat.reduceAdd, Nat.add_zero, Nat.zero_add] at hSw
              go_simp
              try with_reducible rfl
            simp only [Act.put, List.setIfInBounds_toArray, List.set_cons_zero, List.set_cons_succ]
            refine wpAnyH_take (i := 10) (oi := _) (v := ?_) (by rw [List.getElem?_toArray]; rfl) (by kernel_rfl) (by kernel_rfl) (by kernel_rfl) (by exact fun _ _ _ h => h) (Or.inl ⟨by rfl, ?_⟩) (by assumption) ?_
            rotate_left
            · intro w hSw
              try simp only [Cells, blk, List.cons_append, List.nil_append, and_true, Nat.reduceAdd, Nat.add_zero, Nat.zero_add] at hSw
              go_simp
              try with_reducible rfl
            simp only [Act.put, List.setIfInBounds_toArray, List.set_cons_zero, List.set_cons_succ]
            refine wpAnyH_ready (rs := [1, 4]) (by kernel_rfl) (by simp) (AllReadyH.cons (o := _) (by rw [List.getElem?_toArray]; rfl) (fun K hK => ?_) (AllReadyH.cons (o := _) (by rw [List.getElem?_toArray]; rfl) (fun K hK => ?_) AllReadyH.nil))
            · go_simp
              go_at_call 18
              refine (own_any d lv jv sv ls js ss _ (HA.out.l.below (hCV.trans (hHeld.1.mono hCV.size))) (HA.out.j.below (hCV.trans (hHeld.1.mono hCV.size))) (HA.out.s.below (hCV.trans (hHeld.1.mono hCV.size))) HA.out.lb HA.out.jb HA.out.sb).mono ?_
              rintro e wo ⟨lvo, jvo, svo, rfl, ⟨so1, _⟩, ⟨so2, _⟩, ⟨so3, _⟩, hBo⟩
              refine hK.out _ _ (⟨hHeld.1.trans (hBo.mono (by have := hHeld.2.1; omega)), Nat.le_trans hHeld.2.1 hBo.size, hHeld.2.2.keep hBo⟩) (fun hHeld2 => ?_)
              replace hHeld := hHeld2
              clear hK K hHeld2
              try simp only [Act.put, List.setIfInBounds_toArray, List.set_cons_zero, List.set_cons_succ]
              have hz := hHeld.2.1
              refine wpAnyH_ready (rs := [3, 4]) (by kernel_rfl) (by simp) (AllReadyH.cons (o := _) (by rw [List.getElem?_toArray]; rfl) (fun K hK => ?_) (AllReadyH.cons (o := _) (by rw [List.getElem?_toArray]; rfl) (fun K hK => ?_) AllReadyH.nil))
              · go_simp
                go_at_call 19
                refine (copy_any _ ts _ (HT.out.below (hCV.trans (hHeld.1.mono hCV.size))) HB.out).mono ?_
                rintro e wc2 ⟨tvc, vsc, rfl, hinv, hBc⟩
                try replace so1 := so1.below hBc
                try replace so2 := so2.below hBc
                try replace so3 := so3.below hBc
                try replace hco := hco.below hBc
                have hco := hinv.txs
                clear hinv
                refine hK.out _ _ (⟨hHeld.1.trans (hBc.mono (by have := hHeld.2.1; omega)), Nat.le_trans hHeld.2.1 hBc.size, hHeld.2.2.keep hBc⟩) (fun hHeld2 => ?_)
                replace hHeld := hHeld2
                clear hK K hHeld2
                try simp only [Act.put, List.setIfInBounds_toArray, List.set_cons_zero, List.set_cons_succ]
                have hz := hHeld.2.1
                refine wpAnyH_ready (rs := [4]) (by kernel_rfl) (by simp) (AllReadyH.cons (o := _) (by rw [List.getElem?_toArray]; rfl) (fun K hK => ?_) AllReadyH.nil)
                go_simp
                generalize hX : World.alloc _ (.cells #[] 45) = w2'
                obtain ⟨h2, hB2, h2z⟩ := alloc_named hX
                clear hX h2z h2
                try replace so1 := so1.below hB2
                try replace so2 := so2.below hB2
                try replace so3 := so3.below hB2
                try replace hco := hco.below hB2
                refine hK.out _ _ (⟨hHeld.1.trans (hB2.mono (by have := hHeld.2.1; omega)), Nat.le_trans hHeld.2.1 hB2.size, hHeld.2.2.keep hB2⟩) (fun hHeld2 => ?_)
                replace hHeld := hHeld2
                clear hK K hHeld2
                try simp only [Act.put, List.setIfInBounds_toArray, List.set_cons_zero, List.set_cons_succ]
                have hz := hHeld.2.1
                refine wpAnyH_ready (rs := [6]) (by kernel_rfl) (by simp) (AllReadyH.cons (o := _) (by rw [List.getElem?_toArray]; rfl) (fun K hK => ?_) AllReadyH.nil)
                refine step_append_empty (by rfl) _ _ 53 (by rfl) 45 i4 (.agg #[.int .i64 0, .int .i64 0, .int .i64 0, .int .i64 0]) 4 32 Try.underlying53 hi4 hx0 hx1 hx2 rfl (by decide) _ (by rfl) _ l.length (lcells l) (by rfl) (HL.out.below (hCV.trans (hHeld.1.mono hCV.size))) HLB.out ?_
                intro v6 w6 hr6 hB6 ho6 hn6
                clear ho6 hn6
                try replace so1 := so1.below hB6
                try replace so2 := so2.below hB6
                try replace so3 := so3.below hB6
                try replace hco := hco.below hB6
                refine hK.out _ _ (⟨hHeld.1.trans (hB6.mono (by have := hHeld.2.1; omega)), Nat.le_trans hHeld.2.1 hB6.size, hHeld.2.2.keep hB6⟩) (fun hHeld2 => ?_)
                replace hHeld := hHeld2
                clear hK K hHeld2
                try simp only [Act.put, List.setIfInBounds_toArray, List.set_cons_zero, List.set_cons_succ]
                have hz := hHeld.2.1
                refine wpAnyH_ready (rs := [7]) (by kernel_rfl) (by simp) (AllReadyH.cons (o := _) (by rw [List.getElem?_toArray]; rfl) (fun K hK => ?_) AllReadyH.nil)
                go_simp
                go_at_call 30
                refine (all_any d lvo jvo svo tvc v6 ls js ss ts l _ HF.out so1 so2 so3 hco hr6 (by rw [HN2.out]; omega)).mono ?_
                rintro e w7 ⟨v7, p7, rfl, hrc7, hm7, ht7, hB7⟩
                have HM7 := Lib.hid hm7
                have HT7 := Lib.hid ht7
                clear hm7 ht7
                refine hK.out _ _ (⟨hHeld.1.trans (hB7.mono (by have := hHeld.2.1; omega)), Nat.le_trans hHeld.2.1 hB7.size, hHeld.2.2.keep hB7⟩) (fun hHeld2 => ?_)
                replace hHeld := hHeld2
                clear hK K hHeld2
                try simp only [Act.put, List.setIfInBounds_toArray, List.set_cons_zero, List.set_cons_succ]
                have hz := hHeld.2.1
                refine wpAnyH_ready (rs := [11]) (by kernel_rfl) (by simp) (AllReadyH.cons (o := _) (by rw [List.getElem?_toArray]; rfl) (fun K hK => ?_) AllReadyH.nil)
                go_simp
                go_at_call 31
                refine (rall_any d lv jv sv (.slice ao n cap) _ ls js ss ts l _ HF.out HID.out (HA.out.l.below (hCV.trans (hHeld.1.mono hCV.size))) (HA.out.j.below (hCV.trans (hHeld.1.mono hCV.size))) (HA.out.s.below (hCV.trans (hHeld.1.mono hCV.size))) (HT.out.below (hCV.trans (hHeld.1.mono hCV.size))) (HL.out.below (hCV.trans (hHeld.1.mono hCV.size))) (by rw [HN2.out]; omega)).mono ?_
                rintro e w11 ⟨v11, p11, rfl, hrc11, hm11, ht11, hB11⟩
                rw [prm_congr (h' := fun k => (heard ls js ss ts l).getD k default) (q := p7) (fun k hk => by show (heard ls js ss ts l).getD (p11 k) default = _; rw [srt_unique (rlt_swo _) HT7.out ht11 HM7.out hm11 k hk])] at hrc11
                replace hrc7 := hrc7.below hB11
                clear hm11 ht11
                refine hK.out _ _ (⟨hHeld.1.trans (hB11.mono (by have := hHeld.2.1; omega)), Nat.le_trans hHeld.2.1 hB11.size, hHeld.2.2.keep hB11⟩) (fun hHeld2 => ?_)
                replace hHeld := hHeld2
                clear hK K hHeld2
                try simp only [Act.put, List.setIfInBounds_toArray, List.set_cons_zero, List.set_cons_succ]
                have hz := hHeld.2.1
                refine wpAnyH_ready (rs := [12]) (by kernel_rfl) (by simp) (AllReadyH.cons (o := _) (by rw [List.getElem?_toArray]; rfl) (fun K hK => ?_) AllReadyH.nil)
                go_simp
                go_at_call 29
                refine (sameAll_any _ v7 v11 _ hrc7 hrc11).mono ?_
                rintro e w12 ⟨rfl, hB12⟩
                refine hK.out _ _ (⟨hHeld.1.trans (hB12.mono (by have := hHeld.2.1; omega)), Nat.le_trans hHeld.2.1 hB12.size, hHeld.2.2.keep hB12⟩) (fun hHeld2 => ?_)
                replace hHeld := hHeld2
                clear hK K hHeld2
                try simp only [Act.put, List.setIfInBounds_toArray, List.set_cons_zero, List.set_cons_succ]
                refine wpAnyH_take (i := 13) (oi := _) (v := ?_) (by rw [List.getElem?_toArray]; rfl) (by kernel_rfl) (by kernel_rfl) (by kernel_rfl) (by exact fun _ _ _ h => h) (Or.inl ⟨by rfl, ?_⟩) (by assumption) ?_
                rotate_left
                · intro w hSw
                  try simp only [Cells, blk, List.cons_append, List.nil_append, and_true, Nat.reduceAdd, Nat.add_zero, Nat.zero_add] at hSw
                  go_simp
                  try with_reducible rfl
                simp only [Act.put, List.setIfInBounds_toArray, List.set_cons_zero, List.set_cons_succ]
                refine wpAnyH_done (by kernel_rfl) ?_ _
                go_wp2
                go_ret
                exact ⟨rfl, hCV.trans (hHeld.1.mono hCV.size)⟩
              · go_simp
                generalize hX : World.alloc _ (.cells #[] 45) = w2'
                obtain ⟨h2, hB2, h2z⟩ := alloc_named hX
                clear hX h2z h2
                try replace so1 := so1.below hB2
                try replace so2 := so2.below hB2
                try replace so3 := so3.below hB2
                try replace hco := hco.below hB2
                refine hK.out _ _ (⟨hHeld.1.trans (hB2.mono (by have := hHeld.2.1; omega)), Nat.le_trans hHeld.2.1 hB2.size, hHeld.2.2.keep hB2⟩) (fun hHeld2 => ?_)
                replace hHeld := hHeld2
                clear hK K hHeld2
                try simp only [Act.put, List.setIfInBounds_toArray, List.set_cons_zero, List.set_cons_succ]
                have hz := hHeld.2.1
                refine wpAnyH_ready (rs := [3]) (by kernel_rfl) (by simp) (AllReadyH.cons (o := _) (by rw [List.getElem?_toArray]; rfl) (fun K hK => ?_) AllReadyH.nil)
                go_simp
                go_at_call 19
                refine (copy_any _ ts _ (HT.out.below (hCV.trans (hHeld.1.mono hCV.size))) HB.out).mono ?_
                rintro e wc2 ⟨tvc, vsc, rfl, hinv, hBc⟩
                try replace so1 := so1.below hBc
                try replace so2 := so2.below hBc
                try replace so3 := so3.below hBc
                try replace hco := hco.below hBc
                have hco := hinv.txs
                clear hinv
                refine hK.out _ _ (⟨hHeld.1.trans (hBc.mono (by have := hHeld.2.1; omega)), Nat.le_trans hHeld.2.1 hBc.size, hHeld.2.2.keep hBc⟩) (fun hHeld2 => ?_)
                replace hHeld := hHeld2
                clear hK K hHeld2
                try simp only [Act.put, List.setIfInBounds_toArray, List.set_cons_zero, List.set_cons_succ]
                have hz := hHeld.2.1
                refine wpAnyH_ready (rs := [6]) (by kernel_rfl) (by simp) (AllReadyH.cons (o := _) (by rw [List.getElem?_toArray]; rfl) (fun K hK => ?_) AllReadyH.nil)
                refine step_append_empty (by rfl) _ _ 53 (by rfl) 45 i4 (.agg #[.int .i64 0, .int .i64 0, .int .i64 0, .int .i64 0]) 4 32 Try.underlying53 hi4 hx0 hx1 hx2 rfl (by decide) _ (by rfl) _ l.length (lcells l) (by rfl) (HL.out.below (hCV.trans (hHeld.1.mono hCV.size))) HLB.out ?_
                intro v6 w6 hr6 hB6 ho6 hn6
                clear ho6 hn6
                try replace so1 := so1.below hB6
                try replace so2 := so2.below hB6
                try replace so3 := so3.below hB6
                try replace hco := hco.below hB6
                refine hK.out _ _ (⟨hHeld.1.trans (hB6.mono (by have := hHeld.2.1; omega)), Nat.le_trans hHeld.2.1 hB6.size, hHeld.2.2.keep hB6⟩) (fun hHeld2 => ?_)
                replace hHeld := hHeld2
                clear hK K hHeld2
                try simp only [Act.put, List.setIfInBounds_toArray, List.set_cons_zero, List.set_cons_succ]
                have hz := hHeld.2.1
                refine wpAnyH_ready (rs := [7]) (by kernel_rfl) (by simp) (AllReadyH.cons (o := _) (by rw [List.getElem?_toArray]; rfl) (fun K hK => ?_) AllReadyH.nil)
                go_simp
                go_at_call 30
                refine (all_any d lvo jvo svo tvc v6 ls js ss ts l _ HF.out so1 so2 so3 hco hr6 (by rw [HN2.out]; omega)).mono ?_
                rintro e w7 ⟨v7, p7, rfl, hrc7, hm7, ht7, hB7⟩
                have HM7 := Lib.hid hm7
                have HT7 := Lib.hid ht7
                clear hm7 ht7
                refine hK.out _ _ (⟨hHeld.1.trans (hB7.mono (by have := hHeld.2.1; omega)), Nat.le_trans hHeld.2.1 hB7.size, hHeld.2.2.keep hB7⟩) (fun hHeld2 => ?_)
                replace hHeld := hHeld2
                clear hK K hHeld2
                try simp only [Act.put, List.setIfInBounds_toArray, List.set_cons_zero, List.set_cons_succ]
                have hz := hHeld.2.1
                refine wpAnyH_ready (rs := [11]) (by kernel_rfl) (by simp) (AllReadyH.cons (o := _) (by rw [List.getElem?_toArray]; rfl) (fun K hK => ?_) AllReadyH.nil)
                go_simp
                go_at_call 31
                refine (rall_any d lv jv sv (.slice ao n cap) _ ls js ss ts l _ HF.out HID.out (HA.out.l.below (hCV.trans (hHeld.1.mono hCV.size))) (HA.out.j.below (hCV.trans (hHeld.1.mono hCV.size))) (HA.out.s.below (hCV.trans (hHeld.1.mono hCV.size))) (HT.out.below (hCV.trans (hHeld.1.mono hCV.size))) (HL.out.below (hCV.trans (hHeld.1.mono hCV.size))) (by rw [HN2.out]; omega)).mono ?_
                rintro e w11 ⟨v11, p11, rfl, hrc11, hm11, ht11, hB11⟩
                rw [prm_congr (h' := fun k => (heard ls js ss ts l).getD k default) (q := p7) (fun k hk => by show (heard ls js ss ts l).getD (p11 k) default = _; rw [srt_unique (rlt_swo _) HT7.out ht11 HM7.out hm11 k hk])] at hrc11
                replace hrc7 := hrc7.below hB11
                clear hm11 ht11
                refine hK.out _ _ (⟨hHeld.1.trans (hB11.mono (by have := hHeld.2.1; omega)), Nat.le_trans hHeld.2.1 hB11.size, hHeld.2.2.keep hB11⟩) (fun hHeld2 => ?_)
                replace hHeld := hHeld2
                clear hK K hHeld2
                try simp only [Act.put, List.setIfInBounds_toArray, List.set_cons_zero, List.set_cons_succ]
                have hz := hHeld.2.1
                refine wpAnyH_ready (rs := [12]) (by kernel_rfl) (by simp) (AllReadyH.cons (o := _) (by rw [List.getElem?_toArray]; rfl) (fun K hK => ?_) AllReadyH.nil)
                go_simp
                go_at_call 29
                refine (sameAll_any _ v7 v11 _ hrc7 hrc11).mono ?_
                rintro e w12 ⟨rfl, hB12⟩
                refine hK.out _ _ (⟨hHeld.1.trans (hB12.mono (by have := hHeld.2.1; omega)), Nat.le_trans hHeld.2.1 hB12.size, hHeld.2.2.keep hB12⟩) (fun hHeld2 => ?_)
                replace hHeld := hHeld2
                clear hK K hHeld2
                try simp only [Act.put, List.setIfInBounds_toArray, List.set_cons_zero, List.set_cons_succ]
                refine wpAnyH_take (i := 13) (oi := _) (v := ?_) (by rw [List.getElem?_toArray]; rfl) (by kernel_rfl) (by kernel_rfl) (by kernel_rfl) (by exact fun _ _ _ h => h) (Or.inl ⟨by rfl, ?_⟩) (by assumption) ?_
                rotate_left
                · intro w hSw
                  try simp only [Cells, blk, List.cons_append, List.nil_append, and_true, Nat.reduceAdd, Nat.add_zero, Nat.zero_add] at hSw
                  go_simp
                  try with_reducible rfl
                simp only [Act.put, List.setIfInBounds_toArray, List.set_cons_zero, List.set_cons_succ]
                refine wpAnyH_done (by kernel_rfl) ?_ _
                go_wp2
                go_ret
                exact ⟨rfl, hCV.trans (hHeld.1.mono hCV.size)⟩
            · go_simp
              generalize hX : World.alloc _ (.cells #[] 45) = w2'
              obtain ⟨h2, hB2, h2z⟩ := alloc_named hX
              clear hX h2z h2
              try replace so1 := so1.below hB2
              try replace so2 := so2.below hB2
              try replace so3 := so3.below hB2
              try replace hco := hco.below hB2
              refine hK.out _ _ (⟨hHeld.1.trans (hB2.mono (by have := hHeld.2.1; omega)), Nat.le_trans hHeld.2.1 hB2.size, hHeld.2.2.keep hB2⟩) (fun hHeld2 => ?_)
              replace hHeld := hHeld2
              clear hK K hHeld2
              try simp only [Act.put, List.setIfInBounds_toArray, List.set_cons_zero, List.set_cons_succ]
              have hz := hHeld.2.1
              refine wpAnyH_ready (rs := [1]) (by kernel_rfl) (by simp) (AllReadyH.cons (o := _) (by rw [List.getElem?_toArray]; rfl) (fun K hK => ?_) AllReadyH.nil)
              go_simp
              go_at_call 18
              refine (own_any d lv jv sv ls js ss _ (HA.out.l.below (hCV.trans (hHeld.1.mono hCV.size))) (HA.out.j.below (hCV.trans (hHeld.1.mono hCV.size))) (HA.out.s.below (hCV.trans (hHeld.1.mono hCV.size))) HA.out.lb HA.out.jb HA.out.sb).mono ?_
              rintro e wo ⟨lvo, jvo, svo, rfl, ⟨so1, _⟩, ⟨so2, _⟩, ⟨so3, _⟩, hBo⟩
              refine hK.out _ _ (⟨hHeld.1.trans (hBo.mono (by have := hHeld.2.1; omega)), Nat.le_trans hHeld.2.1 hBo.size, hHeld.2.2.keep hBo⟩) (fun hHeld2 => ?_)
              replace hHeld := hHeld2
              clear hK K hHeld2
              try simp only [Act.put, List.setIfInBounds_toArray, List.set_cons_zero, List.set_cons_succ]
              have hz := hHeld.2.1
              refine wpAnyH_ready (rs := [3]) (by kernel_rfl) (by simp) (AllReadyH.cons (o := _) (by rw [List.getElem?_toArray]; rfl) (fun K hK => ?_) AllReadyH.nil)
              go_simp
              go_at_call 19
              refine (copy_any _ ts _ (HT.out.below (hCV.trans (hHeld.1.mono hCV.size))) HB.out).mono ?_
              rintro e wc2 ⟨tvc, vsc, rfl, hinv, hBc⟩
              try replace so1 := so1.below hBc
              try replace so2 := so2.below hBc
              try replace so3 := so3.below hBc
              try replace hco := hco.below hBc
              have hco := hinv.txs
              clear hinv
              refine hK.out _ _ (⟨hHeld.1.trans (hBc.mono (by have := hHeld.2.1; omega)), Nat.le_trans hHeld.2.1 hBc.size, hHeld.2.2.keep hBc⟩) (fun hHeld2 => ?_)
              replace hHeld := hHeld2
              clear hK K hHeld2
              try simp only [Act.put, List.setIfInBounds_toArray, List.set_cons_zero, List.set_cons_succ]
              have hz := hHeld.2.1
              refine wpAnyH_ready (rs := [6]) (by kernel_rfl) (by simp) (AllReadyH.cons (o := _) (by rw [List.getElem?_toArray]; rfl) (fun K hK => ?_) AllReadyH.nil)
              refine step_append_empty (by rfl) _ _ 53 (by rfl) 45 i4 (.agg #[.int .i64 0, .int .i64 0, .int .i64 0, .int .i64 0]) 4 32 Try.underlying53 hi4 hx0 hx1 hx2 rfl (by decide) _ (by rfl) _ l.length (lcells l) (by rfl) (HL.out.below (hCV.trans (hHeld.1.mono hCV.size))) HLB.out ?_
              intro v6 w6 hr6 hB6 ho6 hn6
              clear ho6 hn6
              try replace so1 := so1.below hB6
              try replace so2 := so2.below hB6
              try replace so3 := so3.below hB6
              try replace hco := hco.below hB6
              refine hK.out _ _ (⟨hHeld.1.trans (hB6.mono (by have := hHeld.2.1; omega)), Nat.le_trans hHeld.2.1 hB6.size, hHeld.2.2.keep hB6⟩) (fun hHeld2 => ?_)
              replace hHeld := hHeld2
              clear hK K hHeld2
              try simp only [Act.put, List.setIfInBounds_toArray, List.set_cons_zero, List.set_cons_succ]
              have hz := hHeld.2.1
              refine wpAnyH_ready (rs := [7]) (by kernel_rfl) (by simp) (AllReadyH.cons (o := _) (by rw [List.getElem?_toArray]; rfl) (fun K hK => ?_) AllReadyH.nil)
              go_simp
              go_at_call 30
              refine (all_any d lvo jvo svo tvc v6 ls js ss ts l _ HF.out so1 so2 so3 hco hr6 (by rw [HN2.out]; omega)).mono ?_
              rintro e w7 ⟨v7, p7, rfl, hrc7, hm7, ht7, hB7⟩
              have HM7 := Lib.hid hm7
              have HT7 := Lib.hid ht7
              clear hm7 ht7
              refine hK.out _ _ (⟨hHeld.1.trans (hB7.mono (by have := hHeld.2.1; omega)), Nat.le_trans hHeld.2.1 hB7.size, hHeld.2.2.keep hB7⟩) (fun hHeld2 => ?_)
              replace hHeld := hHeld2
              clear hK K hHeld2
              try simp only [Act.put, List.setIfInBounds_toArray, List.set_cons_zero, List.set_cons_succ]
              have hz := hHeld.2.1
              refine wpAnyH_ready (rs := [11]) (by kernel_rfl) (by simp) (AllReadyH.cons (o := _) (by rw [List.getElem?_toArray]; rfl) (fun K hK => ?_) AllReadyH.nil)
              go_simp
              go_at_call 31
              refine (rall_any d lv jv sv (.slice ao n cap) _ ls js ss ts l _ HF.out HID.out (HA.out.l.below (hCV.trans (hHeld.1.mono hCV.size))) (HA.out.j.below (hCV.trans (hHeld.1.mono hCV.size))) (HA.out.s.below (hCV.trans (hHeld.1.mono hCV.size))) (HT.out.below (hCV.trans (hHeld.1.mono hCV.size))) (HL.out.below (hCV.trans (hHeld.1.mono hCV.size))) (by rw [HN2.out]; omega)).mono ?_
              rintro e w11 ⟨v11, p11, rfl, hrc11, hm11, ht11, hB11⟩
              rw [prm_congr (h' := fun k => (heard ls js ss ts l).getD k default) (q := p7) (fun k hk => by show (heard ls js ss ts l).getD (p11 k) default = _; rw [srt_unique (rlt_swo _) HT7.out ht11 HM7.out hm11 k hk])] at hrc11
              replace hrc7 := hrc7.below hB11
              clear hm11 ht11
              refine hK.out _ _ (⟨hHeld.1.trans (hB11.mono (by have := hHeld.2.1; omega)), Nat.le_trans hHeld.2.1 hB11.size, hHeld.2.2.keep hB11⟩) (fun hHeld2 => ?_)
              replace hHeld := hHeld2
              clear hK K hHeld2
              try simp only [Act.put, List.setIfInBounds_toArray, List.set_cons_zero, List.set_cons_succ]
              have hz := hHeld.2.1
              refine wpAnyH_ready (rs := [12]) (by kernel_rfl) (by simp) (AllReadyH.cons (o := _) (by rw [List.getElem?_toArray]; rfl) (fun K hK => ?_) AllReadyH.nil)
              go_simp
              go_at_call 29
              refine (sameAll_any _ v7 v11 _ hrc7 hrc11).mono ?_
              rintro e w12 ⟨rfl, hB12⟩
              refine hK.out _ _ (⟨hHeld.1.trans (hB12.mono (by have := hHeld.2.1; omega)), Nat.le_trans hHeld.2.1 hB12.size, hHeld.2.2.keep hB12⟩) (fun hHeld2 => ?_)
              replace hHeld := hHeld2
              clear hK K hHeld2
              try simp only [Act.put, List.setIfInBounds_toArray, List.set_cons_zero, List.set_cons_succ]
              refine wpAnyH_take (i := 13) (oi := _) (v := ?_) (by rw [List.getElem?_toArray]; rfl) (by kernel_rfl) (by kernel_rfl) (by kernel_rfl) (by exact fun _ _ _ h => h) (Or.inl ⟨by rfl, ?_⟩) (by assumption) ?_
              rotate_left
              · intro w hSw
                try simp only [Cells, blk, List.cons_append, List.nil_append, and_true, Nat.reduceAdd, Nat.add_zero, Nat.zero_add] at hSw
                go_simp
                try with_reducible rfl
              simp only [Act.put, List.setIfInBounds_toArray, List.set_cons_zero, List.set_cons_succ]
              refine wpAnyH_done (by kernel_rfl) ?_ _
              go_wp2
              go_ret
              exact ⟨rfl, hCV.trans (hHeld.1.mono hCV.size)⟩
      · have hne : (E != 0) = true := by simpa using hE0
        go_wp2
        go_ret
        exact ⟨rfl, hC3⟩
end Go.Proofs.Ythemdbgcamkecaa
