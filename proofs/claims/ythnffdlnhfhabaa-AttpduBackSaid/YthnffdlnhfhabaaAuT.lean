/- attpdu: AttpduBack. -/
import Derived.Test.YthnffdlnhfhabaaAuG
import Derived.Test.YthnffdlnhfhabaaAuE
import Derived.Test.YthnffdlnhfhabaaAuR
namespace Go.Proofs.Ythnffdlnhfhabaa
open Go.RowKit

set_option linter.unusedSimpArgs false in
set_option linter.unusedVariables false in
set_option maxRecDepth 100000 in
set_option maxHeartbeats 4000000 in
theorem attpduBack_walk (v0 : Value) (w : World) (a0 : Arg Try.prog w 29 v0) :
    Calls Try.prog 6 #[v0] w fun e w' => e = .returned (.bool true) ∧ Below w.heap.size w w' := by
  obtain ⟨P⟩ := arg_pdu a0
  obtain ⟨ki, ak, ha, la, hi, lo, of, mt, co, cm, a1, n, c, a2, m, d, bs, its, rfl, hval, hlen, hits, hha, hla, hhi, hlo, hki⟩ := P
  have hn : n ≤ 140737488355328 := by have := hval.2.1; unfold reachBytes at this; omega
  have hB := (Below.refl w.heap.size w).alloc (Nat.le_refl _) (.cells #[.int .i64 ki, .int .i64 ak, .int .u16 ha, .int .u16 la, .int .u64 hi, .int .u64 lo, .int .i64 of, .int .i64 mt, .int .i64 co, .bool cm, .slice a1 n c, .slice a2 m d] 29)
  have T0 := cells_new w [.int .i64 ki, .int .i64 ak, .int .u16 ha, .int .u16 la, .int .u64 hi, .int .u64 lo, .int .i64 of, .int .i64 mt, .int .i64 co, .bool cm, .slice a1 n c, .slice a2 m d] 29
  have hli := fun W (hW : Below w.heap.size w W) => light_any ki ak ha la hi lo of mt co cm a1 a2 n c m d its W (hits.below hW) hn
  have HLI := Lib.hid hli
  have HITS := Lib.hid hits
  have HVAL := Lib.hid hval
  have HLEN := Lib.hid hlen
  clear a0 hli hits hval hlen hki
  go_enter Try.func6, Try.ntmps6
  go_upto_region 1 with fail
  generalize World.alloc _ _ = V at T0 hB ⊢
  have HT0 := Lib.hid T0
  have hOpen := T0
  simp only [Cells, blk, List.cons_append, List.nil_append, and_true, Nat.reduceAdd, Nat.add_zero, Nat.zero_add] at hOpen
  obtain ⟨y0, y1, y2, y3, y4, y5, y6, y7, y8, y9, yA, yB⟩ := hOpen
  clear T0
  go_wp2_with fail
  refine (HLI.out _ hB).mono ?_
  rintro e w1 ⟨b, rfl, hlight, hB1⟩
  have hBw := hB.trans (hB1.mono hB.size)
  have HT1 := Lib.hid (HT0.out.keep hB1)
  clear hB1 y0 y1 y2 y3 y4 y5 y6 y7 y8 y9 yA yB HT0 HLI hB
  have TP := HT1.out
  have hOpen := TP
  simp only [Cells, blk, List.cons_append, List.nil_append, and_true, Nat.reduceAdd, Nat.add_zero, Nat.zero_add] at hOpen
  obtain ⟨y0, y1, y2, y3, y4, y5, y6, y7, y8, y9, yA, yB⟩ := hOpen
  clear TP
  cases b
  · clear hlight
    go_wp2_with fail
    refine (example_any _).mono ?_
    rintro e w2 ⟨rfl, hB2⟩
    have hBf := hBw.trans (hB2.mono hBw.size)
    clear hB2
    go_wp2
    go_ret
    exact ⟨rfl, hBf⟩
  · obtain ⟨hm3, hn4, hbn4⟩ := hlight rfl
    have hbn : ∀ t ∈ its, t.n ≤ 1000000 := fun t ht => by have := hbn4 t ht; omega
    have hbn' : ∀ t ∈ its, t.n ≤ 1099511627776 := fun t ht => by have := hbn4 t ht; omega
    have hok : ∀ t ∈ its, t.bs.length = t.n ∧ t.ha < 65536 ∧ t.la < 65536 ∧ t.hi < 18446744073709551616 ∧ t.lo < 18446744073709551616 := fun t ht => by
      obtain ⟨q1, q2, q3, q4, q5, _⟩ := HITS.out.2.2 t ht
      exact ⟨q5, q1, q2, q3, q4⟩
    have hck := fun W (hW : Below w.heap.size w W) => check_any ki ak ha la hi lo of mt co cm a1 a2 n c m d its W (HITS.out.below hW) (by omega) hbn'
    have hen := fun W (hW : Below w.heap.size w W) => aencode_cap ki ak ha la hi lo of mt co cm a1 a2 n c m d bs its W (HVAL.out.below hW) HLEN.out (HITS.out.below hW) (by omega) hbn hha hla hhi hlo
    have hback := fun hc => back_any ki ak ha la hi lo of mt co cm n m bs its hc HLEN.out HITS.out.1 hha hla hhi hlo hok
    have hbl : encP ki ak ha la hi lo of mt co cm bs its = encP ki ak ha la hi lo of mt co cm bs its := rfl
    obtain ⟨CK, hCK⟩ : ∃ R, chkP ki ak ha la hi lo of mt co cm n m its = R := ⟨_, rfl⟩
    simp only [hCK] at hck hen hback
    have HCK := Lib.hid hck
    have HEN := Lib.hid hen
    have HBK := Lib.hid hback
    have HBW := Lib.hid hBw
    clear hck hen hback hbl hCK hm3 hn4 hbn4 hbn hbn' hlight hBw hhi hlo hha hla hok
    go_wp2_with fail
    refine (HCK.out _ HBW.out).mono ?_
    rintro e w2 ⟨rfl, hB2⟩
    have HB2 := Lib.hid (HBW.out.trans (hB2.mono HBW.out.size))
    have HT2 := Lib.hid (HT1.out.keep hB2)
    clear hB2 y0 y1 y2 y3 y4 y5 y6 y7 y8 y9 yA yB HT1 HBW
    have TP := HT2.out
    have hOpen := TP
    simp only [Cells, blk, List.cons_append, List.nil_append, and_true, Nat.reduceAdd, Nat.add_zero, Nat.zero_add] at hOpen
    obtain ⟨y0, y1, y2, y3, y4, y5, y6, y7, y8, y9, yA, yB⟩ := hOpen
    clear TP
    by_cases hc0 : CK = 0
    rotate_left
    · have t1 : (CK != 0) = true := by simpa using hc0
      clear hc0
      go_wp2_with fail
      refine (example_any _).mono ?_
      rintro e w3 ⟨rfl, hB3⟩
      have hBf := HB2.out.trans (hB3.mono HB2.out.size)
      clear hB3
      go_wp2
      go_ret
      exact ⟨rfl, hBf⟩
    · subst hc0
      obtain ⟨hdec, hB1, hB517⟩ := HBK.out rfl
      obtain ⟨EB, hEB⟩ : ∃ E, encP ki ak ha la hi lo of mt co cm bs its = E := ⟨_, rfl⟩
      have hen := HEN.out
      simp only [hEB, if_true] at hen hdec hB1 hB517
      have HEN2 := Lib.hid hen
      have HDEC := Lib.hid hdec
      obtain ⟨NB, hNB⟩ : ∃ N, EB.length = N := ⟨_, rfl⟩
      rw [hNB] at hB1 hB517
      have HNB := Lib.hid hNB
      clear hen hdec hEB hNB HEN HBK HCK
      go_wp2_with fail
      refine (HEN2.out _ HB2.out).mono ?_
      rintro e w3 ⟨v3, rfl, hv3, hB3, hcap⟩
      obtain ⟨a3, n3, c3, rfl, hc3⟩ := hcap
      have hn3 : n3 = NB := by
        obtain ⟨⟨_, _, _, ao, cp, e0, _, _⟩, _⟩ := hv3
        cases e0
        exact HNB.out
      subst hn3
      have HB3 := Lib.hid (HB2.out.trans (hB3.mono HB2.out.size))
      have HT3 := Lib.hid (HT2.out.keep hB3)
      have hd := adecode_any a3 n3 c3 EB w3 hv3 HNB.out hc3
      have HD := Lib.hid hd
      have HV3 := Lib.hid hv3
      clear hB3 hd hv3 y0 y1 y2 y3 y4 y5 y6 y7 y8 y9 yA yB HT2 HB2
      have TP := HT3.out
      have hOpen := TP
      simp only [Cells, blk, List.cons_append, List.nil_append, and_true, Nat.reduceAdd, Nat.add_zero, Nat.zero_add] at hOpen
      obtain ⟨y0, y1, y2, y3, y4, y5, y6, y7, y8, y9, yA, yB⟩ := hOpen
      clear TP
      go_wp2_with fail
      refine HD.out.mono ?_
      rintro e w4 ⟨av, nv, cv, al, m', d', its', he, hbv, hnv, hits', hdt, hB4⟩
      rw [HDEC.out] at he hbv hnv hdt
      simp only [pdP] at he hbv hnv hdt
      rw [HLEN.out] at hnv
      subst hnv
      have hmm : m' = m := by
        have := congrArg List.length hdt
        rw [List.length_map, List.length_map, hits'.1, HITS.out.1] at this
        exact this
      subst hmm
      subst he
      have hb4' := HB3.out.trans (hB4.mono HB3.out.size)
      have hal := (Below.refl w4.heap.size w4).alloc (Nat.le_refl _) (.cells #[.int .i64 ki, .int .i64 ak, .int .u16 ha, .int .u16 la, .int .u64 hi, .int .u64 lo, .int .i64 of, .int .i64 mt, .int .i64 co, .bool cm, .slice av n cv, .slice al m' d'] 29)
      have HB4 := Lib.hid (hb4'.alloc hb4'.size (.cells #[.int .i64 ki, .int .i64 ak, .int .u16 ha, .int .u16 la, .int .u64 hi, .int .u64 lo, .int .i64 of, .int .i64 mt, .int .i64 co, .bool cm, .slice av n cv, .slice al m' d'] 29))
      have hT4 := ((HT3.out.keep hB4).keep hal).app (cells_new w4 [.int .i64 ki, .int .i64 ak, .int .u16 ha, .int .u16 la, .int .u64 hi, .int .u64 lo, .int .i64 of, .int .i64 mt, .int .i64 co, .bool cm, .slice av n cv, .slice al m' d'] 29)
      have hsame := fun W (hW : Below w.heap.size w W) (hV : BytesAt W (.slice av n cv) bs) (hI : Items W (.slice al m' d') m' its') => samePDU_any ki ak ha la hi lo of mt co cm a1 a2 av al n c cv m' d d' bs its its' W (HVAL.out.below hW) hV (HITS.out.below hW) hI hdt.symm
      have HSAME := Lib.hid hsame
      have HX := Lib.hid (And.intro (hbv.below hal) (hits'.below hal))
      clear hb4' hal hsame hbv hits' hdt hB4 HD HV3 HDEC y0 y1 y2 y3 y4 y5 y6 y7 y8 y9 yA yB HT3 HB3
      go_upto_region 5 with fail
      generalize World.alloc _ _ = Y at HB4 hT4 HX ⊢
      have HT4 := Lib.hid hT4
      have hOpen := hT4
      simp only [Cells, blk, List.cons_append, List.nil_append, and_true, Nat.reduceAdd, Nat.add_zero, Nat.zero_add] at hOpen
      obtain ⟨y0, y1, y2, y3, y4, y5, y6, y7, y8, y9, yA, yB, z0, z1, z2, z3, z4, z5, z6, z7, z8, z9, zA, zB⟩ := hOpen
      clear hT4
      have t1 : decide ((1 : Int) ≤ (n3 : Int)) = true := by simp; omega
      have t1' : decide (1 ≤ n3) = true := by simpa using hB1
      have t2 : decide ((n3 : Int) ≤ 517) = true := by simp; omega
      have t2' : decide (n3 ≤ 517) = true := by simpa using hB517
      go_wp2_with fail
      refine (HSAME.out _ HB4.out HX.out.1 HX.out.2).mono ?_
      rintro e w5 ⟨rfl, hB5⟩
      have HB5 := Lib.hid (HB4.out.trans (hB5.mono HB4.out.size))
      clear hB5 y0 y1 y2 y3 y4 y5 y6 y7 y8 y9 yA yB z0 z1 z2 z3 z4 z5 z6 z7 z8 z9 zA zB HT4 HX HSAME HB4
      go_wp2_with fail
      refine (example_any _).mono ?_
      rintro e w6 ⟨rfl, hB6⟩
      have hBf := HB5.out.trans (hB6.mono HB5.out.size)
      clear hB6
      go_wp2
      go_ret
      exact ⟨rfl, hBf⟩
end Go.Proofs.Ythnffdlnhfhabaa
