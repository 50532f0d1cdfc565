/- attpdu: AttpduEncodes. -/
import Derived.Test.YthnffdlnhfhabaaAuF
import Derived.Test.YthnffdlnhfhabaaAuE
import Derived.Test.YthnffdlnhfhabaaAtZ
namespace Go.Proofs.Ythnffdlnhfhabaa
open Go.RowKit

set_option linter.unusedSimpArgs false in
set_option linter.unusedVariables false in
set_option maxRecDepth 100000 in
set_option maxHeartbeats 4000000 in
theorem attpduEncodes_walk (v0 : Value) (w : World) (a0 : Arg Try.prog w 29 v0) :
    Calls Try.prog 4 #[v0] w fun e w' => e = .returned (.bool true) ∧ Below w.heap.size w w' := by
  obtain ⟨P⟩ := arg_pdu a0
  obtain ⟨ki, ak, ha, la, hi, lo, of, mt, co, cm, a1, n, c, a2, m, d, bs, its, rfl, hval, hlen, hits, hha, hla, hhi, hlo, hki⟩ := P
  have hn : n ≤ 140737488355328 := by have := hval.2.1; unfold reachBytes at this; omega
  have hB := (Below.refl w.heap.size w).alloc (Nat.le_refl _) (.cells #[.int .i64 ki, .int .i64 ak, .int .u16 ha, .int .u16 la, .int .u64 hi, .int .u64 lo, .int .i64 of, .int .i64 mt, .int .i64 co, .bool cm, .slice a1 n c, .slice a2 m d] 29)
  have T0 := cells_new w [.int .i64 ki, .int .i64 ak, .int .u16 ha, .int .u16 la, .int .u64 hi, .int .u64 lo, .int .i64 of, .int .i64 mt, .int .i64 co, .bool cm, .slice a1 n c, .slice a2 m d] 29
  have hli := fun W (hW : Below w.heap.size w W) => light_any ki ak ha la hi lo of mt co cm a1 a2 n c m d its W (hits.below hW) hn
  have HLI := Lib.hid hli
  have HITS := Lib.hid hits
  have HVAL := Lib.hid hval
  have HLEN := Lib.hid hlen
  clear a0 hli hits hval hlen hki
  go_enter Try.func4, Try.ntmps4
  go_upto_region 1 with fail
  generalize World.alloc _ _ = V at T0 hB ⊢
  have HT0 := Lib.hid T0
  have hOpen := T0
  simp only [Cells, blk, List.cons_append, List.nil_append, and_true, Nat.reduceAdd, Nat.add_zero, Nat.zero_add] at hOpen
  obtain ⟨y0, y1, y2, y3, y4, y5, y6, y7, y8, y9, yA, yB⟩ := hOpen
  clear T0
  go_wp2_with fail
  refine (HLI.out _ hB).mono ?_
  rintro e w1 ⟨b, rfl, hlight, hB1⟩
  have hBw := hB.trans (hB1.mono hB.size)
  have HT1 := Lib.hid (HT0.out.keep hB1)
  clear hB1 y0 y1 y2 y3 y4 y5 y6 y7 y8 y9 yA yB HT0 HLI hB
  have TP := HT1.out
  have hOpen := TP
  simp only [Cells, blk, List.cons_append, List.nil_append, and_true, Nat.reduceAdd, Nat.add_zero, Nat.zero_add] at hOpen
  obtain ⟨y0, y1, y2, y3, y4, y5, y6, y7, y8, y9, yA, yB⟩ := hOpen
  clear TP
  cases b
  · clear hlight
    go_wp2_with fail
    refine (example_any _).mono ?_
    rintro e w2 ⟨rfl, hB2⟩
    have hBf := hBw.trans (hB2.mono hBw.size)
    clear hB2
    go_wp2
    go_ret
    exact ⟨rfl, hBf⟩
  · obtain ⟨hm3, hn4, hbn4⟩ := hlight rfl
    have hbn : ∀ t ∈ its, t.n ≤ 1000000 := fun t ht => by have := hbn4 t ht; omega
    have hbn' : ∀ t ∈ its, t.n ≤ 1099511627776 := fun t ht => by have := hbn4 t ht; omega
    have h1 := fun W (hW : Below w.heap.size w W) => aencode_any ki ak ha la hi lo of mt co cm a1 a2 n c m d bs its W (HVAL.out.below hW) HLEN.out (HITS.out.below hW) (by omega) hbn hha hla hhi hlo
    have h2 := fun W (hW : Below w.heap.size w W) => arencode_any ki ak ha la hi lo of mt co cm a1 a2 n c m d bs its W (HVAL.out.below hW) HLEN.out (by omega) (HITS.out.below hW) (by omega) hbn hha hla hhi hlo
    obtain ⟨R, hR⟩ : ∃ R, (if chkP ki ak ha la hi lo of mt co cm n m its = 0 then encP ki ak ha la hi lo of mt co cm bs its else []) = R := ⟨_, rfl⟩
    simp only [hR] at h1 h2
    obtain ⟨CK, hCK⟩ : ∃ R, chkP ki ak ha la hi lo of mt co cm n m its = R := ⟨_, rfl⟩
    simp only [hCK] at h1 h2
    have H1 := Lib.hid h1
    have H2 := Lib.hid h2
    have HBW := Lib.hid hBw
    clear h1 h2 hR hCK hm3 hn4 hbn4 hbn hbn' hlight hBw hhi hlo hha hla
    go_wp2_with fail
    refine (H1.out _ HBW.out).mono ?_
    rintro e w3 ⟨v3, rfl, hv3, hB3⟩
    have HB3 := Lib.hid (HBW.out.trans (hB3.mono HBW.out.size))
    have HT3 := Lib.hid (HT1.out.keep hB3)
    have HV3 := Lib.hid hv3
    clear hB3 hv3 y0 y1 y2 y3 y4 y5 y6 y7 y8 y9 yA yB HT1 HBW
    have TP := HT3.out
    have hOpen := TP
    simp only [Cells, blk, List.cons_append, List.nil_append, and_true, Nat.reduceAdd, Nat.add_zero, Nat.zero_add] at hOpen
    obtain ⟨y0, y1, y2, y3, y4, y5, y6, y7, y8, y9, yA, yB⟩ := hOpen
    clear TP
    go_wp2_with fail
    refine (H2.out _ HB3.out).mono ?_
    rintro e w4 ⟨v4, rfl, hv4, hB4⟩
    have HB4 := Lib.hid (HB3.out.trans (hB4.mono HB3.out.size))
    have HV3 := Lib.hid (HV3.out.below hB4)
    have HV4 := Lib.hid hv4
    clear hB4 hv4 y0 y1 y2 y3 y4 y5 y6 y7 y8 y9 yA yB HT3 HB3
    go_wp2_with fail
    refine (same_refl _ _ R _ HV3.out HV4.out).mono ?_
    rintro e w5 ⟨rfl, rfl⟩
    go_wp2_with fail
    refine (example_any _).mono ?_
    rintro e w6 ⟨rfl, hB6⟩
    have hBf := HB4.out.trans (hB6.mono HB4.out.size)
    clear hB6
    go_wp2
    go_ret
    exact ⟨rfl, hBf⟩
end Go.Proofs.Ythnffdlnhfhabaa
