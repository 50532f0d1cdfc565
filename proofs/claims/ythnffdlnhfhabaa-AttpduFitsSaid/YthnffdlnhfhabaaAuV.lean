/- attpdu: AttpduFits. -/
import Derived.Test.YthnffdlnhfhabaaAuF
import Derived.Test.YthnffdlnhfhabaaAuE
import Derived.Test.YthnffdlnhfhabaaAuW
import Derived.Deep.OwnRows
namespace Go.Proofs.Ythnffdlnhfhabaa
open Go.RowKit

theorem made_blk (W : World) (N : Nat) : Blk (W.alloc (.cells (madeCells #[.int .u8 0] N) 5)) W.heap.size 5 (bcells (List.replicate N 0)) := by
  have e : madeCells #[.int .u8 0] N = (bcells (List.replicate N 0)).toArray := by
    apply Array.ext'
    rw [toList_madeCells_one]
    simp [bcells]
  rw [e]
  exact Blk.new W _ _
set_option linter.unusedSimpArgs false in
set_option linter.unusedVariables false in
set_option maxRecDepth 100000 in
set_option maxHeartbeats 4000000 in
theorem attpduFits_walk (v0 v1 : Value) (w : World) (a0 : Arg Try.prog w 29 v0) (a1 : Arg Try.prog w 3 v1) :
    Calls Try.prog 8 #[v0, v1] w fun e w' => e = .returned (.bool true) ∧ Below w.heap.size w w' := by
  obtain ⟨P⟩ := arg_pdu a0
  obtain ⟨mu, rfl, hmu⟩ := arg_int a1
  clear a1
  obtain ⟨ki, ak, ha, la, hi, lo, of, mt, co, cm, a1, n, c, a2, m, d, bs, its, rfl, hval, hlen, hits, hha, hla, hhi, hlo, hki⟩ := P
  have hn : n ≤ 140737488355328 := by have := hval.2.1; unfold reachBytes at this; omega
  have hB := (Below.refl w.heap.size w).alloc (Nat.le_refl _) (.cells #[.int .i64 ki, .int .i64 ak, .int .u16 ha, .int .u16 la, .int .u64 hi, .int .u64 lo, .int .i64 of, .int .i64 mt, .int .i64 co, .bool cm, .slice a1 n c, .slice a2 m d] 29)
  have bP := Blk.new w 29 [.int .i64 ki, .int .i64 ak, .int .u16 ha, .int .u16 la, .int .u64 hi, .int .u64 lo, .int .i64 of, .int .i64 mt, .int .i64 co, .bool cm, .slice a1 n c, .slice a2 m d]
  have hli := fun W (hW : Below w.heap.size w W) => light_any ki ak ha la hi lo of mt co cm a1 a2 n c m d its W (hits.below hW) hn
  have hroom := fun W => room_any ki mu W
  have hrb := room_bd ki mu
  have hfits := fits ki ak ha la hi lo of mt co cm
  obtain ⟨R, hR⟩ : ∃ R, roomI ki mu = R := ⟨_, rfl⟩
  rw [hR] at hrb
  obtain ⟨N, rfl⟩ := Int.eq_ofNat_of_zero_le hrb.1
  rw [hR] at hroom
  have hN : N ≤ 517 := by omega
  have hmk := fun W => run_make_row' (P := Try.prog) 26 5 (.int .u8 0) 1 Try.underlying26 Try.info_u8 rfl .i64 .i64 N (by omega) (by omega) W
  have hmk2 := fun W => run_make_row' (P := Try.prog) 26 5 (.int .u8 0) 1 Try.underlying26 Try.info_u8 rfl .i64 .i64 (N + 1) (by omega) (by omega) W
  have HMK := Lib.hid hmk
  have HMK2 := Lib.hid hmk2
  have HLI := Lib.hid hli
  have HITS := Lib.hid hits
  have HR := Lib.hid hR
  have HROOM := Lib.hid hroom
  have HFITS := Lib.hid hfits
  clear a0 hli hits hval hlen hki hroom hrb hR hfits hmk hmk2
  go_enter Try.func8, Try.ntmps8
  go_upto_region 1 with fail
  generalize World.alloc _ _ = V at bP hB ⊢
  have HBP := Lib.hid bP
  have HB := Lib.hid hB
  have TP := bP.cells
  have hOpen := TP
  simp only [Cells, blk, List.cons_append, List.nil_append, and_true, Nat.reduceAdd, Nat.add_zero, Nat.zero_add] at hOpen
  obtain ⟨y0, y1, y2, y3, y4, y5, y6, y7, y8, y9, yA, yB⟩ := hOpen
  clear TP bP hB
  have n0 : decide ((0 : Int) ≤ (N : Int)) = true := by simp
  have n0' : decide (0 ≤ N) = true := by simp
  have n5 : decide ((N : Int) ≤ 517) = true := by simp; omega
  have n5' : decide (N ≤ 517) = true := by simpa using hN
  have n6 : decide ((517 : Int) < (N : Int)) = false := by simp; omega
  have n6' : decide (517 < N) = false := by simpa using hN
  go_wp2_with fail
  refine (HROOM.out _).mono ?_
  rintro e w' ⟨rfl, rfl⟩
  go_wp2_with fail
  refine (HLI.out _ HB.out).mono ?_
  rintro e w2 ⟨b, rfl, hlight, hB1⟩
  have HB2 := Lib.hid (HB.out.trans (hB1.mono HB.out.size))
  have HBP2 := Lib.hid (HBP.out.below hB1)
  clear hB1 y0 y1 y2 y3 y4 y5 y6 y7 y8 y9 yA yB HLI HBP HB
  have TP := HBP2.out.cells
  have hOpen := TP
  simp only [Cells, blk, List.cons_append, List.nil_append, and_true, Nat.reduceAdd, Nat.add_zero, Nat.zero_add] at hOpen
  obtain ⟨y0, y1, y2, y3, y4, y5, y6, y7, y8, y9, yA, yB⟩ := hOpen
  clear TP
  cases b
  · clear hlight
    go_wp2_with fail
    refine (example_any _).mono ?_
    rintro e w9 ⟨rfl, hB9⟩
    have hBf := HB2.out.trans (hB9.mono HB2.out.size)
    clear hB9 y0 y1 y2 y3 y4 y5 y6 y7 y8 y9 yA yB
    go_wp2
    go_ret
    exact ⟨rfl, hBf⟩
  · clear hlight
    by_cases q1 : 0 < m
    · have t1 : decide ((0 : Int) < (m : Int)) = true := by simp; omega
      have t1' : decide (0 < m) = true := by simpa using q1
      clear q1
      go_wp2_with fail
      refine (example_any _).mono ?_
      rintro e w9 ⟨rfl, hB9⟩
      have hBf := HB2.out.trans (hB9.mono HB2.out.size)
      clear hB9 y0 y1 y2 y3 y4 y5 y6 y7 y8 y9 yA yB
      go_wp2
      go_ret
      exact ⟨rfl, hBf⟩
    have t1 : decide ((0 : Int) < (m : Int)) = false := by simp; omega
    have t1' : decide (0 < m) = false := by simpa using q1
    by_cases q2 : N < 1
    · have t2 : decide ((N : Int) < 1) = true := by simp; omega
      have t2' : decide (N < 1) = true := by simpa using q2
      have t2'' : decide (N = 0) = true := by simp; omega
      clear q2
      go_wp2_with fail
      refine (example_any _).mono ?_
      rintro e w9 ⟨rfl, hB9⟩
      have hBf := HB2.out.trans (hB9.mono HB2.out.size)
      clear hB9 y0 y1 y2 y3 y4 y5 y6 y7 y8 y9 yA yB
      go_wp2
      go_ret
      exact ⟨rfl, hBf⟩
    have t2 : decide ((N : Int) < 1) = false := by simp; omega
    have t2' : decide (N < 1) = false := by simpa using q2
    have t2'' : decide (N = 0) = false := by simp; omega
    by_cases q3 : mu < 23
    · have t3 : decide (mu < 23) = true := by simpa using q3
      clear q3
      go_wp2_with fail
      refine (example_any _).mono ?_
      rintro e w9 ⟨rfl, hB9⟩
      have hBf := HB2.out.trans (hB9.mono HB2.out.size)
      clear hB9 y0 y1 y2 y3 y4 y5 y6 y7 y8 y9 yA yB
      go_wp2
      go_ret
      exact ⟨rfl, hBf⟩
    have t3 : decide (mu < 23) = false := by simpa using q3
    by_cases q4 : 517 < mu
    · have t4 : decide (517 < mu) = true := by simpa using q4
      clear q4
      go_wp2_with fail
      refine (example_any _).mono ?_
      rintro e w9 ⟨rfl, hB9⟩
      have hBf := HB2.out.trans (hB9.mono HB2.out.size)
      clear hB9 y0 y1 y2 y3 y4 y5 y6 y7 y8 y9 yA yB
      go_wp2
      go_ret
      exact ⟨rfl, hBf⟩
    have t4 : decide (517 < mu) = false := by simpa using q4
    have bM := made_blk (w2.setCell ⟨w.heap.size, 10, none⟩ (.slice (some ⟨w2.heap.size, 0, none⟩) (N) (N))) (N)
    have hsz : (w2.setCell ⟨w.heap.size, 10, none⟩ (.slice (some ⟨w2.heap.size, 0, none⟩) (N) (N))).heap.size = w2.heap.size := by simp
    rw [hsz] at bM
    have bP2 := (HBP2.out.setAt (j := 10) (.slice (some ⟨w2.heap.size, 0, none⟩) (N) (N))).alloc (.cells (madeCells #[.int .u8 0] (N)) 5)
    simp only [List.set_cons_zero, List.set_cons_succ] at bP2
    have hlt := HBP2.out.lt
    have hB3 := (HB2.out.setCell (p := ⟨w.heap.size, 10, none⟩) (Nat.le_refl _) (.slice (some ⟨w2.heap.size, 0, none⟩) (N) (N))).alloc (by rw [hsz]; exact HB2.out.size) (.cells (madeCells #[.int .u8 0] (N)) 5)
    have f10 := HBP2.out.frozen 10
    have hmk := HMK.out
    have HX := Lib.hid (And.intro bM (And.intro bP2 hB3))
    clear bM bP2 hB3 hsz
    go_upto_region 5 with fail
    clear hmk f10 hlt y0 y1 y2 y3 y4 y5 y6 y7 y8 y9 yA yB
    generalize World.alloc _ _ = X1 at HX ⊢
    obtain ⟨bM, bP, hB3⟩ := HX.out
    obtain rfl : m = 0 := by omega
    obtain ⟨B1, hB1'⟩ : ∃ B, w2.heap.size = B := ⟨_, rfl⟩
    have hits0 := (HITS.out.below hB3)
    have hitn : its = [] := List.eq_nil_of_length_eq_zero hits0.1
    subst hitn
    have hby : BytesAt X1 (.slice (some ⟨w2.heap.size, 0, none⟩) N N) (List.replicate N 0) := bytesAt_of_blk bM (by simp) (by simp) (by omega)
    have hen := aencode_any ki ak ha la hi lo of mt co cm (some ⟨w2.heap.size, 0, none⟩) a2 N N 0 d (List.replicate N 0) [] X1 hby (by simp) hits0 (by omega) (by simp) hha hla hhi hlo
    have hf := HFITS.out N mu (by omega) HR.out (by omega) (by omega)
    have hlenb : (List.replicate N 0).length = N := by simp
    obtain ⟨bs1, hbs1⟩ : ∃ b : List Nat, List.replicate N 0 = b := ⟨_, rfl⟩
    rw [hbs1] at hen hlenb
    obtain ⟨CK, hCK⟩ : ∃ R, chkP ki ak ha la hi lo of mt co cm N 0 [] = R := ⟨_, rfl⟩
    rw [hCK] at hen hf
    have HEN := Lib.hid hen
    have HF := Lib.hid hf
    have HLB := Lib.hid hlenb
    have HB3 := Lib.hid hB3
    have HBP3 := Lib.hid bP
    clear hen hf hlenb hbs1 hCK hby hits0 bM hB3 HX bP hB1'
    have TP := HBP3.out.cells
    have hOpen := TP
    simp only [Cells, blk, List.cons_append, List.nil_append, and_true, Nat.reduceAdd, Nat.add_zero, Nat.zero_add] at hOpen
    obtain ⟨y0, y1, y2, y3, y4, y5, y6, y7, y8, y9, yA, yB⟩ := hOpen
    clear TP
    go_wp2_with fail
    refine HEN.out.mono ?_
    rintro e w5 ⟨v5, rfl, hv5, hB5⟩
    have HB5 := Lib.hid (HB3.out.trans (hB5.mono HB3.out.size))
    have HBP5 := Lib.hid (HBP3.out.below hB5)
    clear hB5 y0 y1 y2 y3 y4 y5 y6 y7 y8 y9 yA yB HB3 HBP3 HEN
    by_cases hc0 : CK = 0
    rotate_left
    · have t5 : (CK != 0) = true := by simpa using hc0
      clear hc0 hv5
      go_wp2_with fail
      refine (example_any _).mono ?_
      rintro e w9 ⟨rfl, hB9⟩
      have hBf := HB5.out.trans (hB9.mono HB5.out.size)
      clear hB9
      go_wp2
      go_ret
      exact ⟨rfl, hBf⟩
    subst hc0
    obtain ⟨hf1, hf2⟩ := HF.out rfl
    have hle := hf1 bs1 HLB.out
    rw [if_pos rfl] at hv5
    obtain ⟨⟨_, _, _, ao5, cap5, rfl, _, _⟩, _⟩ := hv5
    obtain ⟨L1, hL1⟩ : ∃ L, (encP ki ak ha la hi lo of mt co cm bs1 []).length = L := ⟨_, rfl⟩
    rw [hL1] at hle ⊢
    have t6 : decide ((L1 : Int) ≤ mu) = true := by simpa using hle
    have HF2 := Lib.hid hf2
    clear hf1 hf2 hL1 hle HF HLB
    have TP := HBP5.out.cells
    have hOpen := TP
    simp only [Cells, blk, List.cons_append, List.nil_append, and_true, Nat.reduceAdd, Nat.add_zero, Nat.zero_add] at hOpen
    obtain ⟨y0, y1, y2, y3, y4, y5, y6, y7, y8, y9, yA, yB⟩ := hOpen
    clear TP
    by_cases h512 : N = 512
    · have t7 : ((N : Int) == 512) = true := by simp; omega
      clear h512 HF2
      go_wp2_with fail
      refine (example_any _).mono ?_
      rintro e w9 ⟨rfl, hB9⟩
      have hBf := HB5.out.trans (hB9.mono HB5.out.size)
      clear hB9
      go_wp2
      go_ret
      exact ⟨rfl, hBf⟩
    have t7 : ((N : Int) == 512) = false := by simp; omega
    obtain ⟨hc2, hgt⟩ := HF2.out h512
    have HC2 := Lib.hid hc2
    have HGT := Lib.hid hgt
    have hw1 : IntKind.i64.wrap ((N : Int) + 1) = ((N + 1 : Nat) : Int) := by rw [IntWalk.i64_in _ (by omega)]; simp
    have hmk3 : ∀ W, (Instr.makeSlice 26 (.int .i64 ((N : Int) + 1)) (.int .i64 ((N : Int) + 1))).run Try.prog W = .ok (.slice (some ⟨W.heap.size, 0, none⟩) (N + 1) (N + 1)) (W.alloc (.cells (madeCells #[.int .u8 0] (N + 1)) 5)) := fun W => by
      have := HMK2.out W
      rwa [show ((N + 1 : Nat) : Int) = (N : Int) + 1 by simp] at this
    have HMK3 := Lib.hid hmk3
    clear hc2 hgt hw1 hmk3 HF2
    have bM := made_blk (w5.setCell ⟨w.heap.size, 10, none⟩ (.slice (some ⟨w5.heap.size, 0, none⟩) (N + 1) (N + 1))) (N + 1)
    have hsz : (w5.setCell ⟨w.heap.size, 10, none⟩ (.slice (some ⟨w5.heap.size, 0, none⟩) (N + 1) (N + 1))).heap.size = w5.heap.size := by simp
    rw [hsz] at bM
    have bP2 := (HBP5.out.setAt (j := 10) (.slice (some ⟨w5.heap.size, 0, none⟩) (N + 1) (N + 1))).alloc (.cells (madeCells #[.int .u8 0] (N + 1)) 5)
    simp only [List.set_cons_zero, List.set_cons_succ] at bP2
    have hlt := HBP5.out.lt
    have hB3 := (HB5.out.setCell (p := ⟨w.heap.size, 10, none⟩) (Nat.le_refl _) (.slice (some ⟨w5.heap.size, 0, none⟩) (N + 1) (N + 1))).alloc (by rw [hsz]; exact HB5.out.size) (.cells (madeCells #[.int .u8 0] (N + 1)) 5)
    have f10 := HBP5.out.frozen 10
    have hmk := HMK3.out
    have HX := Lib.hid (And.intro bM (And.intro bP2 hB3))
    clear bM bP2 hB3 hsz
    go_upto_region 11 with fail
    clear hmk f10 hlt y0 y1 y2 y3 y4 y5 y6 y7 y8 y9 yA yB
    generalize World.alloc _ _ = X2 at HX ⊢
    obtain ⟨bM, bP, hB3⟩ := HX.out
    have hits0 := (HITS.out.below hB3)
    have hby : BytesAt X2 (.slice (some ⟨w5.heap.size, 0, none⟩) (N + 1) (N + 1)) (List.replicate (N + 1) 0) := bytesAt_of_blk bM (by simp) (by simp [List.mem_replicate]) (by omega)
    have hen := aencode_any ki ak ha la hi lo of mt co cm (some ⟨w5.heap.size, 0, none⟩) a2 (N + 1) (N + 1) 0 d (List.replicate (N + 1) 0) [] X2 hby (by simp) hits0 (by omega) (by simp) hha hla hhi hlo
    have hlenb : (List.replicate (N + 1) 0).length = N + 1 := by simp
    obtain ⟨bs2, hbs2⟩ : ∃ b : List Nat, List.replicate (N + 1) 0 = b := ⟨_, rfl⟩
    rw [hbs2] at hen hlenb
    rw [HC2.out] at hen
    have hgt2 := HGT.out bs2 hlenb
    have HEN := Lib.hid hen
    have HB3 := Lib.hid hB3
    have HBP3 := Lib.hid bP
    have HG2 := Lib.hid hgt2
    clear hen hlenb hbs2 hby hits0 bM hB3 HX bP hgt2
    have TP := HBP3.out.cells
    have hOpen := TP
    simp only [Cells, blk, List.cons_append, List.nil_append, and_true, Nat.reduceAdd, Nat.add_zero, Nat.zero_add] at hOpen
    obtain ⟨y0, y1, y2, y3, y4, y5, y6, y7, y8, y9, yA, yB⟩ := hOpen
    clear TP
    go_wp2_with fail
    refine HEN.out.mono ?_
    rintro e w6 ⟨v6, rfl, hv6, hB6⟩
    have HB6 := Lib.hid (HB3.out.trans (hB6.mono HB3.out.size))
    clear hB6 y0 y1 y2 y3 y4 y5 y6 y7 y8 y9 yA yB HB3 HBP3 HEN
    simp only [if_true] at hv6
    obtain ⟨⟨_, _, _, ao6, cap6, rfl, _, _⟩, _⟩ := hv6
    have hg := HG2.out
    obtain ⟨L2, hL2⟩ : ∃ L, (encP ki ak ha la hi lo of mt co cm bs2 []).length = L := ⟨_, rfl⟩
    rw [hL2] at hg ⊢
    have t8 : decide (mu < (L2 : Int)) = true := by simpa using hg
    clear hg hL2 HG2
    go_wp2_with fail
    refine (example_any _).mono ?_
    rintro e w9 ⟨rfl, hB9⟩
    have hBf := HB6.out.trans (hB9.mono HB6.out.size)
    clear hB9
    go_wp2
    go_ret
    exact ⟨rfl, hBf⟩
end Go.Proofs.Ythnffdlnhfhabaa
