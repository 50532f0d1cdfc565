/- attpdu: Decode of the code. -/
import Derived.Test.YthnffdlnhfhabaaAtP
import Derived.Test.YthnffdlnhfhabaaAtQ
namespace Go.Proofs.Ythnffdlnhfhabaa
open Go.RowKit

theorem set12 {W : World} {I : Nat} {ty : TypeId} {z0 z1 z2 z3 z4 z5 z6 z7 z8 z9 zA zB : Value} (hI : Blk W I ty [z0, z1, z2, z3, z4, z5, z6, z7, z8, z9, zA, zB]) (v0 v1 v2 v3 v4 v5 v6 v7 v8 v9 vA vB : Value) :
    Blk ((((((((((((W.setCell ⟨I, 0, none⟩ v0).setCell ⟨I, 1, none⟩ v1).setCell ⟨I, 2, none⟩ v2).setCell ⟨I, 3, none⟩ v3).setCell ⟨I, 4, none⟩ v4).setCell ⟨I, 5, none⟩ v5).setCell ⟨I, 6, none⟩ v6).setCell ⟨I, 7, none⟩ v7).setCell ⟨I, 8, none⟩ v8).setCell ⟨I, 9, none⟩ v9).setCell ⟨I, 10, none⟩ vA).setCell ⟨I, 11, none⟩ vB) I ty [v0, v1, v2, v3, v4, v5, v6, v7, v8, v9, vA, vB] ∧ (∀ n0 V, n0 ≤ I → Below n0 V W → Below n0 V ((((((((((((W.setCell ⟨I, 0, none⟩ v0).setCell ⟨I, 1, none⟩ v1).setCell ⟨I, 2, none⟩ v2).setCell ⟨I, 3, none⟩ v3).setCell ⟨I, 4, none⟩ v4).setCell ⟨I, 5, none⟩ v5).setCell ⟨I, 6, none⟩ v6).setCell ⟨I, 7, none⟩ v7).setCell ⟨I, 8, none⟩ v8).setCell ⟨I, 9, none⟩ v9).setCell ⟨I, 10, none⟩ vA).setCell ⟨I, 11, none⟩ vB)) ∧ (∀ base e sz v n xs, ty ≠ e → W.ownsRow base e sz v n xs → ((((((((((((W.setCell ⟨I, 0, none⟩ v0).setCell ⟨I, 1, none⟩ v1).setCell ⟨I, 2, none⟩ v2).setCell ⟨I, 3, none⟩ v3).setCell ⟨I, 4, none⟩ v4).setCell ⟨I, 5, none⟩ v5).setCell ⟨I, 6, none⟩ v6).setCell ⟨I, 7, none⟩ v7).setCell ⟨I, 8, none⟩ v8).setCell ⟨I, 9, none⟩ v9).setCell ⟨I, 10, none⟩ vA).setCell ⟨I, 11, none⟩ vB).ownsRow base e sz v n xs) := by
  have p0 := hI.setAt (j := 0) v0
  have p1 := p0.setAt (j := 1) v1
  have p2 := p1.setAt (j := 2) v2
  have p3 := p2.setAt (j := 3) v3
  have p4 := p3.setAt (j := 4) v4
  have p5 := p4.setAt (j := 5) v5
  have p6 := p5.setAt (j := 6) v6
  have p7 := p6.setAt (j := 7) v7
  have p8 := p7.setAt (j := 8) v8
  have p9 := p8.setAt (j := 9) v9
  have pA := p9.setAt (j := 10) vA
  have pB := pA.setAt (j := 11) vB
  simp only [List.set_cons_zero, List.set_cons_succ] at p0 p1 p2 p3 p4 p5 p6 p7 p8 p9 pA pB
  exact ⟨pB, fun n0 V hn h => ((((((((((((h.setCell (p := ⟨I, 0, none⟩) hn v0).setCell (p := ⟨I, 1, none⟩) hn v1).setCell (p := ⟨I, 2, none⟩) hn v2).setCell (p := ⟨I, 3, none⟩) hn v3).setCell (p := ⟨I, 4, none⟩) hn v4).setCell (p := ⟨I, 5, none⟩) hn v5).setCell (p := ⟨I, 6, none⟩) hn v6).setCell (p := ⟨I, 7, none⟩) hn v7).setCell (p := ⟨I, 8, none⟩) hn v8).setCell (p := ⟨I, 9, none⟩) hn v9).setCell (p := ⟨I, 10, none⟩) hn vA).setCell (p := ⟨I, 11, none⟩) hn vB), fun base e sz v n xs hte h => (own_set (own_set (own_set (own_set (own_set (own_set (own_set (own_set (own_set (own_set (own_set (own_set h hI hte 0 v0) p0 hte 1 v1) p1 hte 2 v2) p2 hte 3 v3) p3 hte 4 v4) p4 hte 5 v5) p5 hte 6 v6) p6 hte 7 v7) p7 hte 8 v8) p8 hte 9 v9) p9 hte 10 vA) pA hte 11 vB)⟩
theorem build_pdu (W : World) : (Instr.build 29 #[]).run Try.prog W = .ok (.agg #[.int .i64 0, .int .i64 0, .int .u16 0, .int .u16 0, .int .u64 0, .int .u64 0, .int .i64 0, .int .i64 0, .int .i64 0, .bool false, .slice none 0 0, .slice none 0 0]) W := by kernel_rfl
theorem build_kind (x : Nat) (W : World) : (Instr.build 29 #[(0, .int .i64 (x : Nat))]).run Try.prog W = .ok (.agg #[.int .i64 (x : Nat), .int .i64 0, .int .u16 0, .int .u16 0, .int .u64 0, .int .u64 0, .int .i64 0, .int .i64 0, .int .i64 0, .bool false, .slice none 0 0, .slice none 0 0]) W := by kernel_rfl
theorem items_nil (W : World) : Items W (.slice none 0 0) 0 [] := ⟨rfl, ⟨Nat.zero_le _, rfl, by simp, none, 0, rfl, fun _ => ⟨rfl, rfl⟩, fun h => absurd h (by simp)⟩, by simp⟩
/-- what Decode hands back -/
def DecPost (w : World) (bs : List Nat) (e : Ending) (w' : World) : Prop := ∃ (av : Option Addr) (nv cv : Nat) (al : Option Addr) (m d : Nat) (its : List It),
  e = .returned (.tuple #[.agg #[.int .i64 (decP bs).2.ki, .int .i64 (decP bs).2.s.ak, .int .u16 (decP bs).2.s.ha, .int .u16 (decP bs).2.s.la, .int .u64 (decP bs).2.hi, .int .u64 (decP bs).2.lo, .int .i64 (decP bs).2.s.of, .int .i64 (decP bs).2.s.mt, .int .i64 (decP bs).2.s.co, .bool (decP bs).2.s.cm, .slice av nv cv, .slice al m d], .int .i64 (decP bs).1]) ∧
  BytesAt w' (.slice av nv cv) (decP bs).2.bs ∧ (decP bs).2.bs.length = nv ∧ Items w' (.slice al m d) m its ∧ its.map dat = (decP bs).2.its ∧ Below w.heap.size w w'
theorem decPost_zero {w w' : World} {bs : List Nat} {E : Int} (h : decP bs = (E, pd0)) (hb : Below w.heap.size w w') : DecPost w bs (.returned (.tuple #[.agg #[.int .i64 0, .int .i64 0, .int .u16 0, .int .u16 0, .int .u64 0, .int .u64 0, .int .i64 0, .int .i64 0, .int .i64 0, .bool false, .slice none 0 0, .slice none 0 0], .int .i64 E])) w' := by
  unfold DecPost
  rw [h]
  exact ⟨none, 0, 0, none, 0, 0, [], rfl, bytesAt_nil _, rfl, items_nil _, rfl, hb⟩
set_option linter.unusedSimpArgs false in
set_option linter.unusedVariables false in
set_option maxRecDepth 100000 in
set_option maxHeartbeats 8000000 in
theorem adecode_any (a : Option Addr) (n c : Nat) (bs : List Nat) (w : World) (h : BytesAt w (.slice a n c) bs) (hn : bs.length = n) (hc : n ≤ c) :
    Calls Try.prog 17 #[.slice a n c] w (DecPost w bs) := by
  have hz := build_pdu
  have bR := Blk.new w 29 [.int .i64 0, .int .i64 0, .int .u16 0, .int .u16 0, .int .u64 0, .int .u64 0, .int .i64 0, .int .i64 0, .int .i64 0, .bool false, .slice none 0 0, .slice none 0 0]
  have hB0 : Below w.heap.size w (w.alloc (.cells #[.int .i64 0, .int .i64 0, .int .u16 0, .int .u16 0, .int .u64 0, .int .u64 0, .int .i64 0, .int .i64 0, .int .i64 0, .bool false, .slice none 0 0, .slice none 0 0] 29)) := (Below.refl _ _).alloc (Nat.le_refl _) _
  have HBR0 := Lib.hid bR
  have HB0 := Lib.hid hB0
  clear bR hB0
  cases bs with
  | nil =>
    obtain rfl : 0 = n := hn
    go_enter Try.func17, Try.ntmps17
    go_upto_region 2 with fail
    generalize hV : World.alloc _ _ = V at HBR0 HB0 ⊢
    clear hV
    have TR := HBR0.out.cells
    have hOpen := TR
    simp only [Cells, blk, List.cons_append, List.nil_append, and_true, Nat.reduceAdd, Nat.add_zero, Nat.zero_add] at hOpen
    obtain ⟨s0, s1, s2, s3, s4, s5, s6, s7, s8, s9, sA, sB⟩ := hOpen
    have g0 := HBR0.out.frozen 0
    have g1 := HBR0.out.frozen 1
    have g2 := HBR0.out.frozen 2
    have g3 := HBR0.out.frozen 3
    have g4 := HBR0.out.frozen 4
    have g5 := HBR0.out.frozen 5
    have g6 := HBR0.out.frozen 6
    have g7 := HBR0.out.frozen 7
    have g8 := HBR0.out.frozen 8
    have g9 := HBR0.out.frozen 9
    have gA := HBR0.out.frozen 10
    have gB := HBR0.out.frozen 11
    obtain ⟨b12, h12, _⟩ := set12 HBR0.out (.int .i64 0) (.int .i64 0) (.int .u16 0) (.int .u16 0) (.int .u64 0) (.int .u64 0) (.int .i64 0) (.int .i64 0) (.int .i64 0) (.bool false) (.slice none 0 0) (.slice none 0 0)
    have HF := Lib.hid (h12 w.heap.size w (by simp) HB0.out)
    obtain ⟨r0, r1, r2, r3, r4, r5, r6, r7, r8, r9, rA, rB, _⟩ := b12.cells
    simp only [Nat.zero_add, Nat.add_zero] at r0 r1 r2 r3 r4 r5 r6 r7 r8 r9 rA rB
    clear TR b12 h12
    go_wp2
    refine bodyPost_ret (v := .tuple #[.agg #[.int .i64 0, .int .i64 0, .int .u16 0, .int .u16 0, .int .u64 0, .int .u64 0, .int .i64 0, .int .i64 0, .int .i64 0, .bool false, .slice none 0 0, .slice none 0 0], .int .i64 3]) (by simp [results, Try.results17, go_sem, r0, r1, r2, r3, r4, r5, r6, r7, r8, r9, rA, rB]) rfl ?_
    exact decPost_zero rfl HF.out
  | cons x r =>
    have hnp : 0 < n := by rw [← hn]; simp
    have g0 : ((n : Int) == 0) = false := by simp; omega
    have HBY := Lib.hid h
    obtain ⟨⟨_, _, _, ao, cap, e0, _, hcell⟩, _, hlt⟩ := h
    rw [hn] at e0
    cases e0
    obtain ⟨b, off, rfl, hbl, hcs⟩ := hcell (by simp)
    have hx := hlt x (by simp)
    have k0 : w.cell? ⟨b, off, none⟩ = some (.int .u8 (x : Int)) := by have := hcs 0 (.int .u8 (x : Int)) rfl; simpa using this
    have hbk := build_kind x
    have i0' : (0 : Int) < (n : Int) := by omega
    have i1 : (0 : Int) ≤ (x : Int) := by omega
    have i2 : (x : Int) < 256 := by omega
    have i3 : IntKind.i64.wrap (x : Int) = (x : Int) := IntWalk.i64_in _ (by omega)
    have HLT := Lib.hid (fun y (hy : y ∈ r) => hlt y (by simp [hy]))
    have hrl : r.length = n - 1 := by simp at hn; omega
    have hf := fun W => fields_any (x : Int) W
    have HF0 := Lib.hid hf
    clear hcell hcs hlt hf
    obtain ⟨fl, hfl⟩ : ∃ f, fldC (x : Int) = f := ⟨_, rfl⟩
    rw [hfl] at HF0
    cases fl with
    | none =>
      have hde : decP (x :: r) = (12, pd0) := by rw [decP, hfl]
      simp only [Option.getD_none, Option.isSome_none] at HF0
      go_enter Try.func17, Try.ntmps17
      go_upto_region 1 with fail
      generalize hV : World.alloc _ _ = V at HBR0 HB0 ⊢
      have hVs : V.heap.size = w.heap.size + 1 := by rw [← hV]; simp
      clear hV
      have kV := (HB0.out.cell (p := ⟨b, off, none⟩) hbl).trans k0
      have bP := Blk.new V 29 [.int .i64 x, .int .i64 0, .int .u16 0, .int .u16 0, .int .u64 0, .int .u64 0, .int .i64 0, .int .i64 0, .int .i64 0, .bool false, .slice none 0 0, .slice none 0 0]
      have hB1 := HB0.out.alloc HB0.out.size (.cells (List.toArray [.int .i64 x, .int .i64 0, .int .u16 0, .int .u16 0, .int .u64 0, .int .u64 0, .int .i64 0, .int .i64 0, .int .i64 0, .bool false, .slice none 0 0, .slice none 0 0]) 29)
      have bR1 := HBR0.out.alloc (.cells (List.toArray [.int .i64 x, .int .i64 0, .int .u16 0, .int .u16 0, .int .u64 0, .int .u64 0, .int .i64 0, .int .i64 0, .int .i64 0, .bool false, .slice none 0 0, .slice none 0 0]) 29)
      rw [hVs] at bP
      have HBP := Lib.hid bP
      have HB1 := Lib.hid hB1
      have HBR1 := Lib.hid bR1
      have HBV := Lib.hid ((Below.refl V.heap.size V).alloc (Nat.le_refl _) (.cells (List.toArray [.int .i64 x, .int .i64 0, .int .u16 0, .int .u16 0, .int .u64 0, .int .u64 0, .int .i64 0, .int .i64 0, .int .i64 0, .bool false, .slice none 0 0, .slice none 0 0]) 29))
      clear bP hB1 bR1
      go_upto_region 4 with fail
      generalize hX : World.alloc _ _ = X at HBP HB1 HBR1 HBV ⊢
      clear hX kV
      have kP := HBP.out.cell (j := 0) rfl
      go_wp2_with fail
      refine (HF0.out _).mono ?_
      rintro e w' ⟨rfl, rfl⟩
      go_upto_region 6 with fail
      have TR := HBR1.out.cells
      have hOpen := TR
      simp only [Cells, blk, List.cons_append, List.nil_append, and_true, Nat.reduceAdd, Nat.add_zero, Nat.zero_add] at hOpen
      obtain ⟨s0, s1, s2, s3, s4, s5, s6, s7, s8, s9, sA, sB⟩ := hOpen
      have g0 := HBR1.out.frozen 0
      have g1 := HBR1.out.frozen 1
      have g2 := HBR1.out.frozen 2
      have g3 := HBR1.out.frozen 3
      have g4 := HBR1.out.frozen 4
      have g5 := HBR1.out.frozen 5
      have g6 := HBR1.out.frozen 6
      have g7 := HBR1.out.frozen 7
      have g8 := HBR1.out.frozen 8
      have g9 := HBR1.out.frozen 9
      have gA := HBR1.out.frozen 10
      have gB := HBR1.out.frozen 11
      obtain ⟨b12, h12, _⟩ := set12 HBR1.out (.int .i64 0) (.int .i64 0) (.int .u16 0) (.int .u16 0) (.int .u64 0) (.int .u64 0) (.int .i64 0) (.int .i64 0) (.int .i64 0) (.bool false) (.slice none 0 0) (.slice none 0 0)
      have HF := Lib.hid (h12 w.heap.size w (by simp) HB1.out)
      obtain ⟨r0, r1, r2, r3, r4, r5, r6, r7, r8, r9, rA, rB, _⟩ := b12.cells
      simp only [Nat.zero_add, Nat.add_zero] at r0 r1 r2 r3 r4 r5 r6 r7 r8 r9 rA rB
      clear TR b12 h12
      go_wp2
      refine bodyPost_ret (v := .tuple #[.agg #[.int .i64 0, .int .i64 0, .int .u16 0, .int .u16 0, .int .u64 0, .int .u64 0, .int .i64 0, .int .i64 0, .int .i64 0, .bool false, .slice none 0 0, .slice none 0 0], .int .i64 12]) (by simp [results, Try.results17, go_sem, r0, r1, r2, r3, r4, r5, r6, r7, r8, r9, rA, rB]) rfl ?_
      exact decPost_zero hde HF.out
    | some u =>
      simp only [Option.getD_some, Option.isSome_some] at HF0
      by_cases hlong : 517 < n
      · have hde : decP (x :: r) = (4, pd0) := by rw [decP, hfl]; simp only; rw [if_pos (by omega)]
        have g5 : decide ((517 : Int) < (n : Int)) = true := by simp; omega
        have g5' : decide (517 < n) = true := by simpa using hlong
        go_enter Try.func17, Try.ntmps17
        go_upto_region 1 with fail
        generalize hV : World.alloc _ _ = V at HBR0 HB0 ⊢
        have hVs : V.heap.size = w.heap.size + 1 := by rw [← hV]; simp
        clear hV
        have kV := (HB0.out.cell (p := ⟨b, off, none⟩) hbl).trans k0
        have bP := Blk.new V 29 [.int .i64 x, .int .i64 0, .int .u16 0, .int .u16 0, .int .u64 0, .int .u64 0, .int .i64 0, .int .i64 0, .int .i64 0, .bool false, .slice none 0 0, .slice none 0 0]
        have hB1 := HB0.out.alloc HB0.out.size (.cells (List.toArray [.int .i64 x, .int .i64 0, .int .u16 0, .int .u16 0, .int .u64 0, .int .u64 0, .int .i64 0, .int .i64 0, .int .i64 0, .bool false, .slice none 0 0, .slice none 0 0]) 29)
        have bR1 := HBR0.out.alloc (.cells (List.toArray [.int .i64 x, .int .i64 0, .int .u16 0, .int .u16 0, .int .u64 0, .int .u64 0, .int .i64 0, .int .i64 0, .int .i64 0, .bool false, .slice none 0 0, .slice none 0 0]) 29)
        rw [hVs] at bP
        have HBP := Lib.hid bP
        have HB1 := Lib.hid hB1
        have HBR1 := Lib.hid bR1
        have HBV := Lib.hid ((Below.refl V.heap.size V).alloc (Nat.le_refl _) (.cells (List.toArray [.int .i64 x, .int .i64 0, .int .u16 0, .int .u16 0, .int .u64 0, .int .u64 0, .int .i64 0, .int .i64 0, .int .i64 0, .bool false, .slice none 0 0, .slice none 0 0]) 29))
        clear bP hB1 bR1
        go_upto_region 4 with fail
        generalize hX : World.alloc _ _ = X at HBP HB1 HBR1 HBV ⊢
        clear hX kV
        have kP := HBP.out.cell (j := 0) rfl
        go_wp2_with fail
        refine (HF0.out _).mono ?_
        rintro e w' ⟨rfl, rfl⟩
        go_upto_region 8 with fail
        have TR := HBR1.out.cells
        have hOpen := TR
        simp only [Cells, blk, List.cons_append, List.nil_append, and_true, Nat.reduceAdd, Nat.add_zero, Nat.zero_add] at hOpen
        obtain ⟨s0, s1, s2, s3, s4, s5, s6, s7, s8, s9, sA, sB⟩ := hOpen
        have g0 := HBR1.out.frozen 0
        have g1 := HBR1.out.frozen 1
        have g2 := HBR1.out.frozen 2
        have g3 := HBR1.out.frozen 3
        have g4 := HBR1.out.frozen 4
        have g5 := HBR1.out.frozen 5
        have g6 := HBR1.out.frozen 6
        have g7 := HBR1.out.frozen 7
        have g8 := HBR1.out.frozen 8
        have g9 := HBR1.out.frozen 9
        have gA := HBR1.out.frozen 10
        have gB := HBR1.out.frozen 11
        obtain ⟨b12, h12, _⟩ := set12 HBR1.out (.int .i64 0) (.int .i64 0) (.int .u16 0) (.int .u16 0) (.int .u64 0) (.int .u64 0) (.int .i64 0) (.int .i64 0) (.int .i64 0) (.bool false) (.slice none 0 0) (.slice none 0 0)
        have HF := Lib.hid (h12 w.heap.size w (by simp) HB1.out)
        obtain ⟨r0, r1, r2, r3, r4, r5, r6, r7, r8, r9, rA, rB, _⟩ := b12.cells
        simp only [Nat.zero_add, Nat.add_zero] at r0 r1 r2 r3 r4 r5 r6 r7 r8 r9 rA rB
        clear TR b12 h12
        go_wp2
        refine bodyPost_ret (v := .tuple #[.agg #[.int .i64 0, .int .i64 0, .int .u16 0, .int .u16 0, .int .u64 0, .int .u64 0, .int .i64 0, .int .i64 0, .int .i64 0, .bool false, .slice none 0 0, .slice none 0 0], .int .i64 4]) (by simp [results, Try.results17, go_sem, r0, r1, r2, r3, r4, r5, r6, r7, r8, r9, rA, rB]) rfl ?_
        exact decPost_zero hde HF.out
      · have hde : decP (x :: r) = st1 x (lps u nm0 r) := by rw [decP, hfl]; simp only; rw [if_neg (by omega)]
        have g5 : decide ((517 : Int) < (n : Int)) = false := by simp; omega
        have g5' : decide (517 < n) = false := by simpa using hlong
        obtain ⟨a2, c2, hby2, hc2, hr1⟩ := bytes_from w _ n c 1 _ HBY.out hn hc (by omega)
        simp only [List.drop_succ_cons, List.drop_zero] at hby2
        replace hr1 : ∀ W, (Instr.slice 26 (.slice (some ⟨b, off, none⟩) n c) (some (.int .i64 1)) none none).run Try.prog W = .ok (.slice a2 (n - 1) c2) W := hr1
        obtain ⟨n2, hn2⟩ : ∃ n2, n - 1 = n2 := ⟨_, rfl⟩
        rw [hn2] at hby2 hc2 hr1 hrl
        have HDE := Lib.hid hde
        have HBY2 := Lib.hid hby2
        have HRL := Lib.hid hrl
        have hn2b : n2 ≤ 516 := by omega
        clear hde hby2 hrl hn2
        go_enter Try.func17, Try.ntmps17
        go_upto_region 1 with fail
        generalize hV : World.alloc _ _ = V at HBR0 HB0 ⊢
        have hVs : V.heap.size = w.heap.size + 1 := by rw [← hV]; simp
        clear hV
        have kV := (HB0.out.cell (p := ⟨b, off, none⟩) hbl).trans k0
        have bP := Blk.new V 29 [.int .i64 x, .int .i64 0, .int .u16 0, .int .u16 0, .int .u64 0, .int .u64 0, .int .i64 0, .int .i64 0, .int .i64 0, .bool false, .slice none 0 0, .slice none 0 0]
        have hB1 := HB0.out.alloc HB0.out.size (.cells (List.toArray [.int .i64 x, .int .i64 0, .int .u16 0, .int .u16 0, .int .u64 0, .int .u64 0, .int .i64 0, .int .i64 0, .int .i64 0, .bool false, .slice none 0 0, .slice none 0 0]) 29)
        have bR1 := HBR0.out.alloc (.cells (List.toArray [.int .i64 x, .int .i64 0, .int .u16 0, .int .u16 0, .int .u64 0, .int .u64 0, .int .i64 0, .int .i64 0, .int .i64 0, .bool false, .slice none 0 0, .slice none 0 0]) 29)
        rw [hVs] at bP
        have HBP := Lib.hid bP
        have HB1 := Lib.hid hB1
        have HBR1 := Lib.hid bR1
        have HBV := Lib.hid ((Below.refl V.heap.size V).alloc (Nat.le_refl _) (.cells (List.toArray [.int .i64 x, .int .i64 0, .int .u16 0, .int .u16 0, .int .u64 0, .int .u64 0, .int .i64 0, .int .i64 0, .int .i64 0, .bool false, .slice none 0 0, .slice none 0 0]) 29))
        clear bP hB1 bR1
        go_upto_region 4 with fail
        generalize hX : World.alloc _ _ = X at HBP HB1 HBR1 HBV ⊢
        clear hX kV
        have kP := HBP.out.cell (j := 0) rfl
        go_wp2_with fail
        refine (HF0.out _).mono ?_
        rintro e w' ⟨rfl, rfl⟩
        clear kP
        obtain ⟨hmem, hul⟩ := fldC_mem x u hfl
        have hub := fldC_lt x u hfl
        have hus := strB_size u
        obtain ⟨U, hU⟩ : ∃ U, u.length = U := ⟨_, rfl⟩
        rw [hU] at hul hus
        have HU := Lib.hid hU
        have HMEM := Lib.hid hmem
        have HUB := Lib.hid hub
        have HFL := Lib.hid hfl
        have hit0 := World.iter_heap X (strB u) 0
        have hnwI : Below X.heap.size X (X.iter (strB u) 0) := (Below.refl _ _).alloc (Nat.le_refl _) _
        have HPI := Lib.hid (HBP.out.below hnwI)
        have HRI := Lib.hid (HBR1.out.below hnwI)
        have HBI := Lib.hid (HB1.out.trans (hnwI.mono HB1.out.size))
        have HBVI := Lib.hid (HBV.out.trans (hnwI.mono HBV.out.size))
        have hkl : w.heap.size + 1 < X.heap.size := HBP.out.lt
        obtain ⟨kb, hkb⟩ : ∃ kb, X.heap.size = kb := ⟨_, rfl⟩
        rw [hkb] at hit0 hkl
        have HIT0 := Lib.hid hit0
        clear hnwI hit0 hU hmem hub hfl HBP HB1 HBR1 HBV
        go_wp2
        clear hkb
        go_loopw [0, 7, 9, 10, 11, 12] (fun bv rv _ _ _ _ wr => ∃ (k : Nat) (s : Nm) (bl : List Nat) (a' : Option Addr) (n' c' : Nat), bv = .slice a' n' c' ∧ rv = .string { data := #[] } ∧ k ≤ U ∧ n' ≤ c' ∧ n' ≤ 516 ∧ Hid (bl.length = n') ∧ Hid (BytesAt w (.slice a' n' c') bl) ∧ Hid (lps u nm0 r = lps (u.drop k) s bl) ∧ wr.heap[kb]? = some (.stringIter (strB u) k) ∧ Blk wr w.heap.size 29 [.int .i64 0, .int .i64 0, .int .u16 0, .int .u16 0, .int .u64 0, .int .u64 0, .int .i64 0, .int .i64 0, .int .i64 0, .bool false, .slice none 0 0, .slice none 0 0] ∧ Blk wr (w.heap.size + 1) 29 (pn x s) ∧ Below w.heap.size w wr ∧ Below V.heap.size V wr) (fun _ _ _ _ _ _ wr => U - wr.iterPos kb)
        case atStart => exact ⟨0, nm0, r, a2, n2, c2, rfl, rfl, Nat.zero_le _, hc2, hn2b, HRL, HBY2, Lib.hid rfl, HIT0.out, HRI.out, HPI.out, HBI.out, HBVI.out⟩
        case round =>
          obtain ⟨k, s, bl, a', n', c', rfl, rfl, hk, hc', hn', hbl', hby, hlps, hit, bR, bP, hBr, hBv⟩ := hrel
          by_cases hlt : k < U
          · have hku : k < u.length := by rw [HU.out]; exact hlt
            have hks : k < (strB u).size := by rw [hus]; exact hlt
            have hget := strB_get u HUB.out k hku hks
            have hcm := HMEM.out _ (List.getElem_mem hku)
            have hmemu : u[k] ∈ u := List.getElem_mem hku
            have hst : lps (u.drop k) s bl = lps (u[k] :: u.drop (k + 1)) s bl := by rw [List.drop_eq_getElem_cons hku]
            have hasc : ((strB u)[k]'hks).toNat < 128 := by
              rw [hget]
              have : ∀ x ∈ leF, x < 128 := by decide
              exact this _ hcm
            obtain ⟨hi10, hle⟩ := le_ix _ hcm
            have hnx := fun ty => Lib.run_next_ascii_at (P := Try.prog) wr kb (strB u) k ty hit hks hasc
            rw [hget] at hnx
            obtain ⟨cc, hcc⟩ : ∃ x, u[k] = x := ⟨_, rfl⟩
            rw [hcc] at hnx hst hcm hle hi10 hmemu
            rw [lps] at hst
            obtain ⟨i, hii'⟩ : ∃ i, ix cc = i := ⟨_, rfl⟩
            rw [hii'] at hle hi10 hst
            subst hle
            have bR1 := blk_iter bR hit (k + 1)
            have bP1 := blk_iter bP hit (k + 1)
            have hit1 := Lib.iterAt_heap wr kb (strB u) k (k + 1) hit
            have hB1 := Lib.below_iterAt hBr (k := kb) (by omega) (strB u) (k + 1)
            have hBv1 := Lib.below_iterAt hBv (k := kb) (by omega) (strB u) (k + 1)
            have hmeas : wr.iterPos kb = k := iterPos_of hit
            generalize hW : wr.iterAt kb (strB u) (k + 1) = W at hnx bR1 bP1 hit1 hB1 hBv1
            have hlW := bP1.lt
            have HR := Lib.hid bR1
            have HP := Lib.hid bP1
            have HIT := Lib.hid hit1
            have HBr := Lib.hid hB1
            have HBv := Lib.hid hBv1
            have HST := Lib.hid (hlps.out.trans hst)
            have HMEAS := Lib.hid hmeas
            have hlet := fun W => letter_any i hi10 W
            clear hget hcm hst hasc hks hku hcc hii' hit bR bP hBr hBv hBv1 bR1 bP1 hit1 hB1 hmeas hW hlps
            go_wp2_with fail
            refine (hlet _).mono ?_
            rintro e w2 ⟨rfl, hB2⟩
            have bR2 := HR.out.below hB2
            have bP2 := HP.out.below hB2
            have hit2 := iter_below HIT.out hB2
            have hBw2 := HBr.out.trans (hB2.mono HBr.out.size)
            have hlW2 := bP2.lt
            have hkl2 : kb < w2.heap.size := (Array.getElem?_eq_some_iff.1 hit2).1
            have HR := Lib.hid bR2
            have HP := Lib.hid bP2
            have HIT := Lib.hid hit2
            have HBr := Lib.hid hBw2
            have HBv := Lib.hid (HBv.out.trans (hB2.mono HBv.out.size))
            clear hlet hnx hB2 bR2 bP2 hit2 hBw2 hlW
            by_cases hi7 : i < 7
            · have hfr : fRow i = .agg #[.string (strB [le i]), .int .i64 (si i : Nat), .func (.func (fz i)) #[] #[], .func (.func (fk i)) #[] #[], .func (.func (fg i)) #[] #[], .func (.func (ft i)) #[] #[]] := by unfold fRow; rw [if_pos hi7]
              have hd7 : decide (i < 7) = true := by simpa using hi7
              rw [hfr, hd7]
              clear hfr hd7
              have hst := HST.out
              rw [if_pos hi7] at hst
              have hs2 := si_two i hi7
              have hent := ent_t i hi7
              have hs6 : i = 6 → si i = 1 := fun h => by subst h; rfl
              have h88 : i ≠ 6 → ((le i : Int) == 88) = false := fun h => by
                rcases (show i = 0 ∨ i = 1 ∨ i = 2 ∨ i = 3 ∨ i = 4 ∨ i = 5 by omega) with rfl | rfl | rfl | rfl | rfl | rfl
                all_goals rfl
              obtain ⟨S, hS⟩ : ∃ S, si i = S := ⟨_, rfl⟩
              rw [hS] at hs2 hst hs6 ⊢
              rw [hbl'.out] at hst
              have HS := Lib.hid hS
              have bF := Blk.new w2 55 [.string (strB [le i]), .int .i64 (S : Nat), .func (.func (fz i)) #[] #[], .func (.func (fk i)) #[] #[], .func (.func (fg i)) #[] #[], .func (.func (ft i)) #[] #[]]
              have hnw : Below w2.heap.size w2 (w2.alloc (.cells (List.toArray [.string (strB [le i]), .int .i64 (S : Nat), .func (.func (fz i)) #[] #[], .func (.func (fk i)) #[] #[], .func (.func (fg i)) #[] #[], .func (.func (ft i)) #[] #[]]) 55)) := (Below.refl _ _).alloc (Nat.le_refl _) _
              have bR3 := HR.out.below hnw
              have bP3 := HP.out.below hnw
              have it3 := iter_below HIT.out hnw
              have hB3 := HBr.out.trans (hnw.mono HBr.out.size)
              have HF3 := Lib.hid (And.intro bF (And.intro bR3 (And.intro bP3 (And.intro it3 (And.intro hB3 (HBv.out.trans (hnw.mono HBv.out.size)))))))
              clear bF bR3 bP3 it3 hB3 hnw HR HP HIT HBr HBv HST hS
              by_cases hsh : n' < S
              · rw [if_pos hsh] at hst
                have hde : decP (x :: r) = (3, pd0) := by rw [HDE.out, hst]; rfl
                have g6 : decide ((n' : Int) < (S : Int)) = true := by simp; omega
                have g6' : decide (n' < S) = true := by simpa using hsh
                go_upto_region 17 with fail
                generalize hY : World.alloc _ _ = Y at HF3 ⊢
                clear hY
                obtain ⟨bF, bR3, bP3, it3, hB3, hBv3⟩ := HF3.out
                have TF := bF.cells
                have hOpen := TF
                simp only [Cells, blk, List.cons_append, List.nil_append, and_true, Nat.reduceAdd, Nat.add_zero, Nat.zero_add] at hOpen
                obtain ⟨e0, e1, e2, e3, e4, e5⟩ := hOpen
                clear TF bF bP3 it3 hBv3
                go_upto_region 18 with fail
                have TR := bR3.cells
                have hOpen := TR
                simp only [Cells, blk, List.cons_append, List.nil_append, and_true, Nat.reduceAdd, Nat.add_zero, Nat.zero_add] at hOpen
                obtain ⟨s0, s1, s2, s3, s4, s5, s6, s7, s8, s9, sA, sB⟩ := hOpen
                have g0 := bR3.frozen 0
                have g1 := bR3.frozen 1
                have g2 := bR3.frozen 2
                have g3 := bR3.frozen 3
                have g4 := bR3.frozen 4
                have g5 := bR3.frozen 5
                have g6 := bR3.frozen 6
                have g7 := bR3.frozen 7
                have g8 := bR3.frozen 8
                have g9 := bR3.frozen 9
                have gA := bR3.frozen 10
                have gB := bR3.frozen 11
                obtain ⟨b12, h12, _⟩ := set12 bR3 (.int .i64 0) (.int .i64 0) (.int .u16 0) (.int .u16 0) (.int .u64 0) (.int .u64 0) (.int .i64 0) (.int .i64 0) (.int .i64 0) (.bool false) (.slice none 0 0) (.slice none 0 0)
                have HF := Lib.hid (h12 w.heap.size w (by simp) hB3)
                obtain ⟨r0, r1, r2, r3, r4, r5, r6, r7, r8, r9, rA, rB, _⟩ := b12.cells
                simp only [Nat.zero_add, Nat.add_zero] at r0 r1 r2 r3 r4 r5 r6 r7 r8 r9 rA rB
                clear TR b12 h12
                go_wp2
                refine bodyPost_ret (v := .tuple #[.agg #[.int .i64 0, .int .i64 0, .int .u16 0, .int .u16 0, .int .u64 0, .int .u64 0, .int .i64 0, .int .i64 0, .int .i64 0, .bool false, .slice none 0 0, .slice none 0 0], .int .i64 3]) (by simp [results, Try.results17, go_sem, r0, r1, r2, r3, r4, r5, r6, r7, r8, r9, rA, rB]) rfl ?_
                exact decPost_zero hde HF.out
              · rw [if_neg hsh] at hst
                have g6 : decide ((n' : Int) < (S : Int)) = false := by simp; omega
                have g6' : decide (n' < S) = false := by simpa using hsh
                obtain ⟨a5, c5, hby5, hc5, hr5⟩ := bytes_from w a' n' c' S bl hby.out hbl'.out hc' (by omega)
                obtain ⟨⟨_, _, _, ao5, cap5, e05, _, hcell5⟩, _, hlt5⟩ := hby.out
                rw [hbl'.out] at e05 hcell5
                cases e05
                obtain ⟨b5, off5, rfl, hb5, hcs5⟩ := hcell5 (by omega)
                by_cases hi6 : i = 6
                · have h88 : ((le i : Int) == 88) = true := by rw [hi6]; rfl
                  obtain rfl := hs6 hi6
                  have HI6 := Lib.hid hi6
                  clear hi6
                  obtain ⟨y0, rl, rfl⟩ : ∃ y l, bl = y :: l := by
                    cases bl with
                    | nil => have := hbl'.out; simp at this; omega
                    | cons y l => exact ⟨y, l, rfl⟩
                  have hy0 : y0 < 256 := hlt5 y0 (by simp)
                  have q0 := hcs5 0 (.int .u8 (y0 : Int)) rfl
                  simp only [Nat.add_zero] at q0
                  have hvn : vnum ((y0 :: rl).take 1) = y0 := by simp [vnum]
                  rw [hvn] at hst
                  by_cases hy1 : 1 < y0
                  · have g7 : decide ((1 : Int) < (y0 : Int)) = true := by simp; omega
                    have g7' : decide (1 < y0) = true := by simpa using hy1
                    by_cases hn1 : n' = 1
                    · have g8 : ((n' : Int) == 1) = true := by rw [hn1]; rfl
                      rw [if_pos ⟨HI6.out, hy1, hn1⟩] at hst
                      have hde : decP (x :: r) = (2, pd0) := by rw [HDE.out, hst]; rfl
                      clear hn1 hst
                      go_upto_region 17 with fail
                      generalize hY : World.alloc _ _ = Y at HF3 ⊢
                      clear hY
                      obtain ⟨bF, bR3, bP3, it3, hB3, hBv3⟩ := HF3.out
                      have TF := bF.cells
                      have hOpen := TF
                      simp only [Cells, blk, List.cons_append, List.nil_append, and_true, Nat.reduceAdd, Nat.add_zero, Nat.zero_add] at hOpen
                      obtain ⟨e0, e1, e2, e3, e4, e5⟩ := hOpen
                      have hpos : (0 : Int) < (n' : Int) := by omega
                      have d0 := (hB3.cell (p := ⟨b5, off5, none⟩) hb5).trans q0
                      have w0 : IntKind.i64.wrap (y0 : Int) = (y0 : Int) := IntWalk.i64_in _ (by omega)
                      clear TF bF bP3 it3 hBv3
                      go_upto_region 23 with fail
                      have TR := bR3.cells
                      have hOpen := TR
                      simp only [Cells, blk, List.cons_append, List.nil_append, and_true, Nat.reduceAdd, Nat.add_zero, Nat.zero_add] at hOpen
                      obtain ⟨s0, s1, s2, s3, s4, s5, s6, s7, s8, s9, sA, sB⟩ := hOpen
                      have g0 := bR3.frozen 0
                      have g1 := bR3.frozen 1
                      have g2 := bR3.frozen 2
                      have g3 := bR3.frozen 3
                      have g4 := bR3.frozen 4
                      have g5 := bR3.frozen 5
                      have g6 := bR3.frozen 6
                      have g7 := bR3.frozen 7
                      have g8 := bR3.frozen 8
                      have g9 := bR3.frozen 9
                      have gA := bR3.frozen 10
                      have gB := bR3.frozen 11
                      obtain ⟨b12, h12, _⟩ := set12 bR3 (.int .i64 0) (.int .i64 0) (.int .u16 0) (.int .u16 0) (.int .u64 0) (.int .u64 0) (.int .i64 0) (.int .i64 0) (.int .i64 0) (.bool false) (.slice none 0 0) (.slice none 0 0)
                      have HF := Lib.hid (h12 w.heap.size w (by simp) hB3)
                      obtain ⟨r0, r1, r2, r3, r4, r5, r6, r7, r8, r9, rA, rB, _⟩ := b12.cells
                      simp only [Nat.zero_add, Nat.add_zero] at r0 r1 r2 r3 r4 r5 r6 r7 r8 r9 rA rB
                      clear TR b12 h12
                      go_wp2
                      refine bodyPost_ret (v := .tuple #[.agg #[.int .i64 0, .int .i64 0, .int .u16 0, .int .u16 0, .int .u64 0, .int .u64 0, .int .i64 0, .int .i64 0, .int .i64 0, .bool false, .slice none 0 0, .slice none 0 0], .int .i64 2]) (by simp [results, Try.results17, go_sem, r0, r1, r2, r3, r4, r5, r6, r7, r8, r9, rA, rB]) rfl ?_
                      exact decPost_zero hde HF.out
                    · have g8 : ((n' : Int) == 1) = false := by simp; omega
                      rw [if_neg (by rintro ⟨_, _, h⟩; exact hn1 h)] at hst
                      have hNb : y0 < 65536 := by omega
                      replace hr5 : ∀ W, (Instr.slice 26 (.slice (some ⟨b5, off5, none⟩) n' c') (some (.int .i64 1)) none none).run Try.prog W = .ok (.slice a5 (n' - 1) c5) W := hr5
                      go_upto_region 17 with fail
                      generalize hY : World.alloc _ _ = Y at HF3 ⊢
                      clear hY
                      obtain ⟨bF, bR3, bP3, it3, hB3, hBv3⟩ := HF3.out
                      have hset := set_k i hi7 (w.heap.size + 1) _ _ _ _ _ _ _ _ _ _ _ _ ((y0 : Nat) : Int) Y bP3
                      have HSET := Lib.hid hset
                      have d0 := (hB3.cell (p := ⟨b5, off5, none⟩) hb5).trans q0
                      have TF := bF.cells
                      have hOpen := TF
                      simp only [Cells, blk, List.cons_append, List.nil_append, and_true, Nat.reduceAdd, Nat.add_zero, Nat.zero_add] at hOpen
                      obtain ⟨e0, e1, e2, e3, e4, e5⟩ := hOpen
                      have hpos : (0 : Int) < (n' : Int) := by omega
                      have h516 : n' - 1 ≤ 516 := Nat.le_trans (Nat.sub_le _ _) hn'
                      have w0 : IntKind.i64.wrap (y0 : Int) = (y0 : Int) := IntWalk.i64_in _ (by omega)
                      have HFIN : Hid (∀ Z, Y.setCell ⟨w.heap.size + 1, fo i, none⟩ (fv i ((y0 : Nat) : Int)) = Z → (Blk Z w2.heap.size 55 [.string (strB [le i]), .int .i64 ((1 : Nat) : Int), .func (.func (fz i)) #[] #[], .func (.func (fk i)) #[] #[], .func (.func (fg i)) #[] #[], .func (.func (ft i)) #[] #[]]) ∧ ((∃ (k : Nat) (s : Nm) (bl : List Nat) (a' : Option Addr) (n'' c' : Nat), Value.slice a5 (n' - 1) c5 = .slice a' n'' c' ∧ Value.string { data := #[] } = .string { data := #[] } ∧ k ≤ U ∧ n'' ≤ c' ∧ n'' ≤ 516 ∧ Hid (bl.length = n'') ∧ Hid (BytesAt w (.slice a' n'' c') bl) ∧ Hid (lps u nm0 r = lps (u.drop k) s bl) ∧ Z.heap[kb]? = some (.stringIter (strB u) k) ∧ Blk Z w.heap.size 29 [.int .i64 0, .int .i64 0, .int .u16 0, .int .u16 0, .int .u64 0, .int .u64 0, .int .i64 0, .int .i64 0, .int .i64 0, .bool false, .slice none 0 0, .slice none 0 0] ∧ Blk Z (w.heap.size + 1) 29 (pn x s) ∧ Below w.heap.size w Z ∧ Below V.heap.size V Z) ∧ U - Z.iterPos kb < U - wr.iterPos kb)) := Lib.hid (by
                        intro Z hZ
                        have itZ : Z.heap[kb]? = some (.stringIter (strB u) (k + 1)) := by rw [← hZ]; exact (Below.heap_setCell Y ⟨w.heap.size + 1, fo i, none⟩ _ kb (show kb ≠ w.heap.size + 1 by omega)).trans it3
                        refine ⟨by rw [← hZ]; exact bF.other (show w2.heap.size ≠ w.heap.size + 1 by omega) _, ⟨k + 1, setN s i (y0), _, a5, n' - 1, c5, rfl, rfl, hlt, hc5, h516, Lib.hid (by rw [List.length_drop, hbl'.out]), Lib.hid hby5, Lib.hid hst, itZ, by rw [← hZ]; exact bR3.other (show w.heap.size ≠ w.heap.size + 1 by omega) _, ?_, by rw [← hZ]; exact hB3.setCell (p := ⟨w.heap.size + 1, fo i, none⟩) (by simp) _, by rw [← hZ]; exact hBv3.setCell (p := ⟨w.heap.size + 1, fo i, none⟩) (show V.heap.size ≤ w.heap.size + 1 from Nat.le_of_eq hVs) _⟩, ?_⟩
                        · rw [← hZ]
                          have := bP3.setAt (j := fo i) (fv i ((y0 : Nat) : Int))
                          rwa [pn_set x s i (y0) hi7 hNb] at this
                        · rw [HMEAS.out, iterPos_of itZ]
                          omega)
                      clear TF bF bR3 bP3 it3 hB3 hBv3 hset HF3 hst hby5 hlt5 hcs5 hcell5
                      go_wp2_with fail
                      refine (HSET.out).mono ?_
                      rintro e w4 ⟨rfl, hw4⟩
                      have hF4 := HFIN.out w4 hw4.symm
                      obtain ⟨bF4, hrel4⟩ := hF4
                      have HREL := Lib.hid hrel4
                      have TF := bF4.cells
                      clear e0 e1 e2 e3 e4 e5 hw4 hrel4 HFIN HSET
                      have hOpen := TF
                      simp only [Cells, blk, List.cons_append, List.nil_append, and_true, Nat.reduceAdd, Nat.add_zero, Nat.zero_add] at hOpen
                      obtain ⟨e0, e1, e2, e3, e4, e5⟩ := hOpen
                      clear TF bF4
                      go_wp2
                      obtain ⟨⟨k7, s7, bl7, a7, n7, c7, h1, _, h3⟩, hm7⟩ := HREL.out
                      exact ⟨⟨k7, s7, bl7, a7, n7, c7, h1, rfl, h3⟩, hm7⟩
                  · have g7 : decide ((1 : Int) < (y0 : Int)) = false := by simp; omega
                    have g7' : decide (1 < y0) = false := by simpa using hy1
                    rw [if_neg (by rintro ⟨_, h, _⟩; exact hy1 h)] at hst
                    have hNb : y0 < 65536 := by omega
                    replace hr5 : ∀ W, (Instr.slice 26 (.slice (some ⟨b5, off5, none⟩) n' c') (some (.int .i64 1)) none none).run Try.prog W = .ok (.slice a5 (n' - 1) c5) W := hr5
                    go_upto_region 17 with fail
                    generalize hY : World.alloc _ _ = Y at HF3 ⊢
                    clear hY
                    obtain ⟨bF, bR3, bP3, it3, hB3, hBv3⟩ := HF3.out
                    have hset := set_k i hi7 (w.heap.size + 1) _ _ _ _ _ _ _ _ _ _ _ _ ((y0 : Nat) : Int) Y bP3
                    have HSET := Lib.hid hset
                    have d0 := (hB3.cell (p := ⟨b5, off5, none⟩) hb5).trans q0
                    have TF := bF.cells
                    have hOpen := TF
                    simp only [Cells, blk, List.cons_append, List.nil_append, and_true, Nat.reduceAdd, Nat.add_zero, Nat.zero_add] at hOpen
                    obtain ⟨e0, e1, e2, e3, e4, e5⟩ := hOpen
                    have hpos : (0 : Int) < (n' : Int) := by omega
                    have h516 : n' - 1 ≤ 516 := Nat.le_trans (Nat.sub_le _ _) hn'
                    have w0 : IntKind.i64.wrap (y0 : Int) = (y0 : Int) := IntWalk.i64_in _ (by omega)
                    have HFIN : Hid (∀ Z, Y.setCell ⟨w.heap.size + 1, fo i, none⟩ (fv i ((y0 : Nat) : Int)) = Z → (Blk Z w2.heap.size 55 [.string (strB [le i]), .int .i64 ((1 : Nat) : Int), .func (.func (fz i)) #[] #[], .func (.func (fk i)) #[] #[], .func (.func (fg i)) #[] #[], .func (.func (ft i)) #[] #[]]) ∧ ((∃ (k : Nat) (s : Nm) (bl : List Nat) (a' : Option Addr) (n'' c' : Nat), Value.slice a5 (n' - 1) c5 = .slice a' n'' c' ∧ Value.string { data := #[] } = .string { data := #[] } ∧ k ≤ U ∧ n'' ≤ c' ∧ n'' ≤ 516 ∧ Hid (bl.length = n'') ∧ Hid (BytesAt w (.slice a' n'' c') bl) ∧ Hid (lps u nm0 r = lps (u.drop k) s bl) ∧ Z.heap[kb]? = some (.stringIter (strB u) k) ∧ Blk Z w.heap.size 29 [.int .i64 0, .int .i64 0, .int .u16 0, .int .u16 0, .int .u64 0, .int .u64 0, .int .i64 0, .int .i64 0, .int .i64 0, .bool false, .slice none 0 0, .slice none 0 0] ∧ Blk Z (w.heap.size + 1) 29 (pn x s) ∧ Below w.heap.size w Z ∧ Below V.heap.size V Z) ∧ U - Z.iterPos kb < U - wr.iterPos kb)) := Lib.hid (by
                      intro Z hZ
                      have itZ : Z.heap[kb]? = some (.stringIter (strB u) (k + 1)) := by rw [← hZ]; exact (Below.heap_setCell Y ⟨w.heap.size + 1, fo i, none⟩ _ kb (show kb ≠ w.heap.size + 1 by omega)).trans it3
                      refine ⟨by rw [← hZ]; exact bF.other (show w2.heap.size ≠ w.heap.size + 1 by omega) _, ⟨k + 1, setN s i (y0), _, a5, n' - 1, c5, rfl, rfl, hlt, hc5, h516, Lib.hid (by rw [List.length_drop, hbl'.out]), Lib.hid hby5, Lib.hid hst, itZ, by rw [← hZ]; exact bR3.other (show w.heap.size ≠ w.heap.size + 1 by omega) _, ?_, by rw [← hZ]; exact hB3.setCell (p := ⟨w.heap.size + 1, fo i, none⟩) (by simp) _, by rw [← hZ]; exact hBv3.setCell (p := ⟨w.heap.size + 1, fo i, none⟩) (show V.heap.size ≤ w.heap.size + 1 from Nat.le_of_eq hVs) _⟩, ?_⟩
                      · rw [← hZ]
                        have := bP3.setAt (j := fo i) (fv i ((y0 : Nat) : Int))
                        rwa [pn_set x s i (y0) hi7 hNb] at this
                      · rw [HMEAS.out, iterPos_of itZ]
                        omega)
                    clear TF bF bR3 bP3 it3 hB3 hBv3 hset HF3 hst hby5 hlt5 hcs5 hcell5
                    go_wp2_with fail
                    refine (HSET.out).mono ?_
                    rintro e w4 ⟨rfl, hw4⟩
                    have hF4 := HFIN.out w4 hw4.symm
                    obtain ⟨bF4, hrel4⟩ := hF4
                    have HREL := Lib.hid hrel4
                    have TF := bF4.cells
                    clear e0 e1 e2 e3 e4 e5 hw4 hrel4 HFIN HSET
                    have hOpen := TF
                    simp only [Cells, blk, List.cons_append, List.nil_append, and_true, Nat.reduceAdd, Nat.add_zero, Nat.zero_add] at hOpen
                    obtain ⟨e0, e1, e2, e3, e4, e5⟩ := hOpen
                    clear TF bF4
                    go_wp2
                    obtain ⟨⟨k7, s7, bl7, a7, n7, c7, h1, _, h3⟩, hm7⟩ := HREL.out
                    exact ⟨⟨k7, s7, bl7, a7, n7, c7, h1, rfl, h3⟩, hm7⟩
                · have h88 := h88 hi6
                  rw [if_neg (by rintro ⟨h, _⟩; exact hi6 h)] at hst
                  rcases hs2 with rfl | rfl
                  · obtain ⟨y0, rl, rfl⟩ : ∃ y l, bl = y :: l := by
                      cases bl with
                      | nil => have := hbl'.out; simp at this; omega
                      | cons y l => exact ⟨y, l, rfl⟩
                    have hy0 : y0 < 256 := hlt5 y0 (by simp)
                    have q0 := hcs5 0 (.int .u8 (y0 : Int)) rfl
                    simp only [Nat.add_zero] at q0
                    have hvn : vnum ((y0 :: rl).take 1) = y0 := by simp [vnum]
                    have hNb : y0 < 65536 := by omega
                    rw [hvn] at hst
                    replace hr5 : ∀ W, (Instr.slice 26 (.slice (some ⟨b5, off5, none⟩) n' c') (some (.int .i64 1)) none none).run Try.prog W = .ok (.slice a5 (n' - 1) c5) W := hr5
                    go_upto_region 17 with fail
                    generalize hY : World.alloc _ _ = Y at HF3 ⊢
                    clear hY
                    obtain ⟨bF, bR3, bP3, it3, hB3, hBv3⟩ := HF3.out
                    have hset := set_k i hi7 (w.heap.size + 1) _ _ _ _ _ _ _ _ _ _ _ _ ((y0 : Nat) : Int) Y bP3
                    have HSET := Lib.hid hset
                    have d0 := (hB3.cell (p := ⟨b5, off5, none⟩) hb5).trans q0
                    have TF := bF.cells
                    have hOpen := TF
                    simp only [Cells, blk, List.cons_append, List.nil_append, and_true, Nat.reduceAdd, Nat.add_zero, Nat.zero_add] at hOpen
                    obtain ⟨e0, e1, e2, e3, e4, e5⟩ := hOpen
                    have hpos : (0 : Int) < (n' : Int) := by omega
                    have h516 : n' - 1 ≤ 516 := Nat.le_trans (Nat.sub_le _ _) hn'
                    have w0 : IntKind.i64.wrap (y0 : Int) = (y0 : Int) := IntWalk.i64_in _ (by omega)
                    have HFIN : Hid (∀ Z, Y.setCell ⟨w.heap.size + 1, fo i, none⟩ (fv i ((y0 : Nat) : Int)) = Z → (Blk Z w2.heap.size 55 [.string (strB [le i]), .int .i64 ((1 : Nat) : Int), .func (.func (fz i)) #[] #[], .func (.func (fk i)) #[] #[], .func (.func (fg i)) #[] #[], .func (.func (ft i)) #[] #[]]) ∧ ((∃ (k : Nat) (s : Nm) (bl : List Nat) (a' : Option Addr) (n'' c' : Nat), Value.slice a5 (n' - 1) c5 = .slice a' n'' c' ∧ Value.string { data := #[] } = .string { data := #[] } ∧ k ≤ U ∧ n'' ≤ c' ∧ n'' ≤ 516 ∧ Hid (bl.length = n'') ∧ Hid (BytesAt w (.slice a' n'' c') bl) ∧ Hid (lps u nm0 r = lps (u.drop k) s bl) ∧ Z.heap[kb]? = some (.stringIter (strB u) k) ∧ Blk Z w.heap.size 29 [.int .i64 0, .int .i64 0, .int .u16 0, .int .u16 0, .int .u64 0, .int .u64 0, .int .i64 0, .int .i64 0, .int .i64 0, .bool false, .slice none 0 0, .slice none 0 0] ∧ Blk Z (w.heap.size + 1) 29 (pn x s) ∧ Below w.heap.size w Z ∧ Below V.heap.size V Z) ∧ U - Z.iterPos kb < U - wr.iterPos kb)) := Lib.hid (by
                      intro Z hZ
                      have itZ : Z.heap[kb]? = some (.stringIter (strB u) (k + 1)) := by rw [← hZ]; exact (Below.heap_setCell Y ⟨w.heap.size + 1, fo i, none⟩ _ kb (show kb ≠ w.heap.size + 1 by omega)).trans it3
                      refine ⟨by rw [← hZ]; exact bF.other (show w2.heap.size ≠ w.heap.size + 1 by omega) _, ⟨k + 1, setN s i (y0), _, a5, n' - 1, c5, rfl, rfl, hlt, hc5, h516, Lib.hid (by rw [List.length_drop, hbl'.out]), Lib.hid hby5, Lib.hid hst, itZ, by rw [← hZ]; exact bR3.other (show w.heap.size ≠ w.heap.size + 1 by omega) _, ?_, by rw [← hZ]; exact hB3.setCell (p := ⟨w.heap.size + 1, fo i, none⟩) (by simp) _, by rw [← hZ]; exact hBv3.setCell (p := ⟨w.heap.size + 1, fo i, none⟩) (show V.heap.size ≤ w.heap.size + 1 from Nat.le_of_eq hVs) _⟩, ?_⟩
                      · rw [← hZ]
                        have := bP3.setAt (j := fo i) (fv i ((y0 : Nat) : Int))
                        rwa [pn_set x s i (y0) hi7 hNb] at this
                      · rw [HMEAS.out, iterPos_of itZ]
                        omega)
                    clear TF bF bR3 bP3 it3 hB3 hBv3 hset HF3 hst hby5 hlt5 hcs5 hcell5
                    go_wp2_with fail
                    refine (HSET.out).mono ?_
                    rintro e w4 ⟨rfl, hw4⟩
                    have hF4 := HFIN.out w4 hw4.symm
                    obtain ⟨bF4, hrel4⟩ := hF4
                    have HREL := Lib.hid hrel4
                    have TF := bF4.cells
                    clear e0 e1 e2 e3 e4 e5 hw4 hrel4 HFIN HSET
                    have hOpen := TF
                    simp only [Cells, blk, List.cons_append, List.nil_append, and_true, Nat.reduceAdd, Nat.add_zero, Nat.zero_add] at hOpen
                    obtain ⟨e0, e1, e2, e3, e4, e5⟩ := hOpen
                    clear TF bF4
                    go_wp2
                    obtain ⟨⟨k7, s7, bl7, a7, n7, c7, h1, _, h3⟩, hm7⟩ := HREL.out
                    exact ⟨⟨k7, s7, bl7, a7, n7, c7, h1, rfl, h3⟩, hm7⟩
                  · obtain ⟨y0, y1, rl, rfl⟩ := list_ge2 bl (by rw [hbl'.out]; omega)
                    have hy0 : y0 < 256 := hlt5 y0 (by simp)
                    have hy1 : y1 < 256 := hlt5 y1 (by simp)
                    have q0 := hcs5 0 (.int .u8 (y0 : Int)) rfl
                    have q1 := hcs5 1 (.int .u8 (y1 : Int)) rfl
                    simp only [Nat.add_zero] at q0
                    obtain ⟨NV, hvn⟩ : ∃ v, vnum ((y0 :: y1 :: rl).take 2) = v := ⟨_, rfl⟩
                    have hor : bits .or .i64 (y0 : Int) ((y1 : Int) * 256) = ((NV : Nat) : Int) := by rw [or16_i64 y0 y1 hy0 hy1, ← hvn]; rfl
                    have hNV2 := vnum2_lt (y0 :: y1 :: rl) hlt5
                    rw [hvn] at hNV2
                    have hNb : NV < 65536 := by exact hNV2
                    rw [hvn] at hst
                    replace hr5 : ∀ W, (Instr.slice 26 (.slice (some ⟨b5, off5, none⟩) n' c') (some (.int .i64 2)) none none).run Try.prog W = .ok (.slice a5 (n' - 2) c5) W := hr5
                    go_upto_region 17 with fail
                    generalize hY : World.alloc _ _ = Y at HF3 ⊢
                    clear hY
                    obtain ⟨bF, bR3, bP3, it3, hB3, hBv3⟩ := HF3.out
                    have hset := set_k i hi7 (w.heap.size + 1) _ _ _ _ _ _ _ _ _ _ _ _ ((NV : Nat) : Int) Y bP3
                    have HSET := Lib.hid hset
                    have d0 := (hB3.cell (p := ⟨b5, off5, none⟩) hb5).trans q0
                    have d1 := (hB3.cell (p := ⟨b5, off5 + 1, none⟩) hb5).trans q1
                    have TF := bF.cells
                    have hOpen := TF
                    simp only [Cells, blk, List.cons_append, List.nil_append, and_true, Nat.reduceAdd, Nat.add_zero, Nat.zero_add] at hOpen
                    obtain ⟨e0, e1, e2, e3, e4, e5⟩ := hOpen
                    have hpos : (0 : Int) < (n' : Int) := by omega
                    have h516 : n' - 2 ≤ 516 := Nat.le_trans (Nat.sub_le _ _) hn'
                    have w0 : IntKind.i64.wrap (y0 : Int) = (y0 : Int) := IntWalk.i64_in _ (by omega)
                    have w1 : IntKind.i64.wrap (y1 : Int) = (y1 : Int) := IntWalk.i64_in _ (by omega)
                    have w2' : IntKind.i64.wrap ((y1 : Int) * 256) = (y1 : Int) * 256 := IntWalk.i64_in _ (by omega)
                    have hpos1 : (1 : Int) < (n' : Int) := by omega
                    have HFIN : Hid (∀ Z, Y.setCell ⟨w.heap.size + 1, fo i, none⟩ (fv i ((NV : Nat) : Int)) = Z → (Blk Z w2.heap.size 55 [.string (strB [le i]), .int .i64 ((2 : Nat) : Int), .func (.func (fz i)) #[] #[], .func (.func (fk i)) #[] #[], .func (.func (fg i)) #[] #[], .func (.func (ft i)) #[] #[]]) ∧ ((∃ (k : Nat) (s : Nm) (bl : List Nat) (a' : Option Addr) (n'' c' : Nat), Value.slice a5 (n' - 2) c5 = .slice a' n'' c' ∧ Value.string { data := #[] } = .string { data := #[] } ∧ k ≤ U ∧ n'' ≤ c' ∧ n'' ≤ 516 ∧ Hid (bl.length = n'') ∧ Hid (BytesAt w (.slice a' n'' c') bl) ∧ Hid (lps u nm0 r = lps (u.drop k) s bl) ∧ Z.heap[kb]? = some (.stringIter (strB u) k) ∧ Blk Z w.heap.size 29 [.int .i64 0, .int .i64 0, .int .u16 0, .int .u16 0, .int .u64 0, .int .u64 0, .int .i64 0, .int .i64 0, .int .i64 0, .bool false, .slice none 0 0, .slice none 0 0] ∧ Blk Z (w.heap.size + 1) 29 (pn x s) ∧ Below w.heap.size w Z ∧ Below V.heap.size V Z) ∧ U - Z.iterPos kb < U - wr.iterPos kb)) := Lib.hid (by
                      intro Z hZ
                      have itZ : Z.heap[kb]? = some (.stringIter (strB u) (k + 1)) := by rw [← hZ]; exact (Below.heap_setCell Y ⟨w.heap.size + 1, fo i, none⟩ _ kb (show kb ≠ w.heap.size + 1 by omega)).trans it3
                      refine ⟨by rw [← hZ]; exact bF.other (show w2.heap.size ≠ w.heap.size + 1 by omega) _, ⟨k + 1, setN s i (NV), _, a5, n' - 2, c5, rfl, rfl, hlt, hc5, h516, Lib.hid (by rw [List.length_drop, hbl'.out]), Lib.hid hby5, Lib.hid hst, itZ, by rw [← hZ]; exact bR3.other (show w.heap.size ≠ w.heap.size + 1 by omega) _, ?_, by rw [← hZ]; exact hB3.setCell (p := ⟨w.heap.size + 1, fo i, none⟩) (by simp) _, by rw [← hZ]; exact hBv3.setCell (p := ⟨w.heap.size + 1, fo i, none⟩) (show V.heap.size ≤ w.heap.size + 1 from Nat.le_of_eq hVs) _⟩, ?_⟩
                      · rw [← hZ]
                        have := bP3.setAt (j := fo i) (fv i ((NV : Nat) : Int))
                        rwa [pn_set x s i (NV) hi7 hNb] at this
                      · rw [HMEAS.out, iterPos_of itZ]
                        omega)
                    clear TF bF bR3 bP3 it3 hB3 hBv3 hset HF3 hst hby5 hlt5 hcs5 hcell5
                    go_wp2_with fail
                    refine (HSET.out).mono ?_
                    rintro e w4 ⟨rfl, hw4⟩
                    have hF4 := HFIN.out w4 hw4.symm
                    obtain ⟨bF4, hrel4⟩ := hF4
                    have HREL := Lib.hid hrel4
                    have TF := bF4.cells
                    clear e0 e1 e2 e3 e4 e5 hw4 hrel4 HFIN HSET
                    have hOpen := TF
                    simp only [Cells, blk, List.cons_append, List.nil_append, and_true, Nat.reduceAdd, Nat.add_zero, Nat.zero_add] at hOpen
                    obtain ⟨e0, e1, e2, e3, e4, e5⟩ := hOpen
                    clear TF bF4
                    go_wp2
                    obtain ⟨⟨k7, s7, bl7, a7, n7, c7, h1, _, h3⟩, hm7⟩ := HREL.out
                    exact ⟨⟨k7, s7, bl7, a7, n7, c7, h1, rfl, h3⟩, hm7⟩
            · have hfr : fRow i = .agg #[.string { data := #[] }, .int .i64 0, .nilFunc, .nilFunc, .nilFunc, .nilFunc] := by unfold fRow; rw [if_neg hi7]
              have hd7 : decide (i < 7) = false := by simpa using hi7
              rw [hfr, hd7]
              clear hfr hd7
              have hst := HST.out
              rw [if_neg hi7] at hst
              have hde : decP (x :: r) = st2 x s (le i) bl := by rw [HDE.out, hst]; rfl
              have hnw : Below w2.heap.size w2 (w2.alloc (.cells #[.string { data := #[] }, .int .i64 0, .nilFunc, .nilFunc, .nilFunc, .nilFunc] 55)) := (Below.refl _ _).alloc (Nat.le_refl _) _
              have bP3 := HP.out.below hnw
              have hBv3 := HBv.out.trans (hnw.mono HBv.out.size)
              have HF3 := Lib.hid (And.intro bP3 hBv3)
              have HKI : Hid (i = 9 → (x : Int) = 5 ∨ (x : Int) = 9 ∨ (x : Int) = 17) := Lib.hid (fun h => fldC_I x u HFL.out (by rw [h] at hmemu; exact hmemu))
              clear bP3 hBv3 hnw HR HP HIT HBr HBv HST hst
              rcases (show i = 7 ∨ i = 8 ∨ i = 9 by omega) with rfl | rfl | rfl
              · have hle : le 7 = 84 := rfl
                rw [hle] at hde ⊢
                have hcv : ∀ W, (convert 21 9 (.int .i32 84)).run Try.prog W = .ok (.string { data := #[84] }) W := fun W => conv_le 7 (by decide) W
                go_upto_region 26 with fail
                generalize hY : World.alloc _ _ = Y at HF3 ⊢
                clear hY
                obtain ⟨bP3, hBv3⟩ := HF3.out
                have hrem := rem_T V (w.heap.size + 1) x s.ak s.ha s.la s.of s.mt s.co s.cm Y hBv3 (Nat.le_of_eq hVs) bP3 a' n' c' bl (hby.out.below HB0.out) hbl'.out hc' (by omega)
                have HREM := Lib.hid hrem
                clear hrem bP3 hBv3 HF3
                go_wp2_with fail
                refine HREM.out.mono ?_
                rintro e w3 ⟨rfl, hBv4, bP4⟩
                obtain ⟨⟨D1, D2, E⟩, hD⟩ : ∃ D, decR bl = D := ⟨_, rfl⟩
                simp only [hD] at bP4 ⊢
                have hE : remE x 84 bl = E := by simp [remE, hD]
                have hg : ∃ (hi lo : Nat) (av : Option Addr) (nv cv : Nat) (bsv : List Nat) (L : Value) (m : Nat) (its : List It), Blk w3 (w.heap.size + 1) 29 [.int .i64 x, .int .i64 s.ak, .int .u16 s.ha, .int .u16 s.la, .int .u64 hi, .int .u64 lo, .int .i64 s.of, .int .i64 s.mt, .int .i64 s.co, .bool s.cm, .slice av nv cv, L] ∧
                    w3.ownsRow V.heap.size 5 1 (.slice av nv cv) nv (bcells bsv) ∧ w3.ownsRow V.heap.size 46 5 L m (its.flatMap itc) ∧ (∀ t ∈ its, ItOwn w3 V.heap.size t) ∧ bsv.length = nv ∧ nv ≤ 1000 ∧ (∀ z ∈ bsv, z < 256) ∧ its.length = m ∧ m ≤ 1000 ∧ (E = 0 → pdOf x s 84 bl = ⟨x, s, hi, lo, bsv, its.map dat⟩) ∧ (E = 0 → ∀ t ∈ its, t.n ≤ 1000000) :=
                  ⟨D1, D2, none, 0, 0, [], .slice none 0 0, 0, [], bP4, (by simpa [bcells] using World.ownsRow_nil w3 V.heap.size 5 1), (by simpa using World.ownsRow_nil w3 V.heap.size 46 5), by simp, rfl, by decide, by simp, rfl, by decide, fun _ => by simp [pdOf, hD], fun _ => by simp⟩
                clear hD bP4
                obtain ⟨hi, lo, av, nv, cv, bsv, L, m, its, bP4, hvo, hlo, hio, hnv, hnvb, hblt, hml, hmb, hpd, hnb⟩ := hg
                -- world w3; hBv4 : Below V.. V w3; bP4; E; hE : remE x c bl = E; hpd; hvo, hlo, hio, hnv, hml, hmb
                have bR4 := HBR0.out.below hBv4
                have hB4 := HB0.out.trans (hBv4.mono HB0.out.size)
                have hvl : ∀ t ∈ its, t.bs.length = t.n := fun t ht => (hio t ht).2.2.2.2.1
                have hst2 := st2_of x s 84 bl E hi lo nv m bsv its hE hpd hnv hml hvl
                by_cases hE0 : E = 0
                · have hnb2 : ∀ t ∈ its, t.n ≤ 1000000 := hnb hE0
                  have hits := items_of_own hml hmb hlo hio hnb2
                  obtain ⟨al, d, rfl⟩ := own_slice hlo
                  have hck := check_any x s.ak s.ha s.la hi lo s.of s.mt s.co s.cm av al nv cv m d its w3 hits hmb (fun t ht => by have := hnb2 t ht; omega)
                  rw [if_neg (by simpa using hE0)] at hst2
                  obtain ⟨CK, hCK⟩ : ∃ C, chkP x s.ak s.ha s.la hi lo s.of s.mt s.co s.cm nv m its = C := ⟨_, rfl⟩
                  rw [hCK] at hst2 hck
                  subst hE0
                  have HCK := Lib.hid hck
                  have HST2 := Lib.hid hst2
                  have HO := Lib.hid (And.intro hvo (And.intro hlo (And.intro hio hnb2)))
                  have T0 := bP4.cells
                  have hOpen := T0
                  simp only [Cells, blk, List.cons_append, List.nil_append, and_true, Nat.reduceAdd, Nat.add_zero, Nat.zero_add] at hOpen
                  obtain ⟨y0, y1, y2, y3, y4, y5, y6, y7, y8, y9, yA, yB⟩ := hOpen
                  have HP4 := Lib.hid bP4
                  have HR4 := Lib.hid bR4
                  have HB4 := Lib.hid hB4
                  clear hck hst2 T0 bP4 bR4 hB4 hits hvo hlo hio hnb hnb2 hpd hCK hE hvl
                  go_wp2_with fail
                  refine HCK.out.mono ?_
                  rintro e w5 ⟨rfl, hB5'⟩
                  have bP5 := HP4.out.below hB5'
                  have bR5 := HR4.out.below hB5'
                  have hB5 := HB4.out.trans (hB5'.mono HB4.out.size)
                  have HB5' := Lib.hid hB5'
                  clear hB5' HP4 HR4 HB4 HCK y0 y1 y2 y3 y4 y5 y6 y7 y8 y9 yA yB
                  by_cases hC0 : CK = 0
                  · subst hC0
                    have hde2 := hde.trans HST2.out
                    rw [if_neg (by decide)] at hde2
                    have T0 := bP5.cells
                    have hOpen := T0
                    simp only [Cells, blk, List.cons_append, List.nil_append, and_true, Nat.reduceAdd, Nat.add_zero, Nat.zero_add] at hOpen
                    obtain ⟨y0, y1, y2, y3, y4, y5, y6, y7, y8, y9, yA, yB⟩ := hOpen
                    clear T0
                    go_upto_region 32 with fail
                    have TR := bR5.cells
                    have hOpen := TR
                    simp only [Cells, blk, List.cons_append, List.nil_append, and_true, Nat.reduceAdd, Nat.add_zero, Nat.zero_add] at hOpen
                    obtain ⟨s0, s1, s2, s3, s4, s5, s6, s7, s8, s9, sA, sB⟩ := hOpen
                    have g0 := bR5.frozen 0
                    have g1 := bR5.frozen 1
                    have g2 := bR5.frozen 2
                    have g3 := bR5.frozen 3
                    have g4 := bR5.frozen 4
                    have g5 := bR5.frozen 5
                    have g6 := bR5.frozen 6
                    have g7 := bR5.frozen 7
                    have g8 := bR5.frozen 8
                    have g9 := bR5.frozen 9
                    have gA := bR5.frozen 10
                    have gB := bR5.frozen 11
                    obtain ⟨b12, h12, o12⟩ := set12 bR5 (.int .i64 x) (.int .i64 s.ak) (.int .u16 s.ha) (.int .u16 s.la) (.int .u64 hi) (.int .u64 lo) (.int .i64 s.of) (.int .i64 s.mt) (.int .i64 s.co) (.bool s.cm) (.slice av nv cv) (.slice al m d)
                    have hvo5 := o12 _ _ _ _ _ _ (by decide) (own_below HO.out.1 HB5'.out)
                    have hlo5 := o12 _ _ _ _ _ _ (by decide) (own_below HO.out.2.1 HB5'.out)
                    have hio5 := fun t ht => let h := (HO.out.2.2.1 t ht).below HB5'.out; (show ItOwn _ V.heap.size t from ⟨h.1, h.2.1, h.2.2.1, h.2.2.2.1, h.2.2.2.2.1, h.2.2.2.2.2.1, o12 _ _ _ _ _ _ (by decide) h.2.2.2.2.2.2⟩)
                    have HFI := Lib.hid (items_of_own hml hmb hlo5 hio5 HO.out.2.2.2)
                    have HFV := Lib.hid (bytesAt_of_own hvo5 hnv hblt (by omega))
                    have HFB := Lib.hid (h12 w.heap.size w (Nat.le_refl _) hB5)
                    obtain ⟨r0, r1, r2, r3, r4, r5, r6, r7, r8, r9, rA, rB, _⟩ := b12.cells
                    simp only [Nat.zero_add, Nat.add_zero] at r0 r1 r2 r3 r4 r5 r6 r7 r8 r9 rA rB
                    clear TR b12 h12 o12 hvo5 hlo5 hio5
                    go_wp2
                    refine bodyPost_ret (v := .tuple #[.agg #[.int .i64 x, .int .i64 s.ak, .int .u16 s.ha, .int .u16 s.la, .int .u64 hi, .int .u64 lo, .int .i64 s.of, .int .i64 s.mt, .int .i64 s.co, .bool s.cm, .slice av nv cv, .slice al m d], .int .i64 0]) (by simp [results, Try.results17, go_sem, r0, r1, r2, r3, r4, r5, r6, r7, r8, r9, rA, rB]) rfl ?_
                    unfold DecPost
                    rw [hde2]
                    exact ⟨av, nv, cv, al, m, d, its, rfl, HFV.out, hnv, HFI.out, rfl, HFB.out⟩
                  · have g9 : (CK != 0) = true := by simpa using hC0
                    have hde2 : decP (x :: r) = (CK, pd0) := by rw [hde, HST2.out, if_pos hC0]
                    clear bP5
                    go_upto_region 31 with fail
                    have TR := bR5.cells
                    have hOpen := TR
                    simp only [Cells, blk, List.cons_append, List.nil_append, and_true, Nat.reduceAdd, Nat.add_zero, Nat.zero_add] at hOpen
                    obtain ⟨s0, s1, s2, s3, s4, s5, s6, s7, s8, s9, sA, sB⟩ := hOpen
                    have g0 := bR5.frozen 0
                    have g1 := bR5.frozen 1
                    have g2 := bR5.frozen 2
                    have g3 := bR5.frozen 3
                    have g4 := bR5.frozen 4
                    have g5 := bR5.frozen 5
                    have g6 := bR5.frozen 6
                    have g7 := bR5.frozen 7
                    have g8 := bR5.frozen 8
                    have g9 := bR5.frozen 9
                    have gA := bR5.frozen 10
                    have gB := bR5.frozen 11
                    obtain ⟨b12, h12, _⟩ := set12 bR5 (.int .i64 0) (.int .i64 0) (.int .u16 0) (.int .u16 0) (.int .u64 0) (.int .u64 0) (.int .i64 0) (.int .i64 0) (.int .i64 0) (.bool false) (.slice none 0 0) (.slice none 0 0)
                    have HF := Lib.hid (h12 w.heap.size w (by simp) hB5)
                    obtain ⟨r0, r1, r2, r3, r4, r5, r6, r7, r8, r9, rA, rB, _⟩ := b12.cells
                    simp only [Nat.zero_add, Nat.add_zero] at r0 r1 r2 r3 r4 r5 r6 r7 r8 r9 rA rB
                    clear TR b12 h12
                    go_wp2
                    refine bodyPost_ret (v := .tuple #[.agg #[.int .i64 0, .int .i64 0, .int .u16 0, .int .u16 0, .int .u64 0, .int .u64 0, .int .i64 0, .int .i64 0, .int .i64 0, .bool false, .slice none 0 0, .slice none 0 0], .int .i64 CK]) (by simp [results, Try.results17, go_sem, r0, r1, r2, r3, r4, r5, r6, r7, r8, r9, rA, rB]) rfl ?_
                    exact decPost_zero hde2 HF.out
                · have hde2 : decP (x :: r) = (E, pd0) := by rw [hde, hst2, if_pos hE0]
                  have g9 : (E != 0) = true := by simpa using hE0
                  clear bP4 hst2 hvo hlo hio hpd hvl
                  go_upto_region 28 with fail
                  have TR := bR4.cells
                  have hOpen := TR
                  simp only [Cells, blk, List.cons_append, List.nil_append, and_true, Nat.reduceAdd, Nat.add_zero, Nat.zero_add] at hOpen
                  obtain ⟨s0, s1, s2, s3, s4, s5, s6, s7, s8, s9, sA, sB⟩ := hOpen
                  have g0 := bR4.frozen 0
                  have g1 := bR4.frozen 1
                  have g2 := bR4.frozen 2
                  have g3 := bR4.frozen 3
                  have g4 := bR4.frozen 4
                  have g5 := bR4.frozen 5
                  have g6 := bR4.frozen 6
                  have g7 := bR4.frozen 7
                  have g8 := bR4.frozen 8
                  have g9 := bR4.frozen 9
                  have gA := bR4.frozen 10
                  have gB := bR4.frozen 11
                  obtain ⟨b12, h12, _⟩ := set12 bR4 (.int .i64 0) (.int .i64 0) (.int .u16 0) (.int .u16 0) (.int .u64 0) (.int .u64 0) (.int .i64 0) (.int .i64 0) (.int .i64 0) (.bool false) (.slice none 0 0) (.slice none 0 0)
                  have HF := Lib.hid (h12 w.heap.size w (by simp) hB4)
                  obtain ⟨r0, r1, r2, r3, r4, r5, r6, r7, r8, r9, rA, rB, _⟩ := b12.cells
                  simp only [Nat.zero_add, Nat.add_zero] at r0 r1 r2 r3 r4 r5 r6 r7 r8 r9 rA rB
                  clear TR b12 h12
                  go_wp2
                  refine bodyPost_ret (v := .tuple #[.agg #[.int .i64 0, .int .i64 0, .int .u16 0, .int .u16 0, .int .u64 0, .int .u64 0, .int .i64 0, .int .i64 0, .int .i64 0, .bool false, .slice none 0 0, .slice none 0 0], .int .i64 E]) (by simp [results, Try.results17, go_sem, r0, r1, r2, r3, r4, r5, r6, r7, r8, r9, rA, rB]) rfl ?_
                  exact decPost_zero hde2 HF.out
              · have hle : le 8 = 86 := rfl
                rw [hle] at hde ⊢
                have hcv : ∀ W, (convert 21 9 (.int .i32 86)).run Try.prog W = .ok (.string { data := #[86] }) W := fun W => conv_le 8 (by decide) W
                go_upto_region 26 with fail
                generalize hY : World.alloc _ _ = Y at HF3 ⊢
                clear hY
                obtain ⟨bP3, hBv3⟩ := HF3.out
                have hrem : Calls Try.prog 38 #[.pointer (some ⟨w.heap.size + 1, 0, none⟩), .string { data := #[86] }, .slice a' n' c'] Y (fun e w3 => ∃ (E : Int) (a9 : Option Addr) (c9 : Nat), E = 0 ∧ e = .returned (.int .i64 E) ∧ Below V.heap.size V w3 ∧ Blk w3 (w.heap.size + 1) 29 [.int .i64 x, .int .i64 s.ak, .int .u16 s.ha, .int .u16 s.la, .int .u64 0, .int .u64 0, .int .i64 s.of, .int .i64 s.mt, .int .i64 s.co, .bool s.cm, .slice a9 n' c9, .slice none 0 0] ∧ w3.ownsRow V.heap.size 5 1 (.slice a9 n' c9) n' (bcells bl)) := (rem_V V (w.heap.size + 1) x s.ak s.ha s.la s.of s.mt s.co s.cm Y hBv3 (Nat.le_of_eq hVs) bP3 a' n' c' bl (hby.out.below HB0.out) hbl'.out hc' (by omega)).mono (fun e w3 ⟨a9, c9, h1, h2, h3, h4⟩ => ⟨0, a9, c9, rfl, h1, h2, h3, h4⟩)
                have HREM := Lib.hid hrem
                clear hrem bP3 hBv3 HF3
                go_wp2_with fail
                refine HREM.out.mono ?_
                rintro e w3 ⟨E, a9, c9, hEz, rfl, hBv4, bP4, hown⟩
                have hE : remE x 86 bl = E := by rw [hEz]; rfl
                have hg : ∃ (hi lo : Nat) (av : Option Addr) (nv cv : Nat) (bsv : List Nat) (L : Value) (m : Nat) (its : List It), Blk w3 (w.heap.size + 1) 29 [.int .i64 x, .int .i64 s.ak, .int .u16 s.ha, .int .u16 s.la, .int .u64 hi, .int .u64 lo, .int .i64 s.of, .int .i64 s.mt, .int .i64 s.co, .bool s.cm, .slice av nv cv, L] ∧
                    w3.ownsRow V.heap.size 5 1 (.slice av nv cv) nv (bcells bsv) ∧ w3.ownsRow V.heap.size 46 5 L m (its.flatMap itc) ∧ (∀ t ∈ its, ItOwn w3 V.heap.size t) ∧ bsv.length = nv ∧ nv ≤ 1000 ∧ (∀ z ∈ bsv, z < 256) ∧ its.length = m ∧ m ≤ 1000 ∧ (E = 0 → pdOf x s 86 bl = ⟨x, s, hi, lo, bsv, its.map dat⟩) ∧ (E = 0 → ∀ t ∈ its, t.n ≤ 1000000) :=
                  ⟨0, 0, a9, n', c9, bl, .slice none 0 0, 0, [], bP4, hown, (by simpa using World.ownsRow_nil w3 V.heap.size 46 5), by simp, hbl'.out, by omega, hby.out.2.2, rfl, by decide, fun _ => by simp [pdOf], fun _ => by simp⟩
                clear bP4 hown hEz
                obtain ⟨hi, lo, av, nv, cv, bsv, L, m, its, bP4, hvo, hlo, hio, hnv, hnvb, hblt, hml, hmb, hpd, hnb⟩ := hg
                -- world w3; hBv4 : Below V.. V w3; bP4; E; hE : remE x c bl = E; hpd; hvo, hlo, hio, hnv, hml, hmb
                have bR4 := HBR0.out.below hBv4
                have hB4 := HB0.out.trans (hBv4.mono HB0.out.size)
                have hvl : ∀ t ∈ its, t.bs.length = t.n := fun t ht => (hio t ht).2.2.2.2.1
                have hst2 := st2_of x s 86 bl E hi lo nv m bsv its hE hpd hnv hml hvl
                by_cases hE0 : E = 0
                · have hnb2 : ∀ t ∈ its, t.n ≤ 1000000 := hnb hE0
                  have hits := items_of_own hml hmb hlo hio hnb2
                  obtain ⟨al, d, rfl⟩ := own_slice hlo
                  have hck := check_any x s.ak s.ha s.la hi lo s.of s.mt s.co s.cm av al nv cv m d its w3 hits hmb (fun t ht => by have := hnb2 t ht; omega)
                  rw [if_neg (by simpa using hE0)] at hst2
                  obtain ⟨CK, hCK⟩ : ∃ C, chkP x s.ak s.ha s.la hi lo s.of s.mt s.co s.cm nv m its = C := ⟨_, rfl⟩
                  rw [hCK] at hst2 hck
                  subst hE0
                  have HCK := Lib.hid hck
                  have HST2 := Lib.hid hst2
                  have HO := Lib.hid (And.intro hvo (And.intro hlo (And.intro hio hnb2)))
                  have T0 := bP4.cells
                  have hOpen := T0
                  simp only [Cells, blk, List.cons_append, List.nil_append, and_true, Nat.reduceAdd, Nat.add_zero, Nat.zero_add] at hOpen
                  obtain ⟨y0, y1, y2, y3, y4, y5, y6, y7, y8, y9, yA, yB⟩ := hOpen
                  have HP4 := Lib.hid bP4
                  have HR4 := Lib.hid bR4
                  have HB4 := Lib.hid hB4
                  clear hck hst2 T0 bP4 bR4 hB4 hits hvo hlo hio hnb hnb2 hpd hCK hE hvl
                  go_wp2_with fail
                  refine HCK.out.mono ?_
                  rintro e w5 ⟨rfl, hB5'⟩
                  have bP5 := HP4.out.below hB5'
                  have bR5 := HR4.out.below hB5'
                  have hB5 := HB4.out.trans (hB5'.mono HB4.out.size)
                  have HB5' := Lib.hid hB5'
                  clear hB5' HP4 HR4 HB4 HCK y0 y1 y2 y3 y4 y5 y6 y7 y8 y9 yA yB
                  by_cases hC0 : CK = 0
                  · subst hC0
                    have hde2 := hde.trans HST2.out
                    rw [if_neg (by decide)] at hde2
                    have T0 := bP5.cells
                    have hOpen := T0
                    simp only [Cells, blk, List.cons_append, List.nil_append, and_true, Nat.reduceAdd, Nat.add_zero, Nat.zero_add] at hOpen
                    obtain ⟨y0, y1, y2, y3, y4, y5, y6, y7, y8, y9, yA, yB⟩ := hOpen
                    clear T0
                    go_upto_region 32 with fail
                    have TR := bR5.cells
                    have hOpen := TR
                    simp only [Cells, blk, List.cons_append, List.nil_append, and_true, Nat.reduceAdd, Nat.add_zero, Nat.zero_add] at hOpen
                    obtain ⟨s0, s1, s2, s3, s4, s5, s6, s7, s8, s9, sA, sB⟩ := hOpen
                    have g0 := bR5.frozen 0
                    have g1 := bR5.frozen 1
                    have g2 := bR5.frozen 2
                    have g3 := bR5.frozen 3
                    have g4 := bR5.frozen 4
                    have g5 := bR5.frozen 5
                    have g6 := bR5.frozen 6
                    have g7 := bR5.frozen 7
                    have g8 := bR5.frozen 8
                    have g9 := bR5.frozen 9
                    have gA := bR5.frozen 10
                    have gB := bR5.frozen 11
                    obtain ⟨b12, h12, o12⟩ := set12 bR5 (.int .i64 x) (.int .i64 s.ak) (.int .u16 s.ha) (.int .u16 s.la) (.int .u64 hi) (.int .u64 lo) (.int .i64 s.of) (.int .i64 s.mt) (.int .i64 s.co) (.bool s.cm) (.slice av nv cv) (.slice al m d)
                    have hvo5 := o12 _ _ _ _ _ _ (by decide) (own_below HO.out.1 HB5'.out)
                    have hlo5 := o12 _ _ _ _ _ _ (by decide) (own_below HO.out.2.1 HB5'.out)
                    have hio5 := fun t ht => let h := (HO.out.2.2.1 t ht).below HB5'.out; (show ItOwn _ V.heap.size t from ⟨h.1, h.2.1, h.2.2.1, h.2.2.2.1, h.2.2.2.2.1, h.2.2.2.2.2.1, o12 _ _ _ _ _ _ (by decide) h.2.2.2.2.2.2⟩)
                    have HFI := Lib.hid (items_of_own hml hmb hlo5 hio5 HO.out.2.2.2)
                    have HFV := Lib.hid (bytesAt_of_own hvo5 hnv hblt (by omega))
                    have HFB := Lib.hid (h12 w.heap.size w (Nat.le_refl _) hB5)
                    obtain ⟨r0, r1, r2, r3, r4, r5, r6, r7, r8, r9, rA, rB, _⟩ := b12.cells
                    simp only [Nat.zero_add, Nat.add_zero] at r0 r1 r2 r3 r4 r5 r6 r7 r8 r9 rA rB
                    clear TR b12 h12 o12 hvo5 hlo5 hio5
                    go_wp2
                    refine bodyPost_ret (v := .tuple #[.agg #[.int .i64 x, .int .i64 s.ak, .int .u16 s.ha, .int .u16 s.la, .int .u64 hi, .int .u64 lo, .int .i64 s.of, .int .i64 s.mt, .int .i64 s.co, .bool s.cm, .slice av nv cv, .slice al m d], .int .i64 0]) (by simp [results, Try.results17, go_sem, r0, r1, r2, r3, r4, r5, r6, r7, r8, r9, rA, rB]) rfl ?_
                    unfold DecPost
                    rw [hde2]
                    exact ⟨av, nv, cv, al, m, d, its, rfl, HFV.out, hnv, HFI.out, rfl, HFB.out⟩
                  · have g9 : (CK != 0) = true := by simpa using hC0
                    have hde2 : decP (x :: r) = (CK, pd0) := by rw [hde, HST2.out, if_pos hC0]
                    clear bP5
                    go_upto_region 31 with fail
                    have TR := bR5.cells
                    have hOpen := TR
                    simp only [Cells, blk, List.cons_append, List.nil_append, and_true, Nat.reduceAdd, Nat.add_zero, Nat.zero_add] at hOpen
                    obtain ⟨s0, s1, s2, s3, s4, s5, s6, s7, s8, s9, sA, sB⟩ := hOpen
                    have g0 := bR5.frozen 0
                    have g1 := bR5.frozen 1
                    have g2 := bR5.frozen 2
                    have g3 := bR5.frozen 3
                    have g4 := bR5.frozen 4
                    have g5 := bR5.frozen 5
                    have g6 := bR5.frozen 6
                    have g7 := bR5.frozen 7
                    have g8 := bR5.frozen 8
                    have g9 := bR5.frozen 9
                    have gA := bR5.frozen 10
                    have gB := bR5.frozen 11
                    obtain ⟨b12, h12, _⟩ := set12 bR5 (.int .i64 0) (.int .i64 0) (.int .u16 0) (.int .u16 0) (.int .u64 0) (.int .u64 0) (.int .i64 0) (.int .i64 0) (.int .i64 0) (.bool false) (.slice none 0 0) (.slice none 0 0)
                    have HF := Lib.hid (h12 w.heap.size w (by simp) hB5)
                    obtain ⟨r0, r1, r2, r3, r4, r5, r6, r7, r8, r9, rA, rB, _⟩ := b12.cells
                    simp only [Nat.zero_add, Nat.add_zero] at r0 r1 r2 r3 r4 r5 r6 r7 r8 r9 rA rB
                    clear TR b12 h12
                    go_wp2
                    refine bodyPost_ret (v := .tuple #[.agg #[.int .i64 0, .int .i64 0, .int .u16 0, .int .u16 0, .int .u64 0, .int .u64 0, .int .i64 0, .int .i64 0, .int .i64 0, .bool false, .slice none 0 0, .slice none 0 0], .int .i64 CK]) (by simp [results, Try.results17, go_sem, r0, r1, r2, r3, r4, r5, r6, r7, r8, r9, rA, rB]) rfl ?_
                    exact decPost_zero hde2 HF.out
                · have hde2 : decP (x :: r) = (E, pd0) := by rw [hde, hst2, if_pos hE0]
                  have g9 : (E != 0) = true := by simpa using hE0
                  clear bP4 hst2 hvo hlo hio hpd hvl
                  go_upto_region 28 with fail
                  have TR := bR4.cells
                  have hOpen := TR
                  simp only [Cells, blk, List.cons_append, List.nil_append, and_true, Nat.reduceAdd, Nat.add_zero, Nat.zero_add] at hOpen
                  obtain ⟨s0, s1, s2, s3, s4, s5, s6, s7, s8, s9, sA, sB⟩ := hOpen
                  have g0 := bR4.frozen 0
                  have g1 := bR4.frozen 1
                  have g2 := bR4.frozen 2
                  have g3 := bR4.frozen 3
                  have g4 := bR4.frozen 4
                  have g5 := bR4.frozen 5
                  have g6 := bR4.frozen 6
                  have g7 := bR4.frozen 7
                  have g8 := bR4.frozen 8
                  have g9 := bR4.frozen 9
                  have gA := bR4.frozen 10
                  have gB := bR4.frozen 11
                  obtain ⟨b12, h12, _⟩ := set12 bR4 (.int .i64 0) (.int .i64 0) (.int .u16 0) (.int .u16 0) (.int .u64 0) (.int .u64 0) (.int .i64 0) (.int .i64 0) (.int .i64 0) (.bool false) (.slice none 0 0) (.slice none 0 0)
                  have HF := Lib.hid (h12 w.heap.size w (by simp) hB4)
                  obtain ⟨r0, r1, r2, r3, r4, r5, r6, r7, r8, r9, rA, rB, _⟩ := b12.cells
                  simp only [Nat.zero_add, Nat.add_zero] at r0 r1 r2 r3 r4 r5 r6 r7 r8 r9 rA rB
                  clear TR b12 h12
                  go_wp2
                  refine bodyPost_ret (v := .tuple #[.agg #[.int .i64 0, .int .i64 0, .int .u16 0, .int .u16 0, .int .u64 0, .int .u64 0, .int .i64 0, .int .i64 0, .int .i64 0, .bool false, .slice none 0 0, .slice none 0 0], .int .i64 E]) (by simp [results, Try.results17, go_sem, r0, r1, r2, r3, r4, r5, r6, r7, r8, r9, rA, rB]) rfl ?_
                  exact decPost_zero hde2 HF.out
              · have hle : le 9 = 73 := rfl
                rw [hle] at hde ⊢
                have hcv : ∀ W, (convert 21 9 (.int .i32 73)).run Try.prog W = .ok (.string { data := #[73] }) W := fun W => conv_le 9 (by decide) W
                go_upto_region 26 with fail
                generalize hY : World.alloc _ _ = Y at HF3 ⊢
                clear hY
                obtain ⟨bP3, hBv3⟩ := HF3.out
                have hrem := rem_I V (w.heap.size + 1) x s.ak s.ha s.la s.of s.mt s.co s.cm Y hBv3 (Nat.le_of_eq hVs) bP3 a' n' c' bl (hby.out.below HB0.out) hbl'.out hc' (by omega) (HKI.out (by trivial))
                have HREM := Lib.hid hrem
                clear hrem bP3 hBv3 HF3
                go_wp2_with fail
                refine HREM.out.mono ?_
                rintro e w3 ⟨E, m, L, its, rfl, hBv4, hE', hdt, bP4, hml, hmb, hlo, hio⟩
                have hE : remE x 73 bl = E := by rw [hE']; rfl
                have hg : ∃ (hi lo : Nat) (av : Option Addr) (nv cv : Nat) (bsv : List Nat) (L : Value) (m : Nat) (its : List It), Blk w3 (w.heap.size + 1) 29 [.int .i64 x, .int .i64 s.ak, .int .u16 s.ha, .int .u16 s.la, .int .u64 hi, .int .u64 lo, .int .i64 s.of, .int .i64 s.mt, .int .i64 s.co, .bool s.cm, .slice av nv cv, L] ∧
                    w3.ownsRow V.heap.size 5 1 (.slice av nv cv) nv (bcells bsv) ∧ w3.ownsRow V.heap.size 46 5 L m (its.flatMap itc) ∧ (∀ t ∈ its, ItOwn w3 V.heap.size t) ∧ bsv.length = nv ∧ nv ≤ 1000 ∧ (∀ z ∈ bsv, z < 256) ∧ its.length = m ∧ m ≤ 1000 ∧ (E = 0 → pdOf x s 73 bl = ⟨x, s, hi, lo, bsv, its.map dat⟩) ∧ (E = 0 → ∀ t ∈ its, t.n ≤ 1000000) :=
                  ⟨0, 0, none, 0, 0, [], L, m, its, bP4, (by simpa [bcells] using World.ownsRow_nil w3 V.heap.size 5 1), hlo, hio, rfl, by decide, by simp, hml, hmb, fun h0 => by simp [pdOf, hdt h0], fun h0 t ht => by
                    have h1 : dat t ∈ lsL x bl := by rw [← hdt h0]; exact List.mem_map_of_mem ht
                    have h2 := lsL_len x bl _ h1
                    have h3 := (hio t ht).2.2.2.2.1
                    have h4 : (dat t).bs.length = t.bs.length := rfl
                    have h5 := hbl'.out
                    omega⟩
                clear bP4 hml hmb hlo hio hE' hdt
                obtain ⟨hi, lo, av, nv, cv, bsv, L, m, its, bP4, hvo, hlo, hio, hnv, hnvb, hblt, hml, hmb, hpd, hnb⟩ := hg
                -- world w3; hBv4 : Below V.. V w3; bP4; E; hE : remE x c bl = E; hpd; hvo, hlo, hio, hnv, hml, hmb
                have bR4 := HBR0.out.below hBv4
                have hB4 := HB0.out.trans (hBv4.mono HB0.out.size)
                have hvl : ∀ t ∈ its, t.bs.length = t.n := fun t ht => (hio t ht).2.2.2.2.1
                have hst2 := st2_of x s 73 bl E hi lo nv m bsv its hE hpd hnv hml hvl
                by_cases hE0 : E = 0
                · have hnb2 : ∀ t ∈ its, t.n ≤ 1000000 := hnb hE0
                  have hits := items_of_own hml hmb hlo hio hnb2
                  obtain ⟨al, d, rfl⟩ := own_slice hlo
                  have hck := check_any x s.ak s.ha s.la hi lo s.of s.mt s.co s.cm av al nv cv m d its w3 hits hmb (fun t ht => by have := hnb2 t ht; omega)
                  rw [if_neg (by simpa using hE0)] at hst2
                  obtain ⟨CK, hCK⟩ : ∃ C, chkP x s.ak s.ha s.la hi lo s.of s.mt s.co s.cm nv m its = C := ⟨_, rfl⟩
                  rw [hCK] at hst2 hck
                  subst hE0
                  have HCK := Lib.hid hck
                  have HST2 := Lib.hid hst2
                  have HO := Lib.hid (And.intro hvo (And.intro hlo (And.intro hio hnb2)))
                  have T0 := bP4.cells
                  have hOpen := T0
                  simp only [Cells, blk, List.cons_append, List.nil_append, and_true, Nat.reduceAdd, Nat.add_zero, Nat.zero_add] at hOpen
                  obtain ⟨y0, y1, y2, y3, y4, y5, y6, y7, y8, y9, yA, yB⟩ := hOpen
                  have HP4 := Lib.hid bP4
                  have HR4 := Lib.hid bR4
                  have HB4 := Lib.hid hB4
                  clear hck hst2 T0 bP4 bR4 hB4 hits hvo hlo hio hnb hnb2 hpd hCK hE hvl
                  go_wp2_with fail
                  refine HCK.out.mono ?_
                  rintro e w5 ⟨rfl, hB5'⟩
                  have bP5 := HP4.out.below hB5'
                  have bR5 := HR4.out.below hB5'
                  have hB5 := HB4.out.trans (hB5'.mono HB4.out.size)
                  have HB5' := Lib.hid hB5'
                  clear hB5' HP4 HR4 HB4 HCK y0 y1 y2 y3 y4 y5 y6 y7 y8 y9 yA yB
                  by_cases hC0 : CK = 0
                  · subst hC0
                    have hde2 := hde.trans HST2.out
                    rw [if_neg (by decide)] at hde2
                    have T0 := bP5.cells
                    have hOpen := T0
                    simp only [Cells, blk, List.cons_append, List.nil_append, and_true, Nat.reduceAdd, Nat.add_zero, Nat.zero_add] at hOpen
                    obtain ⟨y0, y1, y2, y3, y4, y5, y6, y7, y8, y9, yA, yB⟩ := hOpen
                    clear T0
                    go_upto_region 32 with fail
                    have TR := bR5.cells
                    have hOpen := TR
                    simp only [Cells, blk, List.cons_append, List.nil_append, and_true, Nat.reduceAdd, Nat.add_zero, Nat.zero_add] at hOpen
                    obtain ⟨s0, s1, s2, s3, s4, s5, s6, s7, s8, s9, sA, sB⟩ := hOpen
                    have g0 := bR5.frozen 0
                    have g1 := bR5.frozen 1
                    have g2 := bR5.frozen 2
                    have g3 := bR5.frozen 3
                    have g4 := bR5.frozen 4
                    have g5 := bR5.frozen 5
                    have g6 := bR5.frozen 6
                    have g7 := bR5.frozen 7
                    have g8 := bR5.frozen 8
                    have g9 := bR5.frozen 9
                    have gA := bR5.frozen 10
                    have gB := bR5.frozen 11
                    obtain ⟨b12, h12, o12⟩ := set12 bR5 (.int .i64 x) (.int .i64 s.ak) (.int .u16 s.ha) (.int .u16 s.la) (.int .u64 hi) (.int .u64 lo) (.int .i64 s.of) (.int .i64 s.mt) (.int .i64 s.co) (.bool s.cm) (.slice av nv cv) (.slice al m d)
                    have hvo5 := o12 _ _ _ _ _ _ (by decide) (own_below HO.out.1 HB5'.out)
                    have hlo5 := o12 _ _ _ _ _ _ (by decide) (own_below HO.out.2.1 HB5'.out)
                    have hio5 := fun t ht => let h := (HO.out.2.2.1 t ht).below HB5'.out; (show ItOwn _ V.heap.size t from ⟨h.1, h.2.1, h.2.2.1, h.2.2.2.1, h.2.2.2.2.1, h.2.2.2.2.2.1, o12 _ _ _ _ _ _ (by decide) h.2.2.2.2.2.2⟩)
                    have HFI := Lib.hid (items_of_own hml hmb hlo5 hio5 HO.out.2.2.2)
                    have HFV := Lib.hid (bytesAt_of_own hvo5 hnv hblt (by omega))
                    have HFB := Lib.hid (h12 w.heap.size w (Nat.le_refl _) hB5)
                    obtain ⟨r0, r1, r2, r3, r4, r5, r6, r7, r8, r9, rA, rB, _⟩ := b12.cells
                    simp only [Nat.zero_add, Nat.add_zero] at r0 r1 r2 r3 r4 r5 r6 r7 r8 r9 rA rB
                    clear TR b12 h12 o12 hvo5 hlo5 hio5
                    go_wp2
                    refine bodyPost_ret (v := .tuple #[.agg #[.int .i64 x, .int .i64 s.ak, .int .u16 s.ha, .int .u16 s.la, .int .u64 hi, .int .u64 lo, .int .i64 s.of, .int .i64 s.mt, .int .i64 s.co, .bool s.cm, .slice av nv cv, .slice al m d], .int .i64 0]) (by simp [results, Try.results17, go_sem, r0, r1, r2, r3, r4, r5, r6, r7, r8, r9, rA, rB]) rfl ?_
                    unfold DecPost
                    rw [hde2]
                    exact ⟨av, nv, cv, al, m, d, its, rfl, HFV.out, hnv, HFI.out, rfl, HFB.out⟩
                  · have g9 : (CK != 0) = true := by simpa using hC0
                    have hde2 : decP (x :: r) = (CK, pd0) := by rw [hde, HST2.out, if_pos hC0]
                    clear bP5
                    go_upto_region 31 with fail
                    have TR := bR5.cells
                    have hOpen := TR
                    simp only [Cells, blk, List.cons_append, List.nil_append, and_true, Nat.reduceAdd, Nat.add_zero, Nat.zero_add] at hOpen
                    obtain ⟨s0, s1, s2, s3, s4, s5, s6, s7, s8, s9, sA, sB⟩ := hOpen
                    have g0 := bR5.frozen 0
                    have g1 := bR5.frozen 1
                    have g2 := bR5.frozen 2
                    have g3 := bR5.frozen 3
                    have g4 := bR5.frozen 4
                    have g5 := bR5.frozen 5
                    have g6 := bR5.frozen 6
                    have g7 := bR5.frozen 7
                    have g8 := bR5.frozen 8
                    have g9 := bR5.frozen 9
                    have gA := bR5.frozen 10
                    have gB := bR5.frozen 11
                    obtain ⟨b12, h12, _⟩ := set12 bR5 (.int .i64 0) (.int .i64 0) (.int .u16 0) (.int .u16 0) (.int .u64 0) (.int .u64 0) (.int .i64 0) (.int .i64 0) (.int .i64 0) (.bool false) (.slice none 0 0) (.slice none 0 0)
                    have HF := Lib.hid (h12 w.heap.size w (by simp) hB5)
                    obtain ⟨r0, r1, r2, r3, r4, r5, r6, r7, r8, r9, rA, rB, _⟩ := b12.cells
                    simp only [Nat.zero_add, Nat.add_zero] at r0 r1 r2 r3 r4 r5 r6 r7 r8 r9 rA rB
                    clear TR b12 h12
                    go_wp2
                    refine bodyPost_ret (v := .tuple #[.agg #[.int .i64 0, .int .i64 0, .int .u16 0, .int .u16 0, .int .u64 0, .int .u64 0, .int .i64 0, .int .i64 0, .int .i64 0, .bool false, .slice none 0 0, .slice none 0 0], .int .i64 CK]) (by simp [results, Try.results17, go_sem, r0, r1, r2, r3, r4, r5, r6, r7, r8, r9, rA, rB]) rfl ?_
                    exact decPost_zero hde2 HF.out
                · have hde2 : decP (x :: r) = (E, pd0) := by rw [hde, hst2, if_pos hE0]
                  have g9 : (E != 0) = true := by simpa using hE0
                  clear bP4 hst2 hvo hlo hio hpd hvl
                  go_upto_region 28 with fail
                  have TR := bR4.cells
                  have hOpen := TR
                  simp only [Cells, blk, List.cons_append, List.nil_append, and_true, Nat.reduceAdd, Nat.add_zero, Nat.zero_add] at hOpen
                  obtain ⟨s0, s1, s2, s3, s4, s5, s6, s7, s8, s9, sA, sB⟩ := hOpen
                  have g0 := bR4.frozen 0
                  have g1 := bR4.frozen 1
                  have g2 := bR4.frozen 2
                  have g3 := bR4.frozen 3
                  have g4 := bR4.frozen 4
                  have g5 := bR4.frozen 5
                  have g6 := bR4.frozen 6
                  have g7 := bR4.frozen 7
                  have g8 := bR4.frozen 8
                  have g9 := bR4.frozen 9
                  have gA := bR4.frozen 10
                  have gB := bR4.frozen 11
                  obtain ⟨b12, h12, _⟩ := set12 bR4 (.int .i64 0) (.int .i64 0) (.int .u16 0) (.int .u16 0) (.int .u64 0) (.int .u64 0) (.int .i64 0) (.int .i64 0) (.int .i64 0) (.bool false) (.slice none 0 0) (.slice none 0 0)
                  have HF := Lib.hid (h12 w.heap.size w (by simp) hB4)
                  obtain ⟨r0, r1, r2, r3, r4, r5, r6, r7, r8, r9, rA, rB, _⟩ := b12.cells
                  simp only [Nat.zero_add, Nat.add_zero] at r0 r1 r2 r3 r4 r5 r6 r7 r8 r9 rA rB
                  clear TR b12 h12
                  go_wp2
                  refine bodyPost_ret (v := .tuple #[.agg #[.int .i64 0, .int .i64 0, .int .u16 0, .int .u16 0, .int .u64 0, .int .u64 0, .int .i64 0, .int .i64 0, .int .i64 0, .bool false, .slice none 0 0, .slice none 0 0], .int .i64 E]) (by simp [results, Try.results17, go_sem, r0, r1, r2, r3, r4, r5, r6, r7, r8, r9, rA, rB]) rfl ?_
                  exact decPost_zero hde2 HF.out
          · obtain rfl : U = k := by omega
            have hks : ¬ U < (strB u).size := by rw [hus]; exact hlt
            have hnx := fun ty => Lib.run_next_end_at (P := Try.prog) wr kb (strB u) U ty hit hks
            have hlp : lps u nm0 r = (0, s, 0, bl) := by rw [hlps.out, List.drop_of_length_le (by rw [HU.out]; exact Nat.le_refl _)]; rfl
            have hde : decP (x :: r) = st2 x s 0 bl := by rw [HDE.out, hlp]; rfl
            have hrem : Calls Try.prog 38 #[.pointer (some ⟨w.heap.size + 1, 0, none⟩), .string { data := #[] }, .slice a' n' c'] wr (fun e w9 => ∃ E : Int, E = remE x 0 bl ∧ e = .returned (.int .i64 E) ∧ wr = w9) := (rem_0 V (w.heap.size + 1) x s.ak s.ha s.la s.of s.mt s.co s.cm wr hBv (Nat.le_of_eq hVs) bP a' n' c' bl (hby.out.below HB0.out) hbl'.out hc' (by omega)).mono (fun e w9 ⟨h1, h2⟩ => ⟨_, by unfold remE; rw [if_neg (by decide), if_neg (by decide), if_neg (by decide), hbl'.out], h1, h2⟩)
            have HREM := Lib.hid hrem
            have HF4 := Lib.hid (And.intro hBv bP)
            clear hrem bP hBv bR hBr hlp hit hks
            go_wp2_with fail
            refine HREM.out.mono ?_
            rintro e w9 ⟨E, hE', rfl, rfl⟩
            obtain ⟨hBv4, bP4⟩ := HF4.out
            have hE : remE x 0 bl = E := hE'.symm
            have hg : ∃ (hi lo : Nat) (av : Option Addr) (nv cv : Nat) (bsv : List Nat) (L : Value) (m : Nat) (its : List It), Blk wr (w.heap.size + 1) 29 [.int .i64 x, .int .i64 s.ak, .int .u16 s.ha, .int .u16 s.la, .int .u64 hi, .int .u64 lo, .int .i64 s.of, .int .i64 s.mt, .int .i64 s.co, .bool s.cm, .slice av nv cv, L] ∧
                wr.ownsRow V.heap.size 5 1 (.slice av nv cv) nv (bcells bsv) ∧ wr.ownsRow V.heap.size 46 5 L m (its.flatMap itc) ∧ (∀ t ∈ its, ItOwn wr V.heap.size t) ∧ bsv.length = nv ∧ nv ≤ 1000 ∧ (∀ z ∈ bsv, z < 256) ∧ its.length = m ∧ m ≤ 1000 ∧ (E = 0 → pdOf x s 0 bl = ⟨x, s, hi, lo, bsv, its.map dat⟩) ∧ (E = 0 → ∀ t ∈ its, t.n ≤ 1000000) :=
              ⟨0, 0, none, 0, 0, [], .slice none 0 0, 0, [], bP4, (by simpa [bcells] using World.ownsRow_nil wr V.heap.size 5 1), (by simpa using World.ownsRow_nil wr V.heap.size 46 5), by simp, rfl, by decide, by simp, rfl, by decide, fun _ => by simp [pdOf], fun _ => by simp⟩
            clear bP4 hE'
            obtain ⟨hi, lo, av, nv, cv, bsv, L, m, its, bP4, hvo, hlo, hio, hnv, hnvb, hblt, hml, hmb, hpd, hnb⟩ := hg
            -- world wr; hBv4 : Below V.. V wr; bP4; E; hE : remE x c bl = E; hpd; hvo, hlo, hio, hnv, hml, hmb
            have bR4 := HBR0.out.below hBv4
            have hB4 := HB0.out.trans (hBv4.mono HB0.out.size)
            have hvl : ∀ t ∈ its, t.bs.length = t.n := fun t ht => (hio t ht).2.2.2.2.1
            have hst2 := st2_of x s 0 bl E hi lo nv m bsv its hE hpd hnv hml hvl
            by_cases hE0 : E = 0
            · have hnb2 : ∀ t ∈ its, t.n ≤ 1000000 := hnb hE0
              have hits := items_of_own hml hmb hlo hio hnb2
              obtain ⟨al, d, rfl⟩ := own_slice hlo
              have hck := check_any x s.ak s.ha s.la hi lo s.of s.mt s.co s.cm av al nv cv m d its wr hits hmb (fun t ht => by have := hnb2 t ht; omega)
              rw [if_neg (by simpa using hE0)] at hst2
              obtain ⟨CK, hCK⟩ : ∃ C, chkP x s.ak s.ha s.la hi lo s.of s.mt s.co s.cm nv m its = C := ⟨_, rfl⟩
              rw [hCK] at hst2 hck
              subst hE0
              have HCK := Lib.hid hck
              have HST2 := Lib.hid hst2
              have HO := Lib.hid (And.intro hvo (And.intro hlo (And.intro hio hnb2)))
              have T0 := bP4.cells
              have hOpen := T0
              simp only [Cells, blk, List.cons_append, List.nil_append, and_true, Nat.reduceAdd, Nat.add_zero, Nat.zero_add] at hOpen
              obtain ⟨y0, y1, y2, y3, y4, y5, y6, y7, y8, y9, yA, yB⟩ := hOpen
              have HP4 := Lib.hid bP4
              have HR4 := Lib.hid bR4
              have HB4 := Lib.hid hB4
              clear hck hst2 T0 bP4 bR4 hB4 hits hvo hlo hio hnb hnb2 hpd hCK hE hvl
              go_wp2_with fail
              refine HCK.out.mono ?_
              rintro e w5 ⟨rfl, hB5'⟩
              have bP5 := HP4.out.below hB5'
              have bR5 := HR4.out.below hB5'
              have hB5 := HB4.out.trans (hB5'.mono HB4.out.size)
              have HB5' := Lib.hid hB5'
              clear hB5' HP4 HR4 HB4 HCK y0 y1 y2 y3 y4 y5 y6 y7 y8 y9 yA yB
              by_cases hC0 : CK = 0
              · subst hC0
                have hde2 := hde.trans HST2.out
                rw [if_neg (by decide)] at hde2
                have T0 := bP5.cells
                have hOpen := T0
                simp only [Cells, blk, List.cons_append, List.nil_append, and_true, Nat.reduceAdd, Nat.add_zero, Nat.zero_add] at hOpen
                obtain ⟨y0, y1, y2, y3, y4, y5, y6, y7, y8, y9, yA, yB⟩ := hOpen
                clear T0
                go_upto_region 32 with fail
                have TR := bR5.cells
                have hOpen := TR
                simp only [Cells, blk, List.cons_append, List.nil_append, and_true, Nat.reduceAdd, Nat.add_zero, Nat.zero_add] at hOpen
                obtain ⟨s0, s1, s2, s3, s4, s5, s6, s7, s8, s9, sA, sB⟩ := hOpen
                have g0 := bR5.frozen 0
                have g1 := bR5.frozen 1
                have g2 := bR5.frozen 2
                have g3 := bR5.frozen 3
                have g4 := bR5.frozen 4
                have g5 := bR5.frozen 5
                have g6 := bR5.frozen 6
                have g7 := bR5.frozen 7
                have g8 := bR5.frozen 8
                have g9 := bR5.frozen 9
                have gA := bR5.frozen 10
                have gB := bR5.frozen 11
                obtain ⟨b12, h12, o12⟩ := set12 bR5 (.int .i64 x) (.int .i64 s.ak) (.int .u16 s.ha) (.int .u16 s.la) (.int .u64 hi) (.int .u64 lo) (.int .i64 s.of) (.int .i64 s.mt) (.int .i64 s.co) (.bool s.cm) (.slice av nv cv) (.slice al m d)
                have hvo5 := o12 _ _ _ _ _ _ (by decide) (own_below HO.out.1 HB5'.out)
                have hlo5 := o12 _ _ _ _ _ _ (by decide) (own_below HO.out.2.1 HB5'.out)
                have hio5 := fun t ht => let h := (HO.out.2.2.1 t ht).below HB5'.out; (show ItOwn _ V.heap.size t from ⟨h.1, h.2.1, h.2.2.1, h.2.2.2.1, h.2.2.2.2.1, h.2.2.2.2.2.1, o12 _ _ _ _ _ _ (by decide) h.2.2.2.2.2.2⟩)
                have HFI := Lib.hid (items_of_own hml hmb hlo5 hio5 HO.out.2.2.2)
                have HFV := Lib.hid (bytesAt_of_own hvo5 hnv hblt (by omega))
                have HFB := Lib.hid (h12 w.heap.size w (Nat.le_refl _) hB5)
                obtain ⟨r0, r1, r2, r3, r4, r5, r6, r7, r8, r9, rA, rB, _⟩ := b12.cells
                simp only [Nat.zero_add, Nat.add_zero] at r0 r1 r2 r3 r4 r5 r6 r7 r8 r9 rA rB
                clear TR b12 h12 o12 hvo5 hlo5 hio5
                go_wp2
                refine bodyPost_ret (v := .tuple #[.agg #[.int .i64 x, .int .i64 s.ak, .int .u16 s.ha, .int .u16 s.la, .int .u64 hi, .int .u64 lo, .int .i64 s.of, .int .i64 s.mt, .int .i64 s.co, .bool s.cm, .slice av nv cv, .slice al m d], .int .i64 0]) (by simp [results, Try.results17, go_sem, r0, r1, r2, r3, r4, r5, r6, r7, r8, r9, rA, rB]) rfl ?_
                unfold DecPost
                rw [hde2]
                exact ⟨av, nv, cv, al, m, d, its, rfl, HFV.out, hnv, HFI.out, rfl, HFB.out⟩
              · have g9 : (CK != 0) = true := by simpa using hC0
                have hde2 : decP (x :: r) = (CK, pd0) := by rw [hde, HST2.out, if_pos hC0]
                clear bP5
                go_upto_region 31 with fail
                have TR := bR5.cells
                have hOpen := TR
                simp only [Cells, blk, List.cons_append, List.nil_append, and_true, Nat.reduceAdd, Nat.add_zero, Nat.zero_add] at hOpen
                obtain ⟨s0, s1, s2, s3, s4, s5, s6, s7, s8, s9, sA, sB⟩ := hOpen
                have g0 := bR5.frozen 0
                have g1 := bR5.frozen 1
                have g2 := bR5.frozen 2
                have g3 := bR5.frozen 3
                have g4 := bR5.frozen 4
                have g5 := bR5.frozen 5
                have g6 := bR5.frozen 6
                have g7 := bR5.frozen 7
                have g8 := bR5.frozen 8
                have g9 := bR5.frozen 9
                have gA := bR5.frozen 10
                have gB := bR5.frozen 11
                obtain ⟨b12, h12, _⟩ := set12 bR5 (.int .i64 0) (.int .i64 0) (.int .u16 0) (.int .u16 0) (.int .u64 0) (.int .u64 0) (.int .i64 0) (.int .i64 0) (.int .i64 0) (.bool false) (.slice none 0 0) (.slice none 0 0)
                have HF := Lib.hid (h12 w.heap.size w (by simp) hB5)
                obtain ⟨r0, r1, r2, r3, r4, r5, r6, r7, r8, r9, rA, rB, _⟩ := b12.cells
                simp only [Nat.zero_add, Nat.add_zero] at r0 r1 r2 r3 r4 r5 r6 r7 r8 r9 rA rB
                clear TR b12 h12
                go_wp2
                refine bodyPost_ret (v := .tuple #[.agg #[.int .i64 0, .int .i64 0, .int .u16 0, .int .u16 0, .int .u64 0, .int .u64 0, .int .i64 0, .int .i64 0, .int .i64 0, .bool false, .slice none 0 0, .slice none 0 0], .int .i64 CK]) (by simp [results, Try.results17, go_sem, r0, r1, r2, r3, r4, r5, r6, r7, r8, r9, rA, rB]) rfl ?_
                exact decPost_zero hde2 HF.out
            · have hde2 : decP (x :: r) = (E, pd0) := by rw [hde, hst2, if_pos hE0]
              have g9 : (E != 0) = true := by simpa using hE0
              clear bP4 hst2 hvo hlo hio hpd hvl
              go_upto_region 28 with fail
              have TR := bR4.cells
              have hOpen := TR
              simp only [Cells, blk, List.cons_append, List.nil_append, and_true, Nat.reduceAdd, Nat.add_zero, Nat.zero_add] at hOpen
              obtain ⟨s0, s1, s2, s3, s4, s5, s6, s7, s8, s9, sA, sB⟩ := hOpen
              have g0 := bR4.frozen 0
              have g1 := bR4.frozen 1
              have g2 := bR4.frozen 2
              have g3 := bR4.frozen 3
              have g4 := bR4.frozen 4
              have g5 := bR4.frozen 5
              have g6 := bR4.frozen 6
              have g7 := bR4.frozen 7
              have g8 := bR4.frozen 8
              have g9 := bR4.frozen 9
              have gA := bR4.frozen 10
              have gB := bR4.frozen 11
              obtain ⟨b12, h12, _⟩ := set12 bR4 (.int .i64 0) (.int .i64 0) (.int .u16 0) (.int .u16 0) (.int .u64 0) (.int .u64 0) (.int .i64 0) (.int .i64 0) (.int .i64 0) (.bool false) (.slice none 0 0) (.slice none 0 0)
              have HF := Lib.hid (h12 w.heap.size w (by simp) hB4)
              obtain ⟨r0, r1, r2, r3, r4, r5, r6, r7, r8, r9, rA, rB, _⟩ := b12.cells
              simp only [Nat.zero_add, Nat.add_zero] at r0 r1 r2 r3 r4 r5 r6 r7 r8 r9 rA rB
              clear TR b12 h12
              go_wp2
              refine bodyPost_ret (v := .tuple #[.agg #[.int .i64 0, .int .i64 0, .int .u16 0, .int .u16 0, .int .u64 0, .int .u64 0, .int .i64 0, .int .i64 0, .int .i64 0, .bool false, .slice none 0 0, .slice none 0 0], .int .i64 E]) (by simp [results, Try.results17, go_sem, r0, r1, r2, r3, r4, r5, r6, r7, r8, r9, rA, rB]) rfl ?_
              exact decPost_zero hde2 HF.out

end Go.Proofs.Ythnffdlnhfhabaa
