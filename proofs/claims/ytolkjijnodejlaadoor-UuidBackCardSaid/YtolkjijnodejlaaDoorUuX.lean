/- uuid: Parse of the reference. -/
import Derived.Test.YtolkjijnodejlaaDoorUuW
import Derived.Test.YtolkjijnodejlaaDoorUuR
namespace Go.Proofs.YtolkjijnodejlaaDoor
open Go.RowKit

theorem txt_lt (hi lo : Nat) : ∀ x ∈ txt hi lo, x < 256 := by
  intro x hx
  unfold txt at hx
  split at hx
  · exact hexD_lt _ _ x hx
  · have hall : ∀ y ∈ hexD hi 16 ++ hexD lo 16, y < 256 := fun y hy => by
      rcases List.mem_append.1 hy with h | h
      · exact hexD_lt _ _ y h
      · exact hexD_lt _ _ y h
    unfold dashed at hx
    simp only [List.mem_append, List.mem_singleton] at hx
    rcases hx with (((((((h | h) | h) | h) | h) | h) | h) | h) | h
    · exact hall x (List.mem_of_mem_take h)
    · omega
    · exact hall x (List.mem_of_mem_drop (List.mem_of_mem_take h))
    · omega
    · exact hall x (List.mem_of_mem_drop (List.mem_of_mem_take h))
    · omega
    · exact hall x (List.mem_of_mem_drop (List.mem_of_mem_take h))
    · omega
    · exact hall x (List.mem_of_mem_drop h)
set_option linter.unusedSimpArgs false in
set_option linter.unusedVariables false in
set_option maxRecDepth 100000 in
set_option maxHeartbeats 4000000 in
theorem rparse_any (ss : List Nat) (hb : ∀ x ∈ ss, x < 256) (hm : ss.length ≤ 100000) (w : World) :
    Calls Tryd.prog 15 #[.string (strB ss)] w fun e w' => e = .returned (.tuple #[.agg #[.int .u64 ((prs ss).1 : Nat), .int .u64 ((prs ss).2.1 : Nat)], .int .i64 (prs ss).2.2]) ∧ Below w.heap.size w w' := by
  have hans := prs_R ss
  obtain ⟨⟨A, B, C⟩, hP⟩ : ∃ p, prs ss = p := ⟨_, rfl⟩
  rw [hP] at hans ⊢
  simp only
  have hcb := candR_bd ss
  have hsz := strB_size ss
  obtain ⟨n, hn⟩ : ∃ n, ss.length = n := ⟨_, rfl⟩
  rw [hn] at hsz hm
  unfold candR at hans hcb
  rw [hn] at hans hcb
  have HN := Lib.hid hn
  have HB := Lib.hid hb
  have hz := fun W => run_build0 W
  have hB0 := ((Below.refl w.heap.size w).alloc (Nat.le_refl _) (.cells #[.int .u64 0, .int .u64 0] 25)).alloc (by simp) (.cells #[.int .u64 0, .int .u64 0] 25)
  have bR := (Blk.new w 25 [.int .u64 0, .int .u64 0]).alloc (.cells #[.int .u64 0, .int .u64 0] 25)
  have bU := Blk.new (w.alloc (.cells #[.int .u64 0, .int .u64 0] 25)) 25 [.int .u64 0, .int .u64 0]
  simp only [World.size_alloc] at bU
  have HR := Lib.hid bR
  have HU := Lib.hid bU
  clear hn hb hP bR bU
  by_cases h4 : n = 4
  · subst h4
    rw [if_pos rfl] at hans hcb
    have hN4 := uhF_getD ss 4 (by rw [HN.out]; exact Nat.le_refl _)
    have hun := fun W => runhex_any ss HB.out (by rw [HN.out]; omega) W
    obtain ⟨N, hNN⟩ : ∃ N, (uhF 0 ss).getD 0 = N := ⟨_, rfl⟩
    obtain ⟨q0, hq0⟩ : ∃ q, (uhF 0 ss).isSome = q := ⟨_, rfl⟩
    rw [hNN] at hans hcb hN4
    simp only [hNN, hq0] at hun
    have hN4' : N < 65536 := hN4
    obtain ⟨hb1, hb2⟩ := hcb _ rfl
    have hsh := fun W => rshort_any N hN4' W
    obtain ⟨HI, hHI⟩ : ∃ M : Nat, N * 4294967296 + 4096 = M := ⟨_, rfl⟩
    obtain ⟨LO, hLO⟩ : ∃ M : Nat, 9223372588214596859 = M := ⟨_, rfl⟩
    rw [hHI, hLO] at hans hb1 hb2
    rw [show (N : Int) * 4294967296 + 4096 = (HI : Int) by rw [← hHI]; simp, show (9223372588214596859 : Int) = (LO : Int) by rw [← hLO]; rfl] at hsh
    have w16 : IntKind.u16.wrap (N : Int) = (N : Int) := IntWalk.u16_in _ (by omega)
    have HHI := Lib.hid hb1
    have HLO := Lib.hid hb2
    have HAN := Lib.hid hans
    have HSH := Lib.hid hsh
    have HUN := Lib.hid hun
    clear hun hNN hq0 hN4 hN4' hb1 hb2 hsh hHI hLO hans hcb
    go_enter Tryd.func15, Tryd.ntmps15
    go_wp2_with fail
    go_at_call 28
    refine (HUN.out _).mono ?_
    rintro e w1 ⟨rfl, rfl⟩
    go_wp2_with fail
    go_at_call 12
    refine (HSH.out _).mono ?_
    rintro e w2 ⟨rfl, hB2⟩
    have bu2 := HU.out.below hB2
    have br2 := HR.out.below hB2
    have hBw2 := hB0.trans (hB2.mono hB0.size)
    have f0 := bu2.frozen 0
    have f1 := bu2.frozen 1
    have TU := bu2.cells
    have hOpen := TU
    simp only [Cells, blk, List.cons_append, List.nil_append, and_true, Nat.reduceAdd, Nat.add_zero, Nat.zero_add] at hOpen
    obtain ⟨c0, c1⟩ := hOpen
    have BU2 := Lib.hid bu2
    have BR2 := Lib.hid br2
    clear bu2 br2 TU hB0 hB2 w16 hz
    go_upto_region 11 with fail
    generalize hX : World.setCell _ _ _ = X
    have BU : Hid (Blk X (w.heap.size + 1) 25 [.int .u64 HI, .int .u64 LO]) := by
      rw [← hX]
      exact (BU2.out.setAt (j := 0) (.int .u64 (HI : Int))).setAt (j := 1) (.int .u64 (LO : Int))
    have BR : Hid (Blk X w.heap.size 25 [.int .u64 0, .int .u64 0]) := by
      rw [← hX]
      exact (BR2.out.other (by omega) _).other (by omega) _
    have hBX : Below w.heap.size w X := by
      rw [← hX]
      exact (hBw2.setCell (p := ⟨w.heap.size + 1, 0, none⟩) (by simp) _).setCell (p := ⟨w.heap.size + 1, 1, none⟩) (by simp) _
    clear hX c0 c1 f0 f1 BU2 BR2 hBw2 HR HU HUN HSH
    have tok : True := trivial
    · skip
      obtain ⟨q, hq⟩ : ∃ q, decide (txt HI LO = ss) = q := ⟨_, rfl⟩
      have hq1 := strB_beqL (txt HI LO) ss (txt_lt HI LO) HB.out
      have hq2 := strB_beq (txt HI LO) ss (txt_lt HI LO) HB.out
      rw [hq] at hq1 hq2
      have hq3 : ((strB (txt HI LO)).toList != (strB ss).toList) = !q := by rw [← hq1]; rfl
      have hq4 : (strB (txt HI LO) != strB ss) = !q := by rw [← hq2]; rfl
      have hans : (A, B, C) = if txt HI LO = ss then (HI, LO, 0) else (0, 0, 2) := HAN.out
      have HQ := Lib.hid hq
      have HQ1 := Lib.hid hq1
      have HQ2 := Lib.hid hq2
      have HQ3 := Lib.hid hq3
      have HQ4 := Lib.hid hq4
      have HANS := Lib.hid hans
      have TU := BU.out.cells
      have hOpen := TU
      simp only [Cells, blk, List.cons_append, List.nil_append, and_true, Nat.reduceAdd, Nat.add_zero, Nat.zero_add] at hOpen
      obtain ⟨c0, c1⟩ := hOpen
      clear hq hq1 hq2 hq3 hq4 hans TU
      go_wp2_with fail
      go_at_call 17
      refine (rtext_any HI LO HHI.out HLO.out _).mono ?_
      rintro e w9 ⟨rfl, hB9⟩
      have bu9 := BU.out.below hB9
      have br9 := BR.out.below hB9
      have hBf := hBX.trans (hB9.mono hBX.size)
      have T9 := bu9.cells
      have R9 := br9.cells
      clear c0 c1
      have hOpen := T9
      simp only [Cells, blk, List.cons_append, List.nil_append, and_true, Nat.reduceAdd, Nat.add_zero, Nat.zero_add] at hOpen
      obtain ⟨c0, c1⟩ := hOpen
      have hOpen := R9
      simp only [Cells, blk, List.cons_append, List.nil_append, and_true, Nat.reduceAdd, Nat.add_zero, Nat.zero_add] at hOpen
      obtain ⟨d0, d1⟩ := hOpen
      have f0 := br9.frozen 0
      have f1 := br9.frozen 1
      have BR9 := Lib.hid br9
      have hq1 := HQ1.out
      have hq2 := HQ2.out
      have hq3 := HQ3.out
      have hq4 := HQ4.out
      clear bu9 br9 T9 R9 hB9 hBX
      have hz := fun W => run_build0 W
      cases q
      · have hne : ¬ txt HI LO = ss := by have := HQ.out; simpa using this
        have ha := HANS.out
        rw [if_neg hne] at ha
        simp only [Prod.mk.injEq] at ha
        obtain ⟨rfl, rfl, rfl⟩ := ha
        clear hne
        go_wp2
        have b3 := (BR9.out.setAt (j := 0) (.int .u64 0)).setAt (j := 1) (.int .u64 0)
        obtain ⟨x0, x1, _⟩ := b3.cells
        simp only [Nat.zero_add, Nat.add_zero, List.set_cons_zero, List.set_cons_succ] at x0 x1
        refine bodyPost_ret (v := .tuple #[.agg #[.int .u64 0, .int .u64 0], .int .i64 2]) (by simp [results, Tryd.results15, go_sem, x0, x1]) rfl ?_
        exact ⟨rfl, (hBf.setCell (p := ⟨w.heap.size, 0, none⟩) (by simp) _).setCell (p := ⟨w.heap.size, 1, none⟩) (by simp) _⟩
      · have heq : txt HI LO = ss := by have := HQ.out; simpa using this
        have ha := HANS.out
        rw [if_pos heq] at ha
        simp only [Prod.mk.injEq] at ha
        obtain ⟨rfl, rfl, rfl⟩ := ha
        clear heq
        go_wp2
        have b3 := (BR9.out.setAt (j := 0) (.int .u64 (A : Int))).setAt (j := 1) (.int .u64 (B : Int))
        obtain ⟨x0, x1, _⟩ := b3.cells
        simp only [Nat.zero_add, Nat.add_zero, List.set_cons_zero, List.set_cons_succ] at x0 x1
        refine bodyPost_ret (v := .tuple #[.agg #[.int .u64 A, .int .u64 B], .int .i64 0]) (by simp [results, Tryd.results15, go_sem, x0, x1]) rfl ?_
        exact ⟨rfl, (hBf.setCell (p := ⟨w.heap.size, 0, none⟩) (by simp) _).setCell (p := ⟨w.heap.size, 1, none⟩) (by simp) _⟩
  rw [if_neg h4] at hans hcb
  have g4 : ((n : Int) == 4) = false := by simp; omega
  by_cases h36 : n = 36
  · subst h36
    rw [if_pos rfl] at hans hcb
    obtain ⟨S1, h1⟩ : ∃ S, ss.take 8 = S := ⟨_, rfl⟩
    obtain ⟨S2, h2⟩ : ∃ S, (ss.drop 9).take 4 = S := ⟨_, rfl⟩
    obtain ⟨S3, h3⟩ : ∃ S, (ss.drop 14).take 4 = S := ⟨_, rfl⟩
    obtain ⟨S4, h4'⟩ : ∃ S, (ss.drop 19).take 4 = S := ⟨_, rfl⟩
    obtain ⟨S5, h5⟩ : ∃ S, ss.drop 24 = S := ⟨_, rfl⟩
    have x1 : (strB ss).extract 0 8 = strB S1 := by rw [strB_ext, ← h1]; simp
    have x2 : (strB ss).extract 9 13 = strB S2 := by rw [strB_ext, ← h2]
    have x3 : (strB ss).extract 14 18 = strB S3 := by rw [strB_ext, ← h3]
    have x4 : (strB ss).extract 19 23 = strB S4 := by rw [strB_ext, ← h4']
    have x5 : (strB ss).extract 24 36 = strB S5 := by rw [strB_ext, ← h5, List.take_of_length_le (by rw [List.length_drop, HN.out]; omega)]
    have l1 : S1.length = 8 := by rw [← h1]; simp [HN.out]
    have l2 : S2.length = 4 := by rw [← h2]; simp [HN.out]
    have l3 : S3.length = 4 := by rw [← h3]; simp [HN.out]
    have l4 : S4.length = 4 := by rw [← h4']; simp [HN.out]
    have l5 : S5.length = 12 := by rw [← h5]; simp [HN.out]
    have b1 : ∀ x ∈ S1 ++ S2 ++ S3, x < 256 := fun x hx => by
      rcases List.mem_append.1 hx with h | h
      · rcases List.mem_append.1 h with h | h
        · rw [← h1] at h; exact HB.out x (List.mem_of_mem_take h)
        · rw [← h2] at h; exact HB.out x (List.mem_of_mem_drop (List.mem_of_mem_take h))
      · rw [← h3] at h; exact HB.out x (List.mem_of_mem_drop (List.mem_of_mem_take h))
    have b2 : ∀ x ∈ S4 ++ S5, x < 256 := fun x hx => by
      rcases List.mem_append.1 hx with h | h
      · rw [← h4'] at h; exact HB.out x (List.mem_of_mem_drop (List.mem_of_mem_take h))
      · rw [← h5] at h; exact HB.out x (List.mem_of_mem_drop h)
    have a1 := strB_app S1 S2
    have a2 := strB_app (S1 ++ S2) S3
    have a3 := strB_app S4 S5
    have z1 : (strB S1).size = 8 := by rw [strB_size, l1]
    have z2 : (strB S2).size = 4 := by rw [strB_size, l2]
    have z3 : (strB S3).size = 4 := by rw [strB_size, l3]
    have z4 : (strB S4).size = 4 := by rw [strB_size, l4]
    have z5 : (strB S5).size = 12 := by rw [strB_size, l5]
    have z6 : (strB (S1 ++ S2)).size = 12 := by rw [strB_size, List.length_append, l1, l2]
    have u1 := fun W => runhex_any (S1 ++ S2 ++ S3) b1 (by simp [l1, l2, l3]) W
    have u2 := fun W => runhex_any (S4 ++ S5) b2 (by simp [l4, l5]) W
    rw [h1, h2, h3, h4', h5] at hans hcb
    obtain ⟨hb1, hb2⟩ := hcb _ rfl
    simp only at hb1 hb2
    obtain ⟨HI, hHI⟩ : ∃ N, (uhF 0 (S1 ++ S2 ++ S3)).getD 0 = N := ⟨_, rfl⟩
    obtain ⟨LO, hLO⟩ : ∃ N, (uhF 0 (S4 ++ S5)).getD 0 = N := ⟨_, rfl⟩
    obtain ⟨q1, hq1⟩ : ∃ q, (uhF 0 (S1 ++ S2 ++ S3)).isSome = q := ⟨_, rfl⟩
    obtain ⟨q2, hq2⟩ : ∃ q, (uhF 0 (S4 ++ S5)).isSome = q := ⟨_, rfl⟩
    rw [hHI] at hans hb1
    rw [hLO] at hans hb2
    simp only [hHI, hq1] at u1
    simp only [hLO, hq2] at u2
    obtain ⟨SA, hSA⟩ : ∃ S, S1 ++ S2 = S := ⟨_, rfl⟩
    obtain ⟨SB, hSB⟩ : ∃ S, SA ++ S3 = S := ⟨_, rfl⟩
    obtain ⟨SC, hSC⟩ : ∃ S, S4 ++ S5 = S := ⟨_, rfl⟩
    simp only [hSA, hSB] at a1 a2 z6 u1
    simp only [hSC] at a3 u2
    have U1 := Lib.hid u1
    have U2 := Lib.hid u2
    have HHI := Lib.hid hb1
    have HLO := Lib.hid hb2
    have HAN := Lib.hid hans
    have X1 := Lib.hid x1
    have X2 := Lib.hid x2
    have X3 := Lib.hid x3
    have X4 := Lib.hid x4
    have X5 := Lib.hid x5
    have A1 := Lib.hid a1
    have A2 := Lib.hid a2
    have A3 := Lib.hid a3
    have Z1 := Lib.hid z1
    have Z2 := Lib.hid z2
    have Z3 := Lib.hid z3
    have Z4 := Lib.hid z4
    have Z5 := Lib.hid z5
    have Z6 := Lib.hid z6
    clear u1 u2 hHI hLO hq1 hq2 hSA hSB hSC hb1 hb2 hans hcb b1 b2 l1 l2 l3 l4 l5 h1 h2 h3 h4' h5 x1 x2 x3 x4 x5 a1 a2 a3 z1 z2 z3 z4 z5 z6 h4
    go_enter Tryd.func15, Tryd.ntmps15
    go_upto_region 8 with fail
    generalize hXX : World.alloc _ _ = X0 at HR HU hB0 ⊢
    clear hXX
    have x1 := X1.out
    have x2 := X2.out
    have x3 := X3.out
    have a1 := A1.out
    have a2 := A2.out
    have z1 := Z1.out
    have z2 := Z2.out
    have z3 := Z3.out
    have z6 := Z6.out
    refine wp_region_held_drew (S := (fun W' : World => True)) (by kernel_rfl) (trivial) (fun hHeld => ?_)
    refine wpAnyH_take (i := 0) (oi := _) (v := ?_) (by rw [List.getElem?_toArray]; rfl) (by kernel_rfl) (by kernel_rfl) (by kernel_rfl) (by exact fun _ _ _ h => h) (Or.inl ⟨by rfl, ?_⟩) (by assumption) ?_
    rotate_left
    · intro w hSw
      try simp only [Cells, blk, List.cons_append, List.nil_append, and_true, Nat.reduceAdd, Nat.add_zero, Nat.zero_add] at hSw
      go_simp
      try with_reducible rfl
    simp only [Act.put, List.setIfInBounds_toArray, List.set_cons_zero, List.set_cons_succ]
    refine wpAnyH_take (i := 1) (oi := _) (v := ?_) (by rw [List.getElem?_toArray]; rfl) (by kernel_rfl) (by kernel_rfl) (by kernel_rfl) (by exact fun _ _ _ h => h) (Or.inl ⟨by rfl, ?_⟩) (by assumption) ?_
    rotate_left
    · intro w hSw
      try simp only [Cells, blk, List.cons_append, List.nil_append, and_true, Nat.reduceAdd, Nat.add_zero, Nat.zero_add] at hSw
      go_simp
      try with_reducible rfl
    simp only [Act.put, List.setIfInBounds_toArray, List.set_cons_zero, List.set_cons_succ]
    refine wpAnyH_take (i := 2) (oi := _) (v := ?_) (by rw [List.getElem?_toArray]; rfl) (by kernel_rfl) (by kernel_rfl) (by kernel_rfl) (by exact fun _ _ _ h => h) (Or.inl ⟨by rfl, ?_⟩) (by assumption) ?_
    rotate_left
    · intro w hSw
      try simp only [Cells, blk, List.cons_append, List.nil_append, and_true, Nat.reduceAdd, Nat.add_zero, Nat.zero_add] at hSw
      go_simp
      try with_reducible rfl
    simp only [Act.put, List.setIfInBounds_toArray, List.set_cons_zero, List.set_cons_succ]
    refine wpAnyH_take (i := 3) (oi := _) (v := ?_) (by rw [List.getElem?_toArray]; rfl) (by kernel_rfl) (by kernel_rfl) (by kernel_rfl) (by exact fun _ _ _ h => h) (Or.inl ⟨by rfl, ?_⟩) (by assumption) ?_
    rotate_left
    · intro w hSw
      try simp only [Cells, blk, List.cons_append, List.nil_append, and_true, Nat.reduceAdd, Nat.add_zero, Nat.zero_add] at hSw
      go_simp
      try with_reducible rfl
    simp only [Act.put, List.setIfInBounds_toArray, List.set_cons_zero, List.set_cons_succ]
    refine wpAnyH_take (i := 4) (oi := _) (v := ?_) (by rw [List.getElem?_toArray]; rfl) (by kernel_rfl) (by kernel_rfl) (by kernel_rfl) (by exact fun _ _ _ h => h) (Or.inl ⟨by rfl, ?_⟩) (by assumption) ?_
    rotate_left
    · intro w hSw
      try simp only [Cells, blk, List.cons_append, List.nil_append, and_true, Nat.reduceAdd, Nat.add_zero, Nat.zero_add] at hSw
      go_simp
      try with_reducible rfl
    simp only [Act.put, List.setIfInBounds_toArray, List.set_cons_zero, List.set_cons_succ]
    refine wpAnyH_take (i := 5) (oi := _) (v := ?_) (by rw [List.getElem?_toArray]; rfl) (by kernel_rfl) (by kernel_rfl) (by kernel_rfl) (by exact fun _ _ _ h => h) (Or.inl ⟨by rfl, ?_⟩) (by assumption) ?_
    rotate_left
    · intro w hSw
      try simp only [Cells, blk, List.cons_append, List.nil_append, and_true, Nat.reduceAdd, Nat.add_zero, Nat.zero_add] at hSw
      go_simp
      try with_reducible rfl
    simp only [Act.put, List.setIfInBounds_toArray, List.set_cons_zero, List.set_cons_succ]
    refine wpAnyH_take (i := 6) (oi := _) (v := ?_) (by rw [List.getElem?_toArray]; rfl) (by kernel_rfl) (by kernel_rfl) (by kernel_rfl) (by exact fun _ _ _ h => h) (Or.inl ⟨by rfl, ?_⟩) (by assumption) ?_
    rotate_left
    · intro w hSw
      try simp only [Cells, blk, List.cons_append, List.nil_append, and_true, Nat.reduceAdd, Nat.add_zero, Nat.zero_add] at hSw
      go_simp
      try with_reducible rfl
    simp only [Act.put, List.setIfInBounds_toArray, List.set_cons_zero, List.set_cons_succ]
    refine wpAnyH_take (i := 7) (oi := _) (v := ?_) (by rw [List.getElem?_toArray]; rfl) (by kernel_rfl) (by kernel_rfl) (by kernel_rfl) (by exact fun _ _ _ h => h) (Or.inl ⟨by rfl, ?_⟩) (by assumption) ?_
    rotate_left
    · intro w hSw
      try simp only [Cells, blk, List.cons_append, List.nil_append, and_true, Nat.reduceAdd, Nat.add_zero, Nat.zero_add] at hSw
      go_simp
      try with_reducible rfl
    simp only [Act.put, List.setIfInBounds_toArray, List.set_cons_zero, List.set_cons_succ]
    refine wpAnyH_ready (rs := [8]) (by kernel_rfl) (by simp) (AllReadyH.cons (o := _) (by rw [List.getElem?_toArray]; rfl) (fun K hK => ?_) AllReadyH.nil)
    go_simp
    go_at_call 28
    refine (U1.out _).mono ?_
    rintro e w1 ⟨rfl, rfl⟩
    clear hHeld
    refine hK.out _ _ (trivial) (fun hHeld => ?_)
    clear hK K
    try simp only [Act.put, List.setIfInBounds_toArray, List.set_cons_zero, List.set_cons_succ]
    refine wpAnyH_take (i := 9) (oi := _) (v := ?_) (by rw [List.getElem?_toArray]; rfl) (by kernel_rfl) (by kernel_rfl) (by kernel_rfl) (by exact fun _ _ _ h => h) (Or.inl ⟨by rfl, ?_⟩) (by assumption) ?_
    rotate_left
    · intro w hSw
      try simp only [Cells, blk, List.cons_append, List.nil_append, and_true, Nat.reduceAdd, Nat.add_zero, Nat.zero_add] at hSw
      go_simp
      try with_reducible rfl
    simp only [Act.put, List.setIfInBounds_toArray, List.set_cons_zero, List.set_cons_succ]
    refine wpAnyH_take (i := 10) (oi := _) (v := ?_) (by rw [List.getElem?_toArray]; rfl) (by kernel_rfl) (by kernel_rfl) (by kernel_rfl) (by exact fun _ _ _ h => h) (Or.inl ⟨by rfl, ?_⟩) (by assumption) ?_
    rotate_left
    · intro w hSw
      try simp only [Cells, blk, List.cons_append, List.nil_append, and_true, Nat.reduceAdd, Nat.add_zero, Nat.zero_add] at hSw
      go_simp
      try with_reducible rfl
    simp only [Act.put, List.setIfInBounds_toArray, List.set_cons_zero, List.set_cons_succ]
    refine wpAnyH_take (i := 11) (oi := _) (v := ?_) (by rw [List.getElem?_toArray]; rfl) (by kernel_rfl) (by kernel_rfl) (by kernel_rfl) (by exact fun _ _ _ h => h) (Or.inl ⟨by rfl, ?_⟩) (by assumption) ?_
    rotate_left
    · intro w hSw
      try simp only [Cells, blk, List.cons_append, List.nil_append, and_true, Nat.reduceAdd, Nat.add_zero, Nat.zero_add] at hSw
      go_simp
      try with_reducible rfl
    simp only [Act.put, List.setIfInBounds_toArray, List.set_cons_zero, List.set_cons_succ]
    refine wpAnyH_take (i := 12) (oi := _) (v := ?_) (by rw [List.getElem?_toArray]; rfl) (by kernel_rfl) (by kernel_rfl) (by kernel_rfl) (by exact fun _ _ _ h => h) (Or.inl ⟨by rfl, ?_⟩) (by assumption) ?_
    rotate_left
    · intro w hSw
      try simp only [Cells, blk, List.cons_append, List.nil_append, and_true, Nat.reduceAdd, Nat.add_zero, Nat.zero_add] at hSw
      go_simp
      try with_reducible rfl
    simp only [Act.put, List.setIfInBounds_toArray, List.set_cons_zero, List.set_cons_succ]
    refine wpAnyH_take (i := 13) (oi := _) (v := ?_) (by rw [List.getElem?_toArray]; rfl) (by kernel_rfl) (by kernel_rfl) (by kernel_rfl) (by exact fun _ _ _ h => h) (Or.inl ⟨by rfl, ?_⟩) (by assumption) ?_
    rotate_left
    · intro w hSw
      try simp only [Cells, blk, List.cons_append, List.nil_append, and_true, Nat.reduceAdd, Nat.add_zero, Nat.zero_add] at hSw
      go_simp
      try with_reducible rfl
    simp only [Act.put, List.setIfInBounds_toArray, List.set_cons_zero, List.set_cons_succ]
    refine wpAnyH_done (by kernel_rfl) ?_ _
    clear x1 x2 x3 a1 a2 z1 z2 z3 z6
    go_upto_region 9 with fail
    have x4 := X4.out
    have x5 := X5.out
    have a3 := A3.out
    have z4 := Z4.out
    have z5 := Z5.out
    refine wp_region_held_drew (S := (fun W' : World => True)) (by kernel_rfl) (trivial) (fun hHeld => ?_)
    refine wpAnyH_take (i := 0) (oi := _) (v := ?_) (by rw [List.getElem?_toArray]; rfl) (by kernel_rfl) (by kernel_rfl) (by kernel_rfl) (by exact fun _ _ _ h => h) (Or.inl ⟨by rfl, ?_⟩) (by assumption) ?_
    rotate_left
    · intro w hSw
      try simp only [Cells, blk, List.cons_append, List.nil_append, and_true, Nat.reduceAdd, Nat.add_zero, Nat.zero_add] at hSw
      go_simp
      try with_reducible rfl
    simp only [Act.put, List.setIfInBounds_toArray, List.set_cons_zero, List.set_cons_succ]
    refine wpAnyH_take (i := 1) (oi := _) (v := ?_) (by rw [List.getElem?_toArray]; rfl) (by kernel_rfl) (by kernel_rfl) (by kernel_rfl) (by exact fun _ _ _ h => h) (Or.inl ⟨by rfl, ?_⟩) (by assumption) ?_
    rotate_left
    · intro w hSw
      try simp only [Cells, blk, List.cons_append, List.nil_append, and_true, Nat.reduceAdd, Nat.add_zero, Nat.zero_add] at hSw
      go_simp
      try with_reducible rfl
    simp only [Act.put, List.setIfInBounds_toArray, List.set_cons_zero, List.set_cons_succ]
    refine wpAnyH_take (i := 2) (oi := _) (v := ?_) (by rw [List.getElem?_toArray]; rfl) (by kernel_rfl) (by kernel_rfl) (by kernel_rfl) (by exact fun _ _ _ h => h) (Or.inl ⟨by rfl, ?_⟩) (by assumption) ?_
    rotate_left
    · intro w hSw
      try simp only [Cells, blk, List.cons_append, List.nil_append, and_true, Nat.reduceAdd, Nat.add_zero, Nat.zero_add] at hSw
      go_simp
      try with_reducible rfl
    simp only [Act.put, List.setIfInBounds_toArray, List.set_cons_zero, List.set_cons_succ]
    refine wpAnyH_take (i := 3) (oi := _) (v := ?_) (by rw [List.getElem?_toArray]; rfl) (by kernel_rfl) (by kernel_rfl) (by kernel_rfl) (by exact fun _ _ _ h => h) (Or.inl ⟨by rfl, ?_⟩) (by assumption) ?_
    rotate_left
    · intro w hSw
      try simp only [Cells, blk, List.cons_append, List.nil_append, and_true, Nat.reduceAdd, Nat.add_zero, Nat.zero_add] at hSw
      go_simp
      try with_reducible rfl
    simp only [Act.put, List.setIfInBounds_toArray, List.set_cons_zero, List.set_cons_succ]
    refine wpAnyH_take (i := 4) (oi := _) (v := ?_) (by rw [List.getElem?_toArray]; rfl) (by kernel_rfl) (by kernel_rfl) (by kernel_rfl) (by exact fun _ _ _ h => h) (Or.inl ⟨by rfl, ?_⟩) (by assumption) ?_
    rotate_left
    · intro w hSw
      try simp only [Cells, blk, List.cons_append, List.nil_append, and_true, Nat.reduceAdd, Nat.add_zero, Nat.zero_add] at hSw
      go_simp
      try with_reducible rfl
    simp only [Act.put, List.setIfInBounds_toArray, List.set_cons_zero, List.set_cons_succ]
    refine wpAnyH_ready (rs := [5]) (by kernel_rfl) (by simp) (AllReadyH.cons (o := _) (by rw [List.getElem?_toArray]; rfl) (fun K hK => ?_) AllReadyH.nil)
    go_simp
    go_at_call 28
    refine (U2.out _).mono ?_
    rintro e w1 ⟨rfl, rfl⟩
    clear hHeld
    refine hK.out _ _ (trivial) (fun hHeld => ?_)
    clear hK K
    try simp only [Act.put, List.setIfInBounds_toArray, List.set_cons_zero, List.set_cons_succ]
    refine wpAnyH_take (i := 6) (oi := _) (v := ?_) (by rw [List.getElem?_toArray]; rfl) (by kernel_rfl) (by kernel_rfl) (by kernel_rfl) (by exact fun _ _ _ h => h) (Or.inl ⟨by rfl, ?_⟩) (by assumption) ?_
    rotate_left
    · intro w hSw
      try simp only [Cells, blk, List.cons_append, List.nil_append, and_true, Nat.reduceAdd, Nat.add_zero, Nat.zero_add] at hSw
      go_simp
      try with_reducible rfl
    simp only [Act.put, List.setIfInBounds_toArray, List.set_cons_zero, List.set_cons_succ]
    refine wpAnyH_take (i := 7) (oi := _) (v := ?_) (by rw [List.getElem?_toArray]; rfl) (by kernel_rfl) (by kernel_rfl) (by kernel_rfl) (by exact fun _ _ _ h => h) (Or.inl ⟨by rfl, ?_⟩) (by assumption) ?_
    rotate_left
    · intro w hSw
      try simp only [Cells, blk, List.cons_append, List.nil_append, and_true, Nat.reduceAdd, Nat.add_zero, Nat.zero_add] at hSw
      go_simp
      try with_reducible rfl
    simp only [Act.put, List.setIfInBounds_toArray, List.set_cons_zero, List.set_cons_succ]
    refine wpAnyH_take (i := 8) (oi := _) (v := ?_) (by rw [List.getElem?_toArray]; rfl) (by kernel_rfl) (by kernel_rfl) (by kernel_rfl) (by exact fun _ _ _ h => h) (Or.inl ⟨by rfl, ?_⟩) (by assumption) ?_
    rotate_left
    · intro w hSw
      try simp only [Cells, blk, List.cons_append, List.nil_append, and_true, Nat.reduceAdd, Nat.add_zero, Nat.zero_add] at hSw
      go_simp
      try with_reducible rfl
    simp only [Act.put, List.setIfInBounds_toArray, List.set_cons_zero, List.set_cons_succ]
    refine wpAnyH_take (i := 9) (oi := _) (v := ?_) (by rw [List.getElem?_toArray]; rfl) (by kernel_rfl) (by kernel_rfl) (by kernel_rfl) (by exact fun _ _ _ h => h) (Or.inl ⟨by rfl, ?_⟩) (by assumption) ?_
    rotate_left
    · intro w hSw
      try simp only [Cells, blk, List.cons_append, List.nil_append, and_true, Nat.reduceAdd, Nat.add_zero, Nat.zero_add] at hSw
      go_simp
      try with_reducible rfl
    simp only [Act.put, List.setIfInBounds_toArray, List.set_cons_zero, List.set_cons_succ]
    refine wpAnyH_take (i := 10) (oi := _) (v := ?_) (by rw [List.getElem?_toArray]; rfl) (by kernel_rfl) (by kernel_rfl) (by kernel_rfl) (by exact fun _ _ _ h => h) (Or.inl ⟨by rfl, ?_⟩) (by assumption) ?_
    rotate_left
    · intro w hSw
      try simp only [Cells, blk, List.cons_append, List.nil_append, and_true, Nat.reduceAdd, Nat.add_zero, Nat.zero_add] at hSw
      go_simp
      try with_reducible rfl
    simp only [Act.put, List.setIfInBounds_toArray, List.set_cons_zero, List.set_cons_succ]
    refine wpAnyH_done (by kernel_rfl) ?_ _
    clear x4 x5 a3 z4 z5
    have bu2 := HU.out
    have TU := bu2.cells
    have hOpen := TU
    simp only [Cells, blk, List.cons_append, List.nil_append, and_true, Nat.reduceAdd, Nat.add_zero, Nat.zero_add] at hOpen
    obtain ⟨c0, c1⟩ := hOpen
    have f0 := bu2.frozen 0
    have f1 := bu2.frozen 1
    clear bu2 TU
    go_upto_region 11 with fail
    generalize hX : World.setCell _ _ _ = X
    have BU : Hid (Blk X (w.heap.size + 1) 25 [.int .u64 HI, .int .u64 LO]) := by
      rw [← hX]
      exact (HU.out.setAt (j := 0) (.int .u64 (HI : Int))).setAt (j := 1) (.int .u64 (LO : Int))
    have BR : Hid (Blk X w.heap.size 25 [.int .u64 0, .int .u64 0]) := by
      rw [← hX]
      exact (HR.out.other (by omega) _).other (by omega) _
    have hBX : Below w.heap.size w X := by
      rw [← hX]
      exact (hB0.setCell (p := ⟨w.heap.size + 1, 0, none⟩) (by simp) _).setCell (p := ⟨w.heap.size + 1, 1, none⟩) (by simp) _
    clear hX c0 c1 f0 f1 HR HU hB0
    have tok : True := trivial
    replace BU := Lib.hid (BU.out.drew).drew
    replace BR := Lib.hid (BR.out.drew).drew
    replace hBX := hBX.drew.drew
    generalize hY : World.drew (World.drew X) = Y at BU BR hBX ⊢
    clear hY
    · skip
      obtain ⟨q, hq⟩ : ∃ q, decide (txt HI LO = ss) = q := ⟨_, rfl⟩
      have hq1 := strB_beqL (txt HI LO) ss (txt_lt HI LO) HB.out
      have hq2 := strB_beq (txt HI LO) ss (txt_lt HI LO) HB.out
      rw [hq] at hq1 hq2
      have hq3 : ((strB (txt HI LO)).toList != (strB ss).toList) = !q := by rw [← hq1]; rfl
      have hq4 : (strB (txt HI LO) != strB ss) = !q := by rw [← hq2]; rfl
      have hans : (A, B, C) = if txt HI LO = ss then (HI, LO, 0) else (0, 0, 2) := HAN.out
      have HQ := Lib.hid hq
      have HQ1 := Lib.hid hq1
      have HQ2 := Lib.hid hq2
      have HQ3 := Lib.hid hq3
      have HQ4 := Lib.hid hq4
      have HANS := Lib.hid hans
      have TU := BU.out.cells
      have hOpen := TU
      simp only [Cells, blk, List.cons_append, List.nil_append, and_true, Nat.reduceAdd, Nat.add_zero, Nat.zero_add] at hOpen
      obtain ⟨c0, c1⟩ := hOpen
      clear hq hq1 hq2 hq3 hq4 hans TU
      go_wp2_with fail
      go_at_call 17
      refine (rtext_any HI LO HHI.out HLO.out _).mono ?_
      rintro e w9 ⟨rfl, hB9⟩
      have bu9 := BU.out.below hB9
      have br9 := BR.out.below hB9
      have hBf := hBX.trans (hB9.mono hBX.size)
      have T9 := bu9.cells
      have R9 := br9.cells
      clear c0 c1
      have hOpen := T9
      simp only [Cells, blk, List.cons_append, List.nil_append, and_true, Nat.reduceAdd, Nat.add_zero, Nat.zero_add] at hOpen
      obtain ⟨c0, c1⟩ := hOpen
      have hOpen := R9
      simp only [Cells, blk, List.cons_append, List.nil_append, and_true, Nat.reduceAdd, Nat.add_zero, Nat.zero_add] at hOpen
      obtain ⟨d0, d1⟩ := hOpen
      have f0 := br9.frozen 0
      have f1 := br9.frozen 1
      have BR9 := Lib.hid br9
      have hq1 := HQ1.out
      have hq2 := HQ2.out
      have hq3 := HQ3.out
      have hq4 := HQ4.out
      clear bu9 br9 T9 R9 hB9 hBX
      have hz := fun W => run_build0 W
      cases q
      · have hne : ¬ txt HI LO = ss := by have := HQ.out; simpa using this
        have ha := HANS.out
        rw [if_neg hne] at ha
        simp only [Prod.mk.injEq] at ha
        obtain ⟨rfl, rfl, rfl⟩ := ha
        clear hne
        go_wp2
        have b3 := (BR9.out.setAt (j := 0) (.int .u64 0)).setAt (j := 1) (.int .u64 0)
        obtain ⟨x0, x1, _⟩ := b3.cells
        simp only [Nat.zero_add, Nat.add_zero, List.set_cons_zero, List.set_cons_succ] at x0 x1
        refine bodyPost_ret (v := .tuple #[.agg #[.int .u64 0, .int .u64 0], .int .i64 2]) (by simp [results, Tryd.results15, go_sem, x0, x1]) rfl ?_
        exact ⟨rfl, (hBf.setCell (p := ⟨w.heap.size, 0, none⟩) (by simp) _).setCell (p := ⟨w.heap.size, 1, none⟩) (by simp) _⟩
      · have heq : txt HI LO = ss := by have := HQ.out; simpa using this
        have ha := HANS.out
        rw [if_pos heq] at ha
        simp only [Prod.mk.injEq] at ha
        obtain ⟨rfl, rfl, rfl⟩ := ha
        clear heq
        go_wp2
        have b3 := (BR9.out.setAt (j := 0) (.int .u64 (A : Int))).setAt (j := 1) (.int .u64 (B : Int))
        obtain ⟨x0, x1, _⟩ := b3.cells
        simp only [Nat.zero_add, Nat.add_zero, List.set_cons_zero, List.set_cons_succ] at x0 x1
        refine bodyPost_ret (v := .tuple #[.agg #[.int .u64 A, .int .u64 B], .int .i64 0]) (by simp [results, Tryd.results15, go_sem, x0, x1]) rfl ?_
        exact ⟨rfl, (hBf.setCell (p := ⟨w.heap.size, 0, none⟩) (by simp) _).setCell (p := ⟨w.heap.size, 1, none⟩) (by simp) _⟩
  rw [if_neg h36] at hans
  have g36 : ((n : Int) == 36) = false := by simp; omega
  simp only [ansO, Prod.mk.injEq] at hans
  obtain ⟨rfl, rfl, rfl⟩ := hans
  clear hcb HN HB hm h4 h36
  go_enter Tryd.func15, Tryd.ntmps15
  go_wp2
  refine bodyPost_ret (v := .tuple #[.agg #[.int .u64 0, .int .u64 0], .int .i64 2]) (by simp [results, Tryd.results15, go_sem] <;> rfl) rfl ?_
  exact ⟨rfl, hB0⟩
end Go.Proofs.YtolkjijnodejlaaDoor
