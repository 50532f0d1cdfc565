/- attpdu: the reference: listed: small laws. attpdu: the reference: listed. attpdu: the reference: listed. attpdu: the reference: listed. -/
import Derived.Test.YthnffdlnhfhabaaAvD
import Derived.Test.YthnffdlnhfhabaaAtP
namespace Go.Proofs.Ythnffdlnhfhabaa
open Go.RowKit

/-- what 's[i:j]' hands back -/
theorem bytes_mid (w : World) (a : Option Addr) (n c i j : Nat) (bs : List Nat) (h : BytesAt w (.slice a n c) bs) (hn : bs.length = n) (hc : n ≤ c) (hij : i ≤ j) (hj : j ≤ n) :
    ∃ a' c', BytesAt w (.slice a' (j - i) c') ((bs.drop i).take (j - i)) ∧ ∀ W, (Instr.slice 26 (.slice a n c) (some (.int .i64 i)) (some (.int .i64 j)) none).run Try.prog W = .ok (.slice a' (j - i) c') W := by
  obtain ⟨⟨h1, h2, h3, ao, cap, e, hnil, hcell⟩, hr, hlt⟩ := h
  rw [hn] at h1 h2 hnil hcell e hr
  cases e
  have hl : ((bs.drop i).take (j - i)).length = j - i := by simp [hn]; omega
  have hbc : bcells ((bs.drop i).take (j - i)) = ((bcells bs).drop i).take (j - i) := by simp [bcells, List.map_drop, List.map_take]
  refine ⟨if c = i then a else a.map (·.add i), c - i, ⟨⟨by rw [hl]; omega, by rw [hl, bcells_len, hl]; omega, bcells_one _, _, _, by rw [hl], ?_, ?_⟩, by rw [hl]; omega, fun x hx => hlt x (List.mem_of_mem_drop (List.mem_of_mem_take hx))⟩, fun W => ?_⟩
  · intro e
    have ha : a = none := by
      by_cases hck : c = i
      · rw [if_pos hck] at e; exact e
      · rw [if_neg hck] at e; simpa using e
    obtain ⟨h01, h02⟩ := hnil ha
    rw [hl]
    omega
  · intro h0
    rw [hl] at h0
    obtain ⟨b, off, rfl, hb, hcs⟩ := hcell (by omega)
    rw [if_neg (by omega)]
    refine ⟨b, off + i, by simp [addr_off], hb, fun q u hq => ?_⟩
    rw [hbc, List.getElem?_take] at hq
    split at hq
    · rw [List.getElem?_drop] at hq
      rw [Nat.add_assoc]
      exact hcs (i + q) u hq
    · cases hq
  · have hu : Try.prog.underlying 26 = some (.slice (Try.prog.elem 26)) := by kernel_rfl
    rw [run_slice_lh (ht := hu) (kl := .i64) (kh := .i64) (l := (i : Int)) (h := (j : Int)) (h0 := by omega) (h1 := by omega) (h2 := by omega)]
    have hs : (sizeOf (Try.prog.elem 26)).run Try.prog W = .ok 1 W := by kernel_rfl
    rw [hs]
    have e1 : (i : Int).toNat = i := rfl
    have e2 : ((j : Int) - (i : Int)).toNat = j - i := by omega
    have e3 : ((c : Int) - (i : Int)).toNat = c - i := by omega
    simp [Result.andThen, sliced]
theorem chn_parts (s : Nat) (q : List Nat) (j i : Nat) (_hi : i ≤ s) : (q.drop (j * s + i)).take (s - i) = (chn s q j).drop i := by
  unfold chn
  rw [← List.drop_drop, List.drop_take]
theorem chn_num (s : Nat) (q : List Nat) (j i : Nat) (hi : i + 2 ≤ s) : (q.drop (j * s + i)).take 2 = ((chn s q j).drop i).take 2 := by
  unfold chn
  rw [← List.drop_drop, List.drop_take, List.take_take, Nat.min_eq_left (by omega)]
theorem lsE_err (E : Int) (x : Nat) (s : Nm) (c : Nat) (rest : List Nat) (w w' : World) (hE : E ≠ 0) (al : Option Addr) (m d : Nat) (hb : Below w.heap.size w w') : TakPost w x s c rest E (.returned (.tuple #[.agg #[.int .i64 x, .int .i64 s.ak, .int .u16 s.ha, .int .u16 s.la, .int .u64 0, .int .u64 0, .int .i64 s.of, .int .i64 s.mt, .int .i64 s.co, .bool s.cm, .slice none 0 0, .slice al m d], .int .i64 E])) w' :=
  ⟨0, 0, none, 0, 0, [], al, m, d, [], rfl, hb, fun h => absurd h hE⟩
end Go.Proofs.Ythnffdlnhfhabaa
namespace Go.Proofs.Ythnffdlnhfhabaa
open Go.RowKit

set_option linter.unusedSimpArgs false in
set_option linter.unusedVariables false in
set_option maxRecDepth 100000 in
set_option maxHeartbeats 8000000 in
theorem listed_5 (a : Option Addr) (n c : Nat) (b : List Nat) (w : World) (h : BytesAt w (.slice a n c) b) (hn : b.length = n) (hc : n ≤ c) (hK : 2 ≤ n) (hm : n ≤ 1000) :
    Calls Try.prog 61 #[.agg #[.int .i64 5, .int .i64 0, .int .u16 0, .int .u16 0, .int .u64 0, .int .u64 0, .int .i64 0, .int .i64 0, .int .i64 0, .bool false, .slice none 0 0, .slice none 0 0], .slice a n c] w (TakPost w 5 nm0 73 (b.drop 1) (lsE 5 (b.drop 1))) := by
  have hz := build_pdu
  obtain ⟨bb, off, rfl, kx, hyb⟩ := byte_at h hn 1 (by omega)
  obtain ⟨a2, c2, hby2, hc2, hs2⟩ := bytes_from w _ n c 2 b h hn hc (by omega)
  replace hs2 : ∀ W, (Instr.slice 26 (.slice (some ⟨bb, off, none⟩) n c) (some (.int .i64 2)) none none).run Try.prog W = .ok (.slice a2 (n - 2) c2) W := hs2
  have hb1 : b.drop 1 = vnum ((b.drop 1).take 1) :: b.drop 2 := by
    have hp : 1 < b.length := by omega
    rw [List.drop_eq_getElem_cons hp, List.take_succ_cons, List.take_zero]
    simp [vnum]
  obtain ⟨y, hy⟩ : ∃ y, vnum ((b.drop 1).take 1) = y := ⟨_, rfl⟩
  rw [hy] at kx hyb hb1
  rw [hb1]
  obtain ⟨q, hq⟩ : ∃ q, b.drop 2 = q := ⟨_, rfl⟩
  obtain ⟨n2, hn2⟩ : ∃ n2, n - 2 = n2 := ⟨_, rfl⟩
  have hql : q.length = n2 := by rw [← hq, List.length_drop]; omega
  rw [hq, hn2] at hby2
  rw [hq]
  rw [hn2] at hc2 hs2
  have hnb2 : n2 ≤ 1000 := by omega
  have hi1 : (1 : Int) < (n : Int) := by omega
  have y1' : (y : Int) < 256 := by omega
  obtain ⟨EE, hEE⟩ : ∃ E, lsE 5 (y :: q) = E := ⟨_, rfl⟩
  rw [hEE]
  have HBY2 := Lib.hid hby2
  have HQL := Lib.hid hql
  have HKX := Lib.hid kx
  have hB := ((Below.refl w.heap.size w).alloc (Nat.le_refl _) (.cells #[.int .i64 5, .int .i64 0, .int .u16 0, .int .u16 0, .int .u64 0, .int .u64 0, .int .i64 0, .int .i64 0, .int .i64 0, .bool false, .slice none 0 0, .slice none 0 0] 29)).alloc (by simp) (.cells #[.int .i64 0, .int .i64 0, .int .u16 0, .int .u16 0, .int .u64 0, .int .u64 0, .int .i64 0, .int .i64 0, .int .i64 0, .bool false, .slice none 0 0, .slice none 0 0] 29)
  have bP := (Blk.new w 29 [.int .i64 5, .int .i64 0, .int .u16 0, .int .u16 0, .int .u64 0, .int .u64 0, .int .i64 0, .int .i64 0, .int .i64 0, .bool false, .slice none 0 0, .slice none 0 0]).alloc (.cells #[.int .i64 0, .int .i64 0, .int .u16 0, .int .u16 0, .int .u64 0, .int .u64 0, .int .i64 0, .int .i64 0, .int .i64 0, .bool false, .slice none 0 0, .slice none 0 0] 29)
  have bR := Blk.new (w.alloc (.cells #[.int .i64 5, .int .i64 0, .int .u16 0, .int .u16 0, .int .u64 0, .int .u64 0, .int .i64 0, .int .i64 0, .int .i64 0, .bool false, .slice none 0 0, .slice none 0 0] 29)) 29 [.int .i64 0, .int .i64 0, .int .u16 0, .int .u16 0, .int .u64 0, .int .u64 0, .int .i64 0, .int .i64 0, .int .i64 0, .bool false, .slice none 0 0, .slice none 0 0]
  simp only [World.size_alloc] at bR
  have HP := Lib.hid bP
  have HR := Lib.hid bR
  have HB := Lib.hid hB
  clear h hn hby2 hql hq hn2 hb1 hy kx bP bR hB
  by_cases hbad : y ≠ 1 ∧ y ≠ 2
  · obtain ⟨h1, h2⟩ := hbad
    have g1 : ((y : Int) != 1) = true := by simp; omega
    have g2 : ((y : Int) != 2) = true := by simp; omega
    obtain rfl : EE = 2 := by rw [← hEE]; simp [lsE, lsN, h1, h2]
    clear hEE h1 h2
    go_enter Try.func61, Try.ntmps61
    go_upto_region 1 with fail
    generalize hV : World.alloc _ _ = V at HP HR HB ⊢
    have hVs : V.heap.size = w.heap.size + 2 := by rw [← hV]; simp
    clear hV
    have kv := kc HKX.out HB.out
    have TP := HP.out.cells
    have hOpen := TP
    simp only [Cells, blk, List.cons_append, List.nil_append, and_true, Nat.reduceAdd, Nat.add_zero, Nat.zero_add] at hOpen
    obtain ⟨y0, y1, y2, y3, y4, y5, y6, y7, y8, y9, yA, yB⟩ := hOpen
    clear TP
    go_upto_region 6 with fail
    clear kv y0 y1 y2 y3 y4 y5 y6 y7 y8 y9 yA yB
    have TP := HP.out.cells
    have hOpen := TP
    simp only [Cells, blk, List.cons_append, List.nil_append, and_true, Nat.reduceAdd, Nat.add_zero, Nat.zero_add] at hOpen
    obtain ⟨y0, y1, y2, y3, y4, y5, y6, y7, y8, y9, yA, yB⟩ := hOpen
    have TR := HR.out.cells
    have hOpen := TR
    simp only [Cells, blk, List.cons_append, List.nil_append, and_true, Nat.reduceAdd, Nat.add_zero, Nat.zero_add] at hOpen
    obtain ⟨s0, s1, s2, s3, s4, s5, s6, s7, s8, s9, sA, sB⟩ := hOpen
    have g0 := HR.out.frozen 0
    have g1 := HR.out.frozen 1
    have g2 := HR.out.frozen 2
    have g3 := HR.out.frozen 3
    have g4 := HR.out.frozen 4
    have g5 := HR.out.frozen 5
    have g6 := HR.out.frozen 6
    have g7 := HR.out.frozen 7
    have g8 := HR.out.frozen 8
    have g9 := HR.out.frozen 9
    have gA := HR.out.frozen 10
    have gB := HR.out.frozen 11
    obtain ⟨b12, h12, o12⟩ := set12 HR.out (.int .i64 5) (.int .i64 0) (.int .u16 0) (.int .u16 0) (.int .u64 0) (.int .u64 0) (.int .i64 0) (.int .i64 0) (.int .i64 0) (.bool false) (.slice none 0 0) (.slice none 0 0)
    have HF := Lib.hid (h12 w.heap.size w (by simp) HB.out)
    obtain ⟨r0, r1, r2, r3, r4, r5, r6, r7, r8, r9, rA, rB, _⟩ := b12.cells
    simp only [Nat.zero_add, Nat.add_zero] at r0 r1 r2 r3 r4 r5 r6 r7 r8 r9 rA rB
    clear TP TR b12 h12 o12
    go_wp2
    refine bodyPost_ret (v := .tuple #[.agg #[.int .i64 5, .int .i64 0, .int .u16 0, .int .u16 0, .int .u64 0, .int .u64 0, .int .i64 0, .int .i64 0, .int .i64 0, .bool false, .slice none 0 0, .slice none 0 0], .int .i64 2]) (by simp [results, Try.results61, go_sem, r0, r1, r2, r3, r4, r5, r6, r7, r8, r9, rA, rB]) rfl ?_
    exact lsE_err 2 5 nm0 73 _ w _ (by decide) none 0 0 HF.out
  obtain ⟨s, hs, hsv⟩ : ∃ s, lsN 5 y = some s ∧ ((y = 1 ∧ s = 4) ∨ (y = 2 ∧ s = 18)) := by
    by_cases h1 : y = 1
    · exact ⟨4, by simp [lsN, h1], .inl ⟨h1, rfl⟩⟩
    · have h2 : y = 2 := Decidable.byContradiction fun h2 => hbad ⟨h1, h2⟩
      exact ⟨18, by simp [lsN, h2], .inr ⟨h2, rfl⟩⟩
  clear hbad
  have hss : 4 ≤ s ∧ s ≤ 18 := by omega
  have hys : 14 * (y : Int) - 10 = (s : Int) := by omega
  have hcase : ((y : Int) != 1) = false ∨ (((y : Int) != 1) = true ∧ ((y : Int) != 2) = false) := by
    rcases hsv with ⟨h, _⟩ | ⟨h, _⟩
    · left; simp; omega
    · right; exact ⟨by simp; omega, by simp; omega⟩
  clear hsv
  rcases hcase with hyq | ⟨hyq, hyq2⟩
  all_goals
    have hs2' : 2 ≤ s ∧ s ≤ 255 := by omega
    obtain ⟨hsl, hsu⟩ := hs2'
    by_cases hbad3 : q = [] ∨ q.length % s ≠ 0
    · obtain rfl : EE = 3 := by rw [← hEE]; simp only [lsE, hs]; rw [if_pos hbad3]
      have hcase : n2 = 0 ∨ (n2 ≠ 0 ∧ n2 % s ≠ 0) := by
        rw [HQL.out] at hbad3
        rcases hbad3 with h | h
        · left; rw [← HQL.out, h]; rfl
        · by_cases h0 : n2 = 0
          · exact .inl h0
          · exact .inr ⟨h0, h⟩
      clear hEE hbad3 hs
      rcases hcase with h0 | ⟨h0, h3⟩
      · have g4 : ((n2 : Int) == 0) = true := by simp; omega
        clear h0
        go_enter Try.func61, Try.ntmps61
        go_upto_region 1 with fail
        generalize hV : World.alloc _ _ = V at HP HR HB ⊢
        have hVs : V.heap.size = w.heap.size + 2 := by rw [← hV]; simp
        clear hV
        have kv := kc HKX.out HB.out
        have TP := HP.out.cells
        have hOpen := TP
        simp only [Cells, blk, List.cons_append, List.nil_append, and_true, Nat.reduceAdd, Nat.add_zero, Nat.zero_add] at hOpen
        obtain ⟨y0, y1, y2, y3, y4, y5, y6, y7, y8, y9, yA, yB⟩ := hOpen
        clear TP
        go_upto_region 14 with fail
        clear kv y0 y1 y2 y3 y4 y5 y6 y7 y8 y9 yA yB
        have TP := HP.out.cells
        have hOpen := TP
        simp only [Cells, blk, List.cons_append, List.nil_append, and_true, Nat.reduceAdd, Nat.add_zero, Nat.zero_add] at hOpen
        obtain ⟨y0, y1, y2, y3, y4, y5, y6, y7, y8, y9, yA, yB⟩ := hOpen
        have TR := HR.out.cells
        have hOpen := TR
        simp only [Cells, blk, List.cons_append, List.nil_append, and_true, Nat.reduceAdd, Nat.add_zero, Nat.zero_add] at hOpen
        obtain ⟨s0, s1, s2, s3, s4, s5, s6, s7, s8, s9, sA, sB⟩ := hOpen
        have g0 := HR.out.frozen 0
        have g1 := HR.out.frozen 1
        have g2 := HR.out.frozen 2
        have g3 := HR.out.frozen 3
        have g4 := HR.out.frozen 4
        have g5 := HR.out.frozen 5
        have g6 := HR.out.frozen 6
        have g7 := HR.out.frozen 7
        have g8 := HR.out.frozen 8
        have g9 := HR.out.frozen 9
        have gA := HR.out.frozen 10
        have gB := HR.out.frozen 11
        obtain ⟨b12, h12, o12⟩ := set12 HR.out (.int .i64 5) (.int .i64 0) (.int .u16 0) (.int .u16 0) (.int .u64 0) (.int .u64 0) (.int .i64 0) (.int .i64 0) (.int .i64 0) (.bool false) (.slice none 0 0) (.slice none 0 0)
        have HF := Lib.hid (h12 w.heap.size w (by simp) HB.out)
        obtain ⟨r0, r1, r2, r3, r4, r5, r6, r7, r8, r9, rA, rB, _⟩ := b12.cells
        simp only [Nat.zero_add, Nat.add_zero] at r0 r1 r2 r3 r4 r5 r6 r7 r8 r9 rA rB
        clear TP TR b12 h12 o12
        go_wp2
        refine bodyPost_ret (v := .tuple #[.agg #[.int .i64 5, .int .i64 0, .int .u16 0, .int .u16 0, .int .u64 0, .int .u64 0, .int .i64 0, .int .i64 0, .int .i64 0, .bool false, .slice none 0 0, .slice none 0 0], .int .i64 3]) (by simp [results, Try.results61, go_sem, r0, r1, r2, r3, r4, r5, r6, r7, r8, r9, rA, rB]) rfl ?_
        exact lsE_err 3 5 nm0 73 _ w _ (by decide) none 0 0 HF.out
      · have g4 : ((n2 : Int) == 0) = false := by simp; omega
        have g5 : (((n2 % s : Nat) : Int) != 0) = true := by simp; omega
        have g5n : (((n2 : Int) % (s : Int)) != 0) = true := g5
        have g6 : ((s : Int) == 0) = false := by simp; omega
        clear h0 h3
        go_enter Try.func61, Try.ntmps61
        go_upto_region 1 with fail
        generalize hV : World.alloc _ _ = V at HP HR HB ⊢
        have hVs : V.heap.size = w.heap.size + 2 := by rw [← hV]; simp
        clear hV
        have kv := kc HKX.out HB.out
        have TP := HP.out.cells
        have hOpen := TP
        simp only [Cells, blk, List.cons_append, List.nil_append, and_true, Nat.reduceAdd, Nat.add_zero, Nat.zero_add] at hOpen
        obtain ⟨y0, y1, y2, y3, y4, y5, y6, y7, y8, y9, yA, yB⟩ := hOpen
        clear TP
        go_upto_region 14 with fail
        clear kv y0 y1 y2 y3 y4 y5 y6 y7 y8 y9 yA yB
        have TP := HP.out.cells
        have hOpen := TP
        simp only [Cells, blk, List.cons_append, List.nil_append, and_true, Nat.reduceAdd, Nat.add_zero, Nat.zero_add] at hOpen
        obtain ⟨y0, y1, y2, y3, y4, y5, y6, y7, y8, y9, yA, yB⟩ := hOpen
        have TR := HR.out.cells
        have hOpen := TR
        simp only [Cells, blk, List.cons_append, List.nil_append, and_true, Nat.reduceAdd, Nat.add_zero, Nat.zero_add] at hOpen
        obtain ⟨s0, s1, s2, s3, s4, s5, s6, s7, s8, s9, sA, sB⟩ := hOpen
        have g0 := HR.out.frozen 0
        have g1 := HR.out.frozen 1
        have g2 := HR.out.frozen 2
        have g3 := HR.out.frozen 3
        have g4 := HR.out.frozen 4
        have g5 := HR.out.frozen 5
        have g6 := HR.out.frozen 6
        have g7 := HR.out.frozen 7
        have g8 := HR.out.frozen 8
        have g9 := HR.out.frozen 9
        have gA := HR.out.frozen 10
        have gB := HR.out.frozen 11
        obtain ⟨b12, h12, o12⟩ := set12 HR.out (.int .i64 5) (.int .i64 0) (.int .u16 0) (.int .u16 0) (.int .u64 0) (.int .u64 0) (.int .i64 0) (.int .i64 0) (.int .i64 0) (.bool false) (.slice none 0 0) (.slice none 0 0)
        have HF := Lib.hid (h12 w.heap.size w (by simp) HB.out)
        obtain ⟨r0, r1, r2, r3, r4, r5, r6, r7, r8, r9, rA, rB, _⟩ := b12.cells
        simp only [Nat.zero_add, Nat.add_zero] at r0 r1 r2 r3 r4 r5 r6 r7 r8 r9 rA rB
        clear TP TR b12 h12 o12
        go_wp2
        refine bodyPost_ret (v := .tuple #[.agg #[.int .i64 5, .int .i64 0, .int .u16 0, .int .u16 0, .int .u64 0, .int .u64 0, .int .i64 0, .int .i64 0, .int .i64 0, .bool false, .slice none 0 0, .slice none 0 0], .int .i64 3]) (by simp [results, Try.results61, go_sem, r0, r1, r2, r3, r4, r5, r6, r7, r8, r9, rA, rB]) rfl ?_
        exact lsE_err 3 5 nm0 73 _ w _ (by decide) none 0 0 HF.out
    have hq0 : q ≠ [] := fun e => hbad3 (.inl e)
    have hmod : n2 % s = 0 := by rw [← HQL.out]; exact Decidable.byContradiction fun e => hbad3 (.inr e)
    have hn20 : 0 < n2 := by rw [← HQL.out]; exact List.length_pos_iff.2 hq0
    have g4 : ((n2 : Int) == 0) = false := by simp; omega
    have g5 : (((n2 % s : Nat) : Int) != 0) = false := by rw [hmod]; rfl
    have g5n : (((n2 : Int) % (s : Int)) != 0) = false := g5
    have g6 : ((s : Int) == 0) = false := by simp; omega
    obtain ⟨N, hN⟩ : ∃ N, q.length / s = N := ⟨_, rfl⟩
    have hlse : EE = erL 5 s q 0 N := by rw [← hEE]; simp only [lsE, hs]; rw [if_neg hbad3, hN]
    have hlsl : lsL 5 (y :: q) = (List.range N).map fun j => dtD 5 (chn s q j) := by simp only [lsL, hs]; rw [if_neg hbad3, hN]
    have hNs : n2 = N * s := by rw [← hN, HQL.out]; exact (Nat.div_mul_cancel (Nat.dvd_of_mod_eq_zero hmod)).symm
    have hNb : N ≤ 1000 := by rw [← hN, HQL.out]; exact Nat.le_trans (Nat.div_le_self _ _) (by omega)
    have HNS := Lib.hid hNs
    have HLSE := Lib.hid hlse
    have HLSL := Lib.hid hlsl
    obtain ⟨i1, hI1, hw0, hw1, hw2⟩ := info_parts Try.info_u8
    obtain ⟨i0, hi0, hz0, hz1, hz2⟩ := info_parts Try.info_item
    clear hEE hbad3 hs hq0 hmod hN hlse hlsl hNs
    go_enter Try.func61, Try.ntmps61
    go_upto_region 1 with fail
    generalize hV : World.alloc _ _ = V at HP HR HB ⊢
    have hVs : V.heap.size = w.heap.size + 2 := by rw [← hV]; simp
    clear hV
    have kv := kc HKX.out HB.out
    have TP := HP.out.cells
    have hOpen := TP
    simp only [Cells, blk, List.cons_append, List.nil_append, and_true, Nat.reduceAdd, Nat.add_zero, Nat.zero_add] at hOpen
    obtain ⟨y0, y1, y2, y3, y4, y5, y6, y7, y8, y9, yA, yB⟩ := hOpen
    clear TP
    go_wp2
    try simp only [g5n]
    clear kv y0 y1 y2 y3 y4 y5 y6 y7 y8 y9 yA yB
    go_loopw [9, 10, 11, 12] (fun at' _ _ _ wr => ∃ (j : Nat) (A : Nat) (L : Value) (its : List It), at' = .int .i64 A ∧ j ≤ N ∧ Hid (A = j * s) ∧ its.length = j ∧ Hid (erL 5 s q 0 N = erL 5 s q j (N - j)) ∧ Hid (its.map dat = (List.range j).map fun i => dtD 5 (chn s q i)) ∧ Blk wr w.heap.size 29 [.int .i64 5, .int .i64 0, .int .u16 0, .int .u16 0, .int .u64 0, .int .u64 0, .int .i64 0, .int .i64 0, .int .i64 0, .bool false, .slice none 0 0, L] ∧ Blk wr (w.heap.size + 1) 29 [.int .i64 0, .int .i64 0, .int .u16 0, .int .u16 0, .int .u64 0, .int .u64 0, .int .i64 0, .int .i64 0, .int .i64 0, .bool false, .slice none 0 0, .slice none 0 0] ∧ wr.ownsRow (w.heap.size + 2) 46 5 L j (its.flatMap itc) ∧ Hid (∀ t ∈ its, ItOwn wr (w.heap.size + 2) t) ∧ Hid (∀ t ∈ its, t.n ≤ 1000) ∧ Below w.heap.size w wr ∧ w.heap.size + 2 ≤ wr.heap.size) (fun at' _ _ _ _ => n2 + 1 - (intOf at').toNat)
    case atStart => exact ⟨0, 0, .slice none 0 0, [], by simp, Nat.zero_le _, Lib.hid (by simp), rfl, Lib.hid rfl, Lib.hid rfl, HP.out, HR.out, (by simpa using World.ownsRow_nil V (w.heap.size + 2) 46 5), Lib.hid (by simp), Lib.hid (by simp), HB.out, Nat.le_of_eq hVs.symm⟩
    case round =>
      obtain ⟨j, A, L, its, rfl, hj, hA, hjl, herl, hmap, bP, bR, hown, hio, hin, hBr, hwrs⟩ := hrel
      have TP := bP.cells
      have hOpen := TP
      simp only [Cells, blk, List.cons_append, List.nil_append, and_true, Nat.reduceAdd, Nat.add_zero, Nat.zero_add] at hOpen
      obtain ⟨y0, y1, y2, y3, y4, y5, y6, y7, y8, y9, yA, yB⟩ := hOpen
      clear TP
      by_cases hlt : j < N
      · have hjN : j * s + s ≤ N * s := by rw [← Nat.succ_mul]; exact Nat.mul_le_mul_right _ hlt
        have hAs : A + s ≤ n2 := by rw [hA.out, HNS.out]; exact hjN
        have hAn : A < n2 := by omega
        have q1 : decide (A < n2) = true := by simpa using hAn
        have q1' : decide ((A : Int) < (n2 : Int)) = true := by simp; omega
        have hqs : j * s + s ≤ q.length := by rw [HQL.out, HNS.out]; exact hjN
        have hchl : (chn s q j).length = s := chn_len s q j hqs
        have hchb : ∀ x ∈ chn s q j, x < 256 := fun x hx => HBY2.out.2.2 x (by unfold chn at hx; exact List.mem_of_mem_drop (List.mem_of_mem_take hx))
        have hnum := fun W (hW : Below w.heap.size w W) => num_any _ q A 2 W (HBY2.out.below hW) (by rw [HQL.out]; omega) (by omega) (by rw [HQL.out]; omega)
        have ev0 : (q.drop A).take 2 = (chn s q j).take 2 := by rw [hA.out]; have := chn_num s q j 0 (by omega); simpa using this
        rw [ev0] at hnum
        have hV0b := vnum2_lt (chn s q j) hchb
        obtain ⟨V0, hV0⟩ : ∃ v, vnum ((chn s q j).take 2) = v := ⟨_, rfl⟩
        simp only [hV0] at hnum
        rw [hV0] at hV0b
        have hw0' : IntKind.u16.wrap (V0 : Int) = (V0 : Int) := IntWalk.u16_in _ (by omega)
        have hst := erL_step 5 s q j N hlt
        obtain ⟨a5, c5, hb5, hsl5⟩ := bytes_mid w a2 n2 c2 (A + 2) (A + s) q HBY2.out HQL.out hc2 (by omega) hAs
        replace hsl5 : ∀ W, (Instr.slice 26 (.slice a2 n2 c2) (some (.int .i64 ((A : Int) + 2))) (some (.int .i64 ((A : Int) + (s : Int)))) none).run Try.prog W = .ok (.slice a5 (s - 2) c5) W := fun W => by
          have := hsl5 W
          rw [show A + s - (A + 2) = s - 2 by omega] at this
          rwa [show ((A + 2 : Nat) : Int) = (A : Int) + 2 by simp, show ((A + s : Nat) : Int) = (A : Int) + (s : Int) by simp] at this
        have ev5 : (q.drop (A + 2)).take (A + s - (A + 2)) = (chn s q j).drop 2 := by rw [hA.out, show j * s + s - (j * s + 2) = s - 2 by omega]; exact chn_parts s q j 2 (by omega)
        rw [ev5, show A + s - (A + 2) = s - 2 by omega] at hb5
        have hdec := fun W (hW : Below w.heap.size w W) => rdecode_any _ ((chn s q j).drop 2) W (hb5.below hW) (by rw [List.length_drop, hchl]; omega)
        have hdlt := decR_lt ((chn s q j).drop 2) (fun x hx => hchb x (List.mem_of_mem_drop hx))
        have her : erD 5 (chn s q j) = (decR ((chn s q j).drop 2)).2.2 := by unfold erD; rw [if_pos rfl]
        have hdd : dtD 5 (chn s q j) = ⟨V0, 0, (decR ((chn s q j).drop 2)).1, (decR ((chn s q j).drop 2)).2.1, []⟩ := by simp [dtD, dat, itD, hV0]
        obtain ⟨⟨D1, D2, D3⟩, hD⟩ : ∃ D, decR ((chn s q j).drop 2) = D := ⟨_, rfl⟩
        rw [hD] at hdlt her hdd
        simp only [hD] at hdec
        obtain ⟨hd1, hd2⟩ := hdlt
        simp only at hd1 hd2
        rw [her] at hst
        obtain ⟨S2, hS2⟩ : ∃ x, s - 2 = x := ⟨_, rfl⟩
        rw [hS2] at hsl5
        simp only [hS2] at hdec
        have HDEC := Lib.hid hdec
        have HDAT0 := Lib.hid hdd
        clear hdec hb5 ev5 her hdd hD hS2
        have hbi := build_item V0
        have w9 : IntKind.i64.wrap ((A : Int) + (s : Int)) = ((A + s : Nat) : Int) := by rw [IntWalk.i64_in _ (by omega)]; simp
        have w9' : IntKind.i64.wrap ((A : Int) + 2) = ((A + 2 : Nat) : Int) := by rw [IntWalk.i64_in _ (by omega)]; simp
        have w9'' : IntKind.i64.wrap ((A : Int) + 4) = ((A + 4 : Nat) : Int) := by rw [IntWalk.i64_in _ (by omega)]; simp
        have HNUM := Lib.hid hnum
        have HA := Lib.hid hA.out
        have HST := Lib.hid (herl.out.trans hst)
        have HBr := Lib.hid hBr
        have HP1 := Lib.hid bP
        have HR1 := Lib.hid bR
        have HOWN := Lib.hid hown
        have HV0 := Lib.hid hV0
        have HCHL := Lib.hid hchl
        clear hnum ev0 hV0 hst hchb hqs hjN hchl hA herl hBr bP bR hown
        go_wp2_with fail
        refine (HNUM.out _ HBr.out).mono ?_
        rintro e w' ⟨rfl, rfl⟩
        have bI := Blk.new wr 46 [.int .u16 V0, .int .u16 0, .int .u64 0, .int .u64 0, .slice none 0 0]
        have hbI : Below wr.heap.size wr (wr.alloc (.cells #[.int .u16 V0, .int .u16 0, .int .u64 0, .int .u64 0, .slice none 0 0] 46)) := (Below.refl _ _).alloc (Nat.le_refl _) _
        have HX := Lib.hid (And.intro bI hbI)
        clear bI hbI hbi
        go_upto_region 19 with fail
        generalize World.alloc _ _ = X1 at HX ⊢
        obtain ⟨bI, hbI⟩ := HX.out
        have TP := (HP1.out.below hbI).cells
        clear y0 y1 y2 y3 y4 y5 y6 y7 y8 y9 yA yB
        have hOpen := TP
        simp only [Cells, blk, List.cons_append, List.nil_append, and_true, Nat.reduceAdd, Nat.add_zero, Nat.zero_add] at hOpen
        obtain ⟨y0, y1, y2, y3, y4, y5, y6, y7, y8, y9, yA, yB⟩ := hOpen
        have TI := bI.cells
        have hOpen := TI
        simp only [Cells, blk, List.cons_append, List.nil_append, and_true, Nat.reduceAdd, Nat.add_zero, Nat.zero_add] at hOpen
        obtain ⟨z0, z1, z2, z3, z4⟩ := hOpen
        have HBI := Lib.hid bI
        have HW1 := Lib.hid hbI
        clear TP TI bI hbI HX
        go_wp2_with fail
        refine (HDEC.out _ (HBr.out.trans (HW1.out.mono HBr.out.size))).mono ?_
        rintro e w5 ⟨rfl, hB5⟩
        have halU := (Below.refl w5.heap.size w5).alloc (Nat.le_refl _) (.cells #[.int .u64 D1, .int .u64 D2] 25)
        have bU := Blk.new w5 25 [.int .u64 D1, .int .u64 D2]
        have hW5 := (HW1.out.trans (hB5.mono HW1.out.size)).trans (halU.mono (Nat.le_trans HW1.out.size hB5.size))
        have HX := Lib.hid (And.intro ((HBI.out.below hB5).below halU) hW5)
        clear y0 y1 y2 y3 y4 y5 y6 y7 y8 y9 yA yB z0 z1 z2 z3 z4 hB5 halU hW5 HBI HW1
        go_upto_region 21 with fail
        generalize World.alloc _ _ = X5 at HX bU ⊢
        have HBI := Lib.hid HX.out.1
        have HW1 := Lib.hid HX.out.2
        have HBU := Lib.hid bU
        clear HX bU
        by_cases hD3 : D3 = 0
        rotate_left
        · have t3 : (D3 != 0) = true := by simpa using hD3
          obtain rfl : EE = D3 := by rw [HLSE.out, HST.out, if_neg hD3]
          obtain ⟨al, cl, rfl⟩ := own_slice HOWN.out
          have HPx := Lib.hid (HP1.out.below HW1.out)
          have HRx := Lib.hid (HR1.out.below HW1.out)
          have HBx := Lib.hid (HBr.out.trans (HW1.out.mono HBr.out.size))
          have HD3 := Lib.hid hD3
          clear hD3
          go_upto_region 22 with fail
          have TP := HPx.out.cells
          have hOpen := TP
          simp only [Cells, blk, List.cons_append, List.nil_append, and_true, Nat.reduceAdd, Nat.add_zero, Nat.zero_add] at hOpen
          obtain ⟨y0, y1, y2, y3, y4, y5, y6, y7, y8, y9, yA, yB⟩ := hOpen
          have TR := HRx.out.cells
          have hOpen := TR
          simp only [Cells, blk, List.cons_append, List.nil_append, and_true, Nat.reduceAdd, Nat.add_zero, Nat.zero_add] at hOpen
          obtain ⟨s0, s1, s2, s3, s4, s5, s6, s7, s8, s9, sA, sB⟩ := hOpen
          have g0 := HRx.out.frozen 0
          have g1 := HRx.out.frozen 1
          have g2 := HRx.out.frozen 2
          have g3 := HRx.out.frozen 3
          have g4 := HRx.out.frozen 4
          have g5 := HRx.out.frozen 5
          have g6 := HRx.out.frozen 6
          have g7 := HRx.out.frozen 7
          have g8 := HRx.out.frozen 8
          have g9 := HRx.out.frozen 9
          have gA := HRx.out.frozen 10
          have gB := HRx.out.frozen 11
          obtain ⟨b12, h12, o12⟩ := set12 HRx.out (.int .i64 5) (.int .i64 0) (.int .u16 0) (.int .u16 0) (.int .u64 0) (.int .u64 0) (.int .i64 0) (.int .i64 0) (.int .i64 0) (.bool false) (.slice none 0 0) (.slice al j cl)
          have HF := Lib.hid (h12 w.heap.size w (by simp) HBx.out)
          obtain ⟨r0, r1, r2, r3, r4, r5, r6, r7, r8, r9, rA, rB, _⟩ := b12.cells
          simp only [Nat.zero_add, Nat.add_zero] at r0 r1 r2 r3 r4 r5 r6 r7 r8 r9 rA rB
          clear TP TR b12 h12 o12
          go_wp2
          refine bodyPost_ret (v := .tuple #[.agg #[.int .i64 5, .int .i64 0, .int .u16 0, .int .u16 0, .int .u64 0, .int .u64 0, .int .i64 0, .int .i64 0, .int .i64 0, .bool false, .slice none 0 0, .slice al j cl], .int .i64 EE]) (by simp [results, Try.results61, go_sem, r0, r1, r2, r3, r4, r5, r6, r7, r8, r9, rA, rB]) rfl ?_
          exact lsE_err EE 5 nm0 73 _ w _ HD3.out al j cl HF.out
        subst hD3
        have HERL := Lib.hid (show erL 5 s q 0 N = erL 5 s q (j + 1) (N - (j + 1)) by have := HST.out; simpa using this)
        have TI := HBI.out.cells
        have TU := HBU.out.cells
        have TP := (HP1.out.below HW1.out).cells
        have hOpen := TP
        simp only [Cells, blk, List.cons_append, List.nil_append, and_true, Nat.reduceAdd, Nat.add_zero, Nat.zero_add] at hOpen
        obtain ⟨y0, y1, y2, y3, y4, y5, y6, y7, y8, y9, yA, yB⟩ := hOpen
        have hOpen := TI
        simp only [Cells, blk, List.cons_append, List.nil_append, and_true, Nat.reduceAdd, Nat.add_zero, Nat.zero_add] at hOpen
        obtain ⟨z0, z1, z2, z3, z4⟩ := hOpen
        have hOpen := TU
        simp only [Cells, blk, List.cons_append, List.nil_append, and_true, Nat.reduceAdd, Nat.add_zero, Nat.zero_add] at hOpen
        obtain ⟨d0, d1⟩ := hOpen
        clear TP TI TU
        have fz2 := HBI.out.frozen 2
        have fz3 := HBI.out.frozen 3
        have bI2 := (HBI.out.setAt (j := 2) (.int .u64 D1)).setAt (j := 3) (.int .u64 D2)
        simp only [List.set_cons_zero, List.set_cons_succ] at bI2
        have HX := Lib.hid (And.intro bI2 ((HW1.out.setCell (p := ⟨wr.heap.size, 2, none⟩) (Nat.le_refl _) (.int .u64 D1)).setCell (p := ⟨wr.heap.size, 3, none⟩) (Nat.le_refl _) (.int .u64 D2)))
        clear bI2 HBI HW1
        go_upto_region 25 with fail
        clear y0 y1 y2 y3 y4 y5 y6 y7 y8 y9 yA yB z0 z1 z2 z3 z4 d0 d1 fz2 fz3 HBU
        generalize World.setCell _ _ _ = X6 at HX ⊢
        have HBI := Lib.hid HX.out.1
        have HW1 := Lib.hid HX.out.2
        clear HX
        have TI := HBI.out.cells
        have TP := (HP1.out.below HW1.out).cells
        have hOpen := TP
        simp only [Cells, blk, List.cons_append, List.nil_append, and_true, Nat.reduceAdd, Nat.add_zero, Nat.zero_add] at hOpen
        obtain ⟨y0, y1, y2, y3, y4, y5, y6, y7, y8, y9, yA, yB⟩ := hOpen
        have hOpen := TI
        simp only [Cells, blk, List.cons_append, List.nil_append, and_true, Nat.reduceAdd, Nat.add_zero, Nat.zero_add] at hOpen
        obtain ⟨z0, z1, z2, z3, z4⟩ := hOpen
        clear TP TI
        have HITO : Hid (ItOwn X6 (w.heap.size + 2) ⟨V0, 0, D1, D2, none, 0, 0, []⟩) := Lib.hid ⟨show V0 < 65536 by omega, show (0 : Nat) < 65536 by omega, hd1, hd2, rfl, by simp, by simpa [bcells] using World.ownsRow_nil X6 (w.heap.size + 2) 5 1⟩
        have HDAT : Hid (dat ⟨V0, 0, D1, D2, none, 0, 0, []⟩ = dtD 5 (chn s q j)) := Lib.hid HDAT0.out.symm
        have HTN : Hid ((0 : Nat) ≤ 1000) := Lib.hid (by omega)
        have bA := (HBI.out).alloc (.cells #[.int .u16 V0, .int .u16 0, .int .u64 D1, .int .u64 D2, .slice none 0 0] 46)
        have bN := Blk.new X6 46 [.int .u16 V0, .int .u16 0, .int .u64 D1, .int .u64 D2, .slice none 0 0]
        have halA : Below X6.heap.size X6 (X6.alloc (.cells #[.int .u16 V0, .int .u16 0, .int .u64 D1, .int .u64 D2, .slice none 0 0] 46)) := (Below.refl _ _).alloc (Nat.le_refl _) _
        have hWA := HW1.out.trans (halA.mono HW1.out.size)
        have hownA := own_below HOWN.out hWA
        have hPA := HP1.out.below hWA
        have hRA := HR1.out.below hWA
        have hBA := HBr.out.trans (hWA.mono HBr.out.size)
        have hioA : ∀ t ∈ its, ItOwn (X6.alloc (.cells #[.int .u16 V0, .int .u16 0, .int .u64 D1, .int .u64 D2, .slice none 0 0] 46)) (w.heap.size + 2) t := fun t ht => (hio.out t ht).below hWA
        have hitA : ItOwn (X6.alloc (.cells #[.int .u16 V0, .int .u16 0, .int .u64 D1, .int .u64 D2, .slice none 0 0] 46)) (w.heap.size + 2) ⟨V0, 0, D1, D2, none, 0, 0, []⟩ := HITO.out.below halA
        have hsA := Nat.le_trans hwrs hWA.size
        have HA27 := Lib.hid (And.intro hPA (And.intro hRA (And.intro hBA (And.intro hioA (And.intro hitA hsA)))))
        have hnews : ∀ i u, [.int .u16 V0, .int .u16 0, .int .u64 D1, .int .u64 D2, .slice none 0 0][i]? = some u → (X6.alloc (.cells #[.int .u16 V0, .int .u16 0, .int .u64 D1, .int .u64 D2, .slice none 0 0] 46)).cell? ((⟨X6.heap.size, 0, none⟩ : Addr).add i) = some u := fun i u hu => by rw [addr_off, Nat.zero_add]; exact bN.cell hu
        have HNW := Lib.hid hnews
        have HONA := Lib.hid hownA
        clear bA halA hWA hPA hRA hBA hioA hitA hnews hownA
        go_wp2_with (at_builtin; refine wpList_append_own _ rfl _ _ 27 rfl (w.heap.size + 2) 46 i0 (.agg #[.int .u16 0, .int .u16 0, .int .u64 0, .int .u64 0, .slice none 0 0]) 5 48 Try.underlying27 hi0 hz0 hz1 hz2 rfl (by decide) L j (its.flatMap itc) rfl HONA.out ⟨X6.heap.size, 0, none⟩ 1 1 [.int .u16 V0, .int .u16 0, .int .u64 D1, .int .u64 D2, .slice none 0 0] rfl rfl HNW.out (itc_one [⟨V0, 0, D1, D2, none, 0, 0, []⟩]) (by unfold maxLen; omega) (by omega) hsA ?_)
        intro L2' w7 hown7 hg _
        obtain ⟨al2, cl2, rfl⟩ := own_slice hown7
        obtain ⟨L2, hL2⟩ : ∃ v : Value, v = .slice al2 (j + 1) cl2 := ⟨_, rfl⟩
        rw [← hL2] at hown7
        obtain ⟨hPA, hRA, hBA, hioA, hitA, hsA'⟩ := HA27.out
        have hownr := HONA.out
        have bP7 := hPA.kept hg (hPA.not_row (by decide) hownr)
        have bR7 := hRA.kept hg (hRA.not_row (by decide) hownr)
        have hB7 := hBA.grown hg (by omega) (fun p hp => by have := (hownr.lt p hp).1; omega)
        have hio7 : ∀ t ∈ its, ItOwn w7 (w.heap.size + 2) t := fun t ht => (hioA t ht).grow hownr (by decide) hg
        have hit7 := hitA.grow hownr (by decide) hg
        have hs7 := Nat.le_trans hsA' hg.size
        have f11 := bP7.frozen 11
        have bP8 := bP7.setAt (j := 11) L2
        have HL2 := Lib.hid hL2
        simp only [List.set_cons_zero, List.set_cons_succ] at bP8
        have hownL : w7.ownsRow (w.heap.size + 2) 46 5 L2 (j + 1) ((its ++ [(⟨V0, 0, D1, D2, none, 0, 0, []⟩ : It)]).flatMap itc) := by
          rw [List.flatMap_append]
          exact hown7
        have hset7 : ∀ t ∈ its, ItOwn (w7.setCell ⟨w.heap.size, 11, none⟩ L2) (w.heap.size + 2) t := fun t ht => (hio7 t ht).set bP7 (by decide) 11 L2
        have HY := Lib.hid (And.intro bP8 (And.intro (bR7.other (show w.heap.size + 1 ≠ w.heap.size by omega) (o := 11) L2) (And.intro (own_set hownL bP7 (by decide) 11 L2) (And.intro hset7 (And.intro (hit7.set bP7 (by decide) 11 L2) (And.intro (hB7.setCell (p := ⟨w.heap.size, 11, none⟩) (Nat.le_refl _) L2) (show w.heap.size + 2 ≤ (w7.setCell ⟨w.heap.size, 11, none⟩ L2).heap.size by rw [World.size_setCell]; exact hs7)))))))
        have TP7 := bP7.cells
        clear hPA hRA hBA hioA hitA hsA' hownr bR7 hB7 hio7 hit7 hs7 bP7 bP8 hset7 hownL hown7 hg hsA hL2 y0 y1 y2 y3 y4 y5 y6 y7 y8 y9 yA yB z0 z1 z2 z3 z4
        have hOpen := TP7
        simp only [Cells, blk, List.cons_append, List.nil_append, and_true, Nat.reduceAdd, Nat.add_zero, Nat.zero_add] at hOpen
        obtain ⟨y0, y1, y2, y3, y4, y5, y6, y7, y8, y9, yA, yB⟩ := hOpen
        clear TP7
        rw [HL2.out] at HY
        go_upto_region 17 with fail
        clear f11 y0 y1 y2 y3 y4 y5 y6 y7 y8 y9 yA yB
        generalize World.setCell _ _ _ = W9 at HY ⊢
        have hdat : dat ⟨V0, 0, D1, D2, none, 0, 0, []⟩ = dtD 5 (chn s q j) := HDAT.out
        have HREL := Lib.hid (show ∃ (j2 A2 : Nat) (L3 : Value) (its2 : List It), Value.int .i64 ((A : Int) + (s : Int)) = .int .i64 A2 ∧ j2 ≤ N ∧ Hid (A2 = j2 * s) ∧ its2.length = j2 ∧ Hid (erL 5 s q 0 N = erL 5 s q j2 (N - j2)) ∧ Hid (its2.map dat = (List.range j2).map fun i => dtD 5 (chn s q i)) ∧ Blk W9 w.heap.size 29 [.int .i64 5, .int .i64 0, .int .u16 0, .int .u16 0, .int .u64 0, .int .u64 0, .int .i64 0, .int .i64 0, .int .i64 0, .bool false, .slice none 0 0, L3] ∧ Blk W9 (w.heap.size + 1) 29 [.int .i64 0, .int .i64 0, .int .u16 0, .int .u16 0, .int .u64 0, .int .u64 0, .int .i64 0, .int .i64 0, .int .i64 0, .bool false, .slice none 0 0, .slice none 0 0] ∧ W9.ownsRow (w.heap.size + 2) 46 5 L3 j2 (its2.flatMap itc) ∧ Hid (∀ t ∈ its2, ItOwn W9 (w.heap.size + 2) t) ∧ Hid (∀ t ∈ its2, t.n ≤ 1000) ∧ Below w.heap.size w W9 ∧ w.heap.size + 2 ≤ W9.heap.size from
          ⟨j + 1, A + s, .slice al2 (j + 1) cl2, its ++ [⟨V0, 0, D1, D2, none, 0, 0, []⟩], by simp, hlt, Lib.hid (by rw [HA.out, Nat.succ_mul]), by rw [List.length_append, hjl]; rfl, Lib.hid HERL.out, Lib.hid (by rw [List.map_append, hmap.out, List.range_succ, List.map_append]; simp [hdat]), HY.out.1, HY.out.2.1, HY.out.2.2.1,
            Lib.hid (fun t ht => by
              rcases List.mem_append.1 ht with h | h
              · exact HY.out.2.2.2.1 t h
              · rw [List.mem_singleton] at h; subst h; exact HY.out.2.2.2.2.1),
            Lib.hid (fun t ht => by
              rcases List.mem_append.1 ht with h | h
              · exact hin.out t h
              · rw [List.mem_singleton] at h; subst h; exact HTN.out), HY.out.2.2.2.2.2.1, HY.out.2.2.2.2.2.2⟩)
        clear HY hdat
        go_wp2
        obtain ⟨j2, A2, L3, its2, e1, h2⟩ := HREL.out
        first
        | exact ⟨⟨j2, A2, L3, its2, e1, h2⟩, by simp [intOf]; omega⟩
        | (refine ⟨⟨j2, A2, L3, its2, e1, h2⟩, ?_⟩; simp [intOf]; omega)
      · obtain rfl : N = j := by omega
        have q1 : decide (A < n2) = false := by simp; have := hA.out; have := HNS.out; omega
        have q1' : decide ((A : Int) < (n2 : Int)) = false := by simp; have := hA.out; have := HNS.out; omega
        obtain rfl : EE = 0 := by rw [HLSE.out, herl.out, Nat.sub_self]; rfl
        obtain ⟨al, cl, rfl⟩ := own_slice hown
        have hpd : pdOf 5 nm0 73 (y :: q) = ⟨5, nm0, 0, 0, [], its.map dat⟩ := by simp [pdOf, HLSL.out, hmap.out]
        have HPD := Lib.hid hpd
        have HJL := Lib.hid hjl
        have HP1 := Lib.hid bP
        have HR1 := Lib.hid bR
        have HBr := Lib.hid hBr
        have HOWN := Lib.hid hown
        clear hpd bP bR hBr hown
        go_upto_region 28 with fail
        clear y0 y1 y2 y3 y4 y5 y6 y7 y8 y9 yA yB
        have TP := HP1.out.cells
        have hOpen := TP
        simp only [Cells, blk, List.cons_append, List.nil_append, and_true, Nat.reduceAdd, Nat.add_zero, Nat.zero_add] at hOpen
        obtain ⟨y0, y1, y2, y3, y4, y5, y6, y7, y8, y9, yA, yB⟩ := hOpen
        have TR := HR1.out.cells
        have hOpen := TR
        simp only [Cells, blk, List.cons_append, List.nil_append, and_true, Nat.reduceAdd, Nat.add_zero, Nat.zero_add] at hOpen
        obtain ⟨s0, s1, s2, s3, s4, s5, s6, s7, s8, s9, sA, sB⟩ := hOpen
        have g0 := HR1.out.frozen 0
        have g1 := HR1.out.frozen 1
        have g2 := HR1.out.frozen 2
        have g3 := HR1.out.frozen 3
        have g4 := HR1.out.frozen 4
        have g5 := HR1.out.frozen 5
        have g6 := HR1.out.frozen 6
        have g7 := HR1.out.frozen 7
        have g8 := HR1.out.frozen 8
        have g9 := HR1.out.frozen 9
        have gA := HR1.out.frozen 10
        have gB := HR1.out.frozen 11
        obtain ⟨b12, h12, o12⟩ := set12 HR1.out (.int .i64 5) (.int .i64 0) (.int .u16 0) (.int .u16 0) (.int .u64 0) (.int .u64 0) (.int .i64 0) (.int .i64 0) (.int .i64 0) (.bool false) (.slice none 0 0) (.slice al N cl)
        have HF := Lib.hid (h12 w.heap.size w (by simp) HBr.out)
        have hl5 := own_base (o12 _ _ _ _ _ _ (by decide) HOWN.out) (show w.heap.size ≤ w.heap.size + 2 by omega)
        have hio5 := fun t ht => let h := hio.out t ht; ItOwn.base (show ItOwn _ (w.heap.size + 2) t from ⟨h.1, h.2.1, h.2.2.1, h.2.2.2.1, h.2.2.2.2.1, h.2.2.2.2.2.1, o12 _ _ _ _ _ _ (by decide) h.2.2.2.2.2.2⟩) (show w.heap.size ≤ w.heap.size + 2 by omega)
        have HIT := Lib.hid (And.intro hl5 hio5)
        clear hl5 hio5
        obtain ⟨r0, r1, r2, r3, r4, r5, r6, r7, r8, r9, rA, rB, _⟩ := b12.cells
        simp only [Nat.zero_add, Nat.add_zero] at r0 r1 r2 r3 r4 r5 r6 r7 r8 r9 rA rB
        clear TP TR b12 h12 o12
        go_wp2
        refine bodyPost_ret (v := .tuple #[.agg #[.int .i64 5, .int .i64 0, .int .u16 0, .int .u16 0, .int .u64 0, .int .u64 0, .int .i64 0, .int .i64 0, .int .i64 0, .bool false, .slice none 0 0, .slice al N cl], .int .i64 0]) (by simp [results, Try.results61, go_sem, r0, r1, r2, r3, r4, r5, r6, r7, r8, r9, rA, rB]) rfl ?_
        exact ⟨0, 0, none, 0, 0, [], al, N, cl, its, rfl, HF.out, fun _ => ⟨HPD.out, nil_u8 _ _, rfl, by omega, by simp, HIT.out.1, HIT.out.2, HJL.out, hNb, fun t ht => by have := hin.out t ht; omega⟩⟩
end Go.Proofs.Ythnffdlnhfhabaa
namespace Go.Proofs.Ythnffdlnhfhabaa
open Go.RowKit

set_option linter.unusedSimpArgs false in
set_option linter.unusedVariables false in
set_option maxRecDepth 100000 in
set_option maxHeartbeats 8000000 in
theorem listed_9 (a : Option Addr) (n c : Nat) (b : List Nat) (w : World) (h : BytesAt w (.slice a n c) b) (hn : b.length = n) (hc : n ≤ c) (hK : 2 ≤ n) (hm : n ≤ 1000) :
    Calls Try.prog 61 #[.agg #[.int .i64 9, .int .i64 0, .int .u16 0, .int .u16 0, .int .u64 0, .int .u64 0, .int .i64 0, .int .i64 0, .int .i64 0, .bool false, .slice none 0 0, .slice none 0 0], .slice a n c] w (TakPost w 9 nm0 73 (b.drop 1) (lsE 9 (b.drop 1))) := by
  have hz := build_pdu
  obtain ⟨bb, off, rfl, kx, hyb⟩ := byte_at h hn 1 (by omega)
  obtain ⟨a2, c2, hby2, hc2, hs2⟩ := bytes_from w _ n c 2 b h hn hc (by omega)
  replace hs2 : ∀ W, (Instr.slice 26 (.slice (some ⟨bb, off, none⟩) n c) (some (.int .i64 2)) none none).run Try.prog W = .ok (.slice a2 (n - 2) c2) W := hs2
  have hb1 : b.drop 1 = vnum ((b.drop 1).take 1) :: b.drop 2 := by
    have hp : 1 < b.length := by omega
    rw [List.drop_eq_getElem_cons hp, List.take_succ_cons, List.take_zero]
    simp [vnum]
  obtain ⟨y, hy⟩ : ∃ y, vnum ((b.drop 1).take 1) = y := ⟨_, rfl⟩
  rw [hy] at kx hyb hb1
  rw [hb1]
  obtain ⟨q, hq⟩ : ∃ q, b.drop 2 = q := ⟨_, rfl⟩
  obtain ⟨n2, hn2⟩ : ∃ n2, n - 2 = n2 := ⟨_, rfl⟩
  have hql : q.length = n2 := by rw [← hq, List.length_drop]; omega
  rw [hq, hn2] at hby2
  rw [hq]
  rw [hn2] at hc2 hs2
  have hnb2 : n2 ≤ 1000 := by omega
  have hi1 : (1 : Int) < (n : Int) := by omega
  have y1' : (y : Int) < 256 := by omega
  obtain ⟨EE, hEE⟩ : ∃ E, lsE 9 (y :: q) = E := ⟨_, rfl⟩
  rw [hEE]
  have HBY2 := Lib.hid hby2
  have HQL := Lib.hid hql
  have HKX := Lib.hid kx
  have hB := ((Below.refl w.heap.size w).alloc (Nat.le_refl _) (.cells #[.int .i64 9, .int .i64 0, .int .u16 0, .int .u16 0, .int .u64 0, .int .u64 0, .int .i64 0, .int .i64 0, .int .i64 0, .bool false, .slice none 0 0, .slice none 0 0] 29)).alloc (by simp) (.cells #[.int .i64 0, .int .i64 0, .int .u16 0, .int .u16 0, .int .u64 0, .int .u64 0, .int .i64 0, .int .i64 0, .int .i64 0, .bool false, .slice none 0 0, .slice none 0 0] 29)
  have bP := (Blk.new w 29 [.int .i64 9, .int .i64 0, .int .u16 0, .int .u16 0, .int .u64 0, .int .u64 0, .int .i64 0, .int .i64 0, .int .i64 0, .bool false, .slice none 0 0, .slice none 0 0]).alloc (.cells #[.int .i64 0, .int .i64 0, .int .u16 0, .int .u16 0, .int .u64 0, .int .u64 0, .int .i64 0, .int .i64 0, .int .i64 0, .bool false, .slice none 0 0, .slice none 0 0] 29)
  have bR := Blk.new (w.alloc (.cells #[.int .i64 9, .int .i64 0, .int .u16 0, .int .u16 0, .int .u64 0, .int .u64 0, .int .i64 0, .int .i64 0, .int .i64 0, .bool false, .slice none 0 0, .slice none 0 0] 29)) 29 [.int .i64 0, .int .i64 0, .int .u16 0, .int .u16 0, .int .u64 0, .int .u64 0, .int .i64 0, .int .i64 0, .int .i64 0, .bool false, .slice none 0 0, .slice none 0 0]
  simp only [World.size_alloc] at bR
  have HP := Lib.hid bP
  have HR := Lib.hid bR
  have HB := Lib.hid hB
  clear h hn hby2 hql hq hn2 hb1 hy kx bP bR hB
  by_cases hbad : y < 2
  · have g1 : decide ((y : Int) < 2) = true := by simp; omega
    have g1' : decide (y < 2) = true := by simpa using hbad
    obtain rfl : EE = 2 := by rw [← hEE]; simp [lsE, lsN, hbad]
    clear hEE hbad
    go_enter Try.func61, Try.ntmps61
    go_upto_region 1 with fail
    generalize hV : World.alloc _ _ = V at HP HR HB ⊢
    have hVs : V.heap.size = w.heap.size + 2 := by rw [← hV]; simp
    clear hV
    have kv := kc HKX.out HB.out
    have TP := HP.out.cells
    have hOpen := TP
    simp only [Cells, blk, List.cons_append, List.nil_append, and_true, Nat.reduceAdd, Nat.add_zero, Nat.zero_add] at hOpen
    obtain ⟨y0, y1, y2, y3, y4, y5, y6, y7, y8, y9, yA, yB⟩ := hOpen
    clear TP
    go_upto_region 11 with fail
    clear kv y0 y1 y2 y3 y4 y5 y6 y7 y8 y9 yA yB
    have TP := HP.out.cells
    have hOpen := TP
    simp only [Cells, blk, List.cons_append, List.nil_append, and_true, Nat.reduceAdd, Nat.add_zero, Nat.zero_add] at hOpen
    obtain ⟨y0, y1, y2, y3, y4, y5, y6, y7, y8, y9, yA, yB⟩ := hOpen
    have TR := HR.out.cells
    have hOpen := TR
    simp only [Cells, blk, List.cons_append, List.nil_append, and_true, Nat.reduceAdd, Nat.add_zero, Nat.zero_add] at hOpen
    obtain ⟨s0, s1, s2, s3, s4, s5, s6, s7, s8, s9, sA, sB⟩ := hOpen
    have g0 := HR.out.frozen 0
    have g1 := HR.out.frozen 1
    have g2 := HR.out.frozen 2
    have g3 := HR.out.frozen 3
    have g4 := HR.out.frozen 4
    have g5 := HR.out.frozen 5
    have g6 := HR.out.frozen 6
    have g7 := HR.out.frozen 7
    have g8 := HR.out.frozen 8
    have g9 := HR.out.frozen 9
    have gA := HR.out.frozen 10
    have gB := HR.out.frozen 11
    obtain ⟨b12, h12, o12⟩ := set12 HR.out (.int .i64 9) (.int .i64 0) (.int .u16 0) (.int .u16 0) (.int .u64 0) (.int .u64 0) (.int .i64 0) (.int .i64 0) (.int .i64 0) (.bool false) (.slice none 0 0) (.slice none 0 0)
    have HF := Lib.hid (h12 w.heap.size w (by simp) HB.out)
    obtain ⟨r0, r1, r2, r3, r4, r5, r6, r7, r8, r9, rA, rB, _⟩ := b12.cells
    simp only [Nat.zero_add, Nat.add_zero] at r0 r1 r2 r3 r4 r5 r6 r7 r8 r9 rA rB
    clear TP TR b12 h12 o12
    go_wp2
    refine bodyPost_ret (v := .tuple #[.agg #[.int .i64 9, .int .i64 0, .int .u16 0, .int .u16 0, .int .u64 0, .int .u64 0, .int .i64 0, .int .i64 0, .int .i64 0, .bool false, .slice none 0 0, .slice none 0 0], .int .i64 2]) (by simp [results, Try.results61, go_sem, r0, r1, r2, r3, r4, r5, r6, r7, r8, r9, rA, rB]) rfl ?_
    exact lsE_err 2 9 nm0 73 _ w _ (by decide) none 0 0 HF.out
  have hs : lsN 9 y = some y := by simp [lsN, hbad]
  obtain ⟨s, hsv⟩ : ∃ s, s = y := ⟨_, rfl⟩
  rw [← hsv] at hs
  subst hsv
  have hs2' : 2 ≤ s ∧ s ≤ 255 := by omega
  obtain ⟨hsl, hsu⟩ := hs2'
  by_cases hbad3 : q = [] ∨ q.length % s ≠ 0
  · obtain rfl : EE = 3 := by rw [← hEE]; simp only [lsE, hs]; rw [if_pos hbad3]
    have hcase : n2 = 0 ∨ (n2 ≠ 0 ∧ n2 % s ≠ 0) := by
      rw [HQL.out] at hbad3
      rcases hbad3 with h | h
      · left; rw [← HQL.out, h]; rfl
      · by_cases h0 : n2 = 0
        · exact .inl h0
        · exact .inr ⟨h0, h⟩
    clear hEE hbad3 hs
    rcases hcase with h0 | ⟨h0, h3⟩
    · have g4 : ((n2 : Int) == 0) = true := by simp; omega
      clear h0
      go_enter Try.func61, Try.ntmps61
      go_upto_region 1 with fail
      generalize hV : World.alloc _ _ = V at HP HR HB ⊢
      have hVs : V.heap.size = w.heap.size + 2 := by rw [← hV]; simp
      clear hV
      have kv := kc HKX.out HB.out
      have TP := HP.out.cells
      have hOpen := TP
      simp only [Cells, blk, List.cons_append, List.nil_append, and_true, Nat.reduceAdd, Nat.add_zero, Nat.zero_add] at hOpen
      obtain ⟨y0, y1, y2, y3, y4, y5, y6, y7, y8, y9, yA, yB⟩ := hOpen
      clear TP
      go_upto_region 14 with fail
      clear kv y0 y1 y2 y3 y4 y5 y6 y7 y8 y9 yA yB
      have TP := HP.out.cells
      have hOpen := TP
      simp only [Cells, blk, List.cons_append, List.nil_append, and_true, Nat.reduceAdd, Nat.add_zero, Nat.zero_add] at hOpen
      obtain ⟨y0, y1, y2, y3, y4, y5, y6, y7, y8, y9, yA, yB⟩ := hOpen
      have TR := HR.out.cells
      have hOpen := TR
      simp only [Cells, blk, List.cons_append, List.nil_append, and_true, Nat.reduceAdd, Nat.add_zero, Nat.zero_add] at hOpen
      obtain ⟨s0, s1, s2, s3, s4, s5, s6, s7, s8, s9, sA, sB⟩ := hOpen
      have g0 := HR.out.frozen 0
      have g1 := HR.out.frozen 1
      have g2 := HR.out.frozen 2
      have g3 := HR.out.frozen 3
      have g4 := HR.out.frozen 4
      have g5 := HR.out.frozen 5
      have g6 := HR.out.frozen 6
      have g7 := HR.out.frozen 7
      have g8 := HR.out.frozen 8
      have g9 := HR.out.frozen 9
      have gA := HR.out.frozen 10
      have gB := HR.out.frozen 11
      obtain ⟨b12, h12, o12⟩ := set12 HR.out (.int .i64 9) (.int .i64 0) (.int .u16 0) (.int .u16 0) (.int .u64 0) (.int .u64 0) (.int .i64 0) (.int .i64 0) (.int .i64 0) (.bool false) (.slice none 0 0) (.slice none 0 0)
      have HF := Lib.hid (h12 w.heap.size w (by simp) HB.out)
      obtain ⟨r0, r1, r2, r3, r4, r5, r6, r7, r8, r9, rA, rB, _⟩ := b12.cells
      simp only [Nat.zero_add, Nat.add_zero] at r0 r1 r2 r3 r4 r5 r6 r7 r8 r9 rA rB
      clear TP TR b12 h12 o12
      go_wp2
      refine bodyPost_ret (v := .tuple #[.agg #[.int .i64 9, .int .i64 0, .int .u16 0, .int .u16 0, .int .u64 0, .int .u64 0, .int .i64 0, .int .i64 0, .int .i64 0, .bool false, .slice none 0 0, .slice none 0 0], .int .i64 3]) (by simp [results, Try.results61, go_sem, r0, r1, r2, r3, r4, r5, r6, r7, r8, r9, rA, rB]) rfl ?_
      exact lsE_err 3 9 nm0 73 _ w _ (by decide) none 0 0 HF.out
    · have g4 : ((n2 : Int) == 0) = false := by simp; omega
      have g5 : (((n2 % s : Nat) : Int) != 0) = true := by simp; omega
      have g5n : (((n2 : Int) % (s : Int)) != 0) = true := g5
      have g6 : ((s : Int) == 0) = false := by simp; omega
      clear h0 h3
      go_enter Try.func61, Try.ntmps61
      go_upto_region 1 with fail
      generalize hV : World.alloc _ _ = V at HP HR HB ⊢
      have hVs : V.heap.size = w.heap.size + 2 := by rw [← hV]; simp
      clear hV
      have kv := kc HKX.out HB.out
      have TP := HP.out.cells
      have hOpen := TP
      simp only [Cells, blk, List.cons_append, List.nil_append, and_true, Nat.reduceAdd, Nat.add_zero, Nat.zero_add] at hOpen
      obtain ⟨y0, y1, y2, y3, y4, y5, y6, y7, y8, y9, yA, yB⟩ := hOpen
      clear TP
      go_upto_region 14 with fail
      clear kv y0 y1 y2 y3 y4 y5 y6 y7 y8 y9 yA yB
      have TP := HP.out.cells
      have hOpen := TP
      simp only [Cells, blk, List.cons_append, List.nil_append, and_true, Nat.reduceAdd, Nat.add_zero, Nat.zero_add] at hOpen
      obtain ⟨y0, y1, y2, y3, y4, y5, y6, y7, y8, y9, yA, yB⟩ := hOpen
      have TR := HR.out.cells
      have hOpen := TR
      simp only [Cells, blk, List.cons_append, List.nil_append, and_true, Nat.reduceAdd, Nat.add_zero, Nat.zero_add] at hOpen
      obtain ⟨s0, s1, s2, s3, s4, s5, s6, s7, s8, s9, sA, sB⟩ := hOpen
      have g0 := HR.out.frozen 0
      have g1 := HR.out.frozen 1
      have g2 := HR.out.frozen 2
      have g3 := HR.out.frozen 3
      have g4 := HR.out.frozen 4
      have g5 := HR.out.frozen 5
      have g6 := HR.out.frozen 6
      have g7 := HR.out.frozen 7
      have g8 := HR.out.frozen 8
      have g9 := HR.out.frozen 9
      have gA := HR.out.frozen 10
      have gB := HR.out.frozen 11
      obtain ⟨b12, h12, o12⟩ := set12 HR.out (.int .i64 9) (.int .i64 0) (.int .u16 0) (.int .u16 0) (.int .u64 0) (.int .u64 0) (.int .i64 0) (.int .i64 0) (.int .i64 0) (.bool false) (.slice none 0 0) (.slice none 0 0)
      have HF := Lib.hid (h12 w.heap.size w (by simp) HB.out)
      obtain ⟨r0, r1, r2, r3, r4, r5, r6, r7, r8, r9, rA, rB, _⟩ := b12.cells
      simp only [Nat.zero_add, Nat.add_zero] at r0 r1 r2 r3 r4 r5 r6 r7 r8 r9 rA rB
      clear TP TR b12 h12 o12
      go_wp2
      refine bodyPost_ret (v := .tuple #[.agg #[.int .i64 9, .int .i64 0, .int .u16 0, .int .u16 0, .int .u64 0, .int .u64 0, .int .i64 0, .int .i64 0, .int .i64 0, .bool false, .slice none 0 0, .slice none 0 0], .int .i64 3]) (by simp [results, Try.results61, go_sem, r0, r1, r2, r3, r4, r5, r6, r7, r8, r9, rA, rB]) rfl ?_
      exact lsE_err 3 9 nm0 73 _ w _ (by decide) none 0 0 HF.out
  have hq0 : q ≠ [] := fun e => hbad3 (.inl e)
  have hmod : n2 % s = 0 := by rw [← HQL.out]; exact Decidable.byContradiction fun e => hbad3 (.inr e)
  have hn20 : 0 < n2 := by rw [← HQL.out]; exact List.length_pos_iff.2 hq0
  have g4 : ((n2 : Int) == 0) = false := by simp; omega
  have g5 : (((n2 % s : Nat) : Int) != 0) = false := by rw [hmod]; rfl
  have g5n : (((n2 : Int) % (s : Int)) != 0) = false := g5
  have g6 : ((s : Int) == 0) = false := by simp; omega
  obtain ⟨N, hN⟩ : ∃ N, q.length / s = N := ⟨_, rfl⟩
  have hlse : EE = erL 9 s q 0 N := by rw [← hEE]; simp only [lsE, hs]; rw [if_neg hbad3, hN]
  have hlsl : lsL 9 (s :: q) = (List.range N).map fun j => dtD 9 (chn s q j) := by simp only [lsL, hs]; rw [if_neg hbad3, hN]
  have hNs : n2 = N * s := by rw [← hN, HQL.out]; exact (Nat.div_mul_cancel (Nat.dvd_of_mod_eq_zero hmod)).symm
  have hNb : N ≤ 1000 := by rw [← hN, HQL.out]; exact Nat.le_trans (Nat.div_le_self _ _) (by omega)
  have HNS := Lib.hid hNs
  have HLSE := Lib.hid hlse
  have HLSL := Lib.hid hlsl
  obtain ⟨i1, hI1, hw0, hw1, hw2⟩ := info_parts Try.info_u8
  obtain ⟨i0, hi0, hz0, hz1, hz2⟩ := info_parts Try.info_item
  clear hEE hbad3 hs hq0 hmod hN hlse hlsl hNs
  go_enter Try.func61, Try.ntmps61
  go_upto_region 1 with fail
  generalize hV : World.alloc _ _ = V at HP HR HB ⊢
  have hVs : V.heap.size = w.heap.size + 2 := by rw [← hV]; simp
  clear hV
  have kv := kc HKX.out HB.out
  have TP := HP.out.cells
  have hOpen := TP
  simp only [Cells, blk, List.cons_append, List.nil_append, and_true, Nat.reduceAdd, Nat.add_zero, Nat.zero_add] at hOpen
  obtain ⟨y0, y1, y2, y3, y4, y5, y6, y7, y8, y9, yA, yB⟩ := hOpen
  clear TP
  go_wp2
  try simp only [g5n]
  clear kv y0 y1 y2 y3 y4 y5 y6 y7 y8 y9 yA yB
  go_loopw [9, 10, 11, 12] (fun at' _ _ _ wr => ∃ (j : Nat) (A : Nat) (L : Value) (its : List It), at' = .int .i64 A ∧ j ≤ N ∧ Hid (A = j * s) ∧ its.length = j ∧ Hid (erL 9 s q 0 N = erL 9 s q j (N - j)) ∧ Hid (its.map dat = (List.range j).map fun i => dtD 9 (chn s q i)) ∧ Blk wr w.heap.size 29 [.int .i64 9, .int .i64 0, .int .u16 0, .int .u16 0, .int .u64 0, .int .u64 0, .int .i64 0, .int .i64 0, .int .i64 0, .bool false, .slice none 0 0, L] ∧ Blk wr (w.heap.size + 1) 29 [.int .i64 0, .int .i64 0, .int .u16 0, .int .u16 0, .int .u64 0, .int .u64 0, .int .i64 0, .int .i64 0, .int .i64 0, .bool false, .slice none 0 0, .slice none 0 0] ∧ wr.ownsRow (w.heap.size + 2) 46 5 L j (its.flatMap itc) ∧ Hid (∀ t ∈ its, ItOwn wr (w.heap.size + 2) t) ∧ Hid (∀ t ∈ its, t.n ≤ 1000) ∧ Below w.heap.size w wr ∧ w.heap.size + 2 ≤ wr.heap.size) (fun at' _ _ _ _ => n2 + 1 - (intOf at').toNat)
  case atStart => exact ⟨0, 0, .slice none 0 0, [], by simp, Nat.zero_le _, Lib.hid (by simp), rfl, Lib.hid rfl, Lib.hid rfl, HP.out, HR.out, (by simpa using World.ownsRow_nil V (w.heap.size + 2) 46 5), Lib.hid (by simp), Lib.hid (by simp), HB.out, Nat.le_of_eq hVs.symm⟩
  case round =>
    obtain ⟨j, A, L, its, rfl, hj, hA, hjl, herl, hmap, bP, bR, hown, hio, hin, hBr, hwrs⟩ := hrel
    have TP := bP.cells
    have hOpen := TP
    simp only [Cells, blk, List.cons_append, List.nil_append, and_true, Nat.reduceAdd, Nat.add_zero, Nat.zero_add] at hOpen
    obtain ⟨y0, y1, y2, y3, y4, y5, y6, y7, y8, y9, yA, yB⟩ := hOpen
    clear TP
    by_cases hlt : j < N
    · have hjN : j * s + s ≤ N * s := by rw [← Nat.succ_mul]; exact Nat.mul_le_mul_right _ hlt
      have hAs : A + s ≤ n2 := by rw [hA.out, HNS.out]; exact hjN
      have hAn : A < n2 := by omega
      have q1 : decide (A < n2) = true := by simpa using hAn
      have q1' : decide ((A : Int) < (n2 : Int)) = true := by simp; omega
      have hqs : j * s + s ≤ q.length := by rw [HQL.out, HNS.out]; exact hjN
      have hchl : (chn s q j).length = s := chn_len s q j hqs
      have hchb : ∀ x ∈ chn s q j, x < 256 := fun x hx => HBY2.out.2.2 x (by unfold chn at hx; exact List.mem_of_mem_drop (List.mem_of_mem_take hx))
      have hnum := fun W (hW : Below w.heap.size w W) => num_any _ q A 2 W (HBY2.out.below hW) (by rw [HQL.out]; omega) (by omega) (by rw [HQL.out]; omega)
      have ev0 : (q.drop A).take 2 = (chn s q j).take 2 := by rw [hA.out]; have := chn_num s q j 0 (by omega); simpa using this
      rw [ev0] at hnum
      have hV0b := vnum2_lt (chn s q j) hchb
      obtain ⟨V0, hV0⟩ : ∃ v, vnum ((chn s q j).take 2) = v := ⟨_, rfl⟩
      simp only [hV0] at hnum
      rw [hV0] at hV0b
      have hw0' : IntKind.u16.wrap (V0 : Int) = (V0 : Int) := IntWalk.u16_in _ (by omega)
      have hst := erL_step 9 s q j N hlt
      obtain ⟨a5, c5, hb5, hsl5⟩ := bytes_mid w a2 n2 c2 (A + 2) (A + s) q HBY2.out HQL.out hc2 (by omega) hAs
      replace hsl5 : ∀ W, (Instr.slice 26 (.slice a2 n2 c2) (some (.int .i64 ((A : Int) + 2))) (some (.int .i64 ((A : Int) + (s : Int)))) none).run Try.prog W = .ok (.slice a5 (s - 2) c5) W := fun W => by
        have := hsl5 W
        rw [show A + s - (A + 2) = s - 2 by omega] at this
        rwa [show ((A + 2 : Nat) : Int) = (A : Int) + 2 by simp, show ((A + s : Nat) : Int) = (A : Int) + (s : Int) by simp] at this
      have ev5 : (q.drop (A + 2)).take (A + s - (A + 2)) = (chn s q j).drop 2 := by rw [hA.out, show j * s + s - (j * s + 2) = s - 2 by omega]; exact chn_parts s q j 2 (by omega)
      rw [ev5, show A + s - (A + 2) = s - 2 by omega] at hb5
      have her : erD 9 (chn s q j) = 0 := rfl
      rw [her] at hst
      obtain ⟨S2, hS2⟩ : ∃ x, s - 2 = x := ⟨_, rfl⟩
      rw [hS2] at hb5 hsl5
      have hS2b : S2 ≤ 1000 := by omega
      have HB5 := Lib.hid hb5
      have hcl2 : ((chn s q j).drop 2).length = S2 := by rw [List.length_drop, hchl, hS2]
      have hdd : dtD 9 (chn s q j) = ⟨V0, 0, 0, 0, (chn s q j).drop 2⟩ := by simp [dtD, dat, itD, hV0]
      have hcb2 : ∀ x ∈ (chn s q j).drop 2, x < 256 := fun x hx => hchb x (List.mem_of_mem_drop hx)
      obtain ⟨vb, hvb⟩ : ∃ l, (chn s q j).drop 2 = l := ⟨_, rfl⟩
      rw [hvb] at hdd hcl2 hcb2 HB5
      have HDAT0 := Lib.hid hdd
      have HCL2 := Lib.hid hcl2
      have HCB2 := Lib.hid hcb2
      clear hb5 ev5 her hdd hS2 hcl2 hcb2 hvb
      have hbi := build_item V0
      have w9 : IntKind.i64.wrap ((A : Int) + (s : Int)) = ((A + s : Nat) : Int) := by rw [IntWalk.i64_in _ (by omega)]; simp
      have w9' : IntKind.i64.wrap ((A : Int) + 2) = ((A + 2 : Nat) : Int) := by rw [IntWalk.i64_in _ (by omega)]; simp
      have w9'' : IntKind.i64.wrap ((A : Int) + 4) = ((A + 4 : Nat) : Int) := by rw [IntWalk.i64_in _ (by omega)]; simp
      have HNUM := Lib.hid hnum
      have HA := Lib.hid hA.out
      have HST := Lib.hid (herl.out.trans hst)
      have HBr := Lib.hid hBr
      have HP1 := Lib.hid bP
      have HR1 := Lib.hid bR
      have HOWN := Lib.hid hown
      have HV0 := Lib.hid hV0
      have HCHL := Lib.hid hchl
      clear hnum ev0 hV0 hst hchb hqs hjN hchl hA herl hBr bP bR hown
      go_wp2_with fail
      refine (HNUM.out _ HBr.out).mono ?_
      rintro e w' ⟨rfl, rfl⟩
      have bI := Blk.new wr 46 [.int .u16 V0, .int .u16 0, .int .u64 0, .int .u64 0, .slice none 0 0]
      have hbI : Below wr.heap.size wr (wr.alloc (.cells #[.int .u16 V0, .int .u16 0, .int .u64 0, .int .u64 0, .slice none 0 0] 46)) := (Below.refl _ _).alloc (Nat.le_refl _) _
      have HX := Lib.hid (And.intro bI hbI)
      clear bI hbI hbi
      go_upto_region 19 with fail
      generalize World.alloc _ _ = X1 at HX ⊢
      obtain ⟨bI, hbI⟩ := HX.out
      have TP := (HP1.out.below hbI).cells
      clear y0 y1 y2 y3 y4 y5 y6 y7 y8 y9 yA yB
      have hOpen := TP
      simp only [Cells, blk, List.cons_append, List.nil_append, and_true, Nat.reduceAdd, Nat.add_zero, Nat.zero_add] at hOpen
      obtain ⟨y0, y1, y2, y3, y4, y5, y6, y7, y8, y9, yA, yB⟩ := hOpen
      have TI := bI.cells
      have hOpen := TI
      simp only [Cells, blk, List.cons_append, List.nil_append, and_true, Nat.reduceAdd, Nat.add_zero, Nat.zero_add] at hOpen
      obtain ⟨z0, z1, z2, z3, z4⟩ := hOpen
      have HBI := Lib.hid bI
      have HW1 := Lib.hid hbI
      clear TP TI bI hbI HX
      have HERL := Lib.hid (show erL 9 s q 0 N = erL 9 s q (j + 1) (N - (j + 1)) by have := HST.out; simpa using this)
      have halU := (Below.refl X1.heap.size X1).alloc (Nat.le_refl _) (.cells #[] 5)
      have hownE := own_lit X1 [] 0 5 rfl (by decide)
      have hsr := ((HB5.out.below (HBr.out.trans (HW1.out.mono HBr.out.size))).below halU).sr HCL2.out
      have hsz := X1.heap.size
      have HX := Lib.hid (And.intro (HBI.out.below halU) (HW1.out.trans (halU.mono HW1.out.size)))
      have HOE := Lib.hid hownE
      clear halU hownE
      go_wp2_with (at_builtin; refine wpList_append_all rfl _ _ 26 rfl X1.heap.size 5 i1 (.int .u8 0) 1 1 Try.underlying26 hI1 hw0 hw1 hw2 rfl (by decide) _ 0 _ rfl HOE.out _ S2 _ rfl hsr (by unfold maxLen; omega) (by omega) (by simp) ?_)
      intro v5 w5 hown5 hg5 _
      obtain ⟨av, cv, rfl⟩ := own_slice hown5
      have hown5' : w5.ownsRow X1.heap.size 5 1 (.slice av (0 + S2) cv) (0 + S2) (bcells vb) := by simpa using hown5
      rw [Nat.zero_add] at hown5'
      have hlit : (Value.slice (some ⟨X1.heap.size, 0, none⟩) 0 0).ownBlock = some X1.heap.size := rfl
      have hX1 := HW1.out.size
      have bI5 := HX.out.1.kept hg5 (by rw [hlit]; intro e; have := Option.some.inj e; have := HBI.out.lt; omega)
      have hW5 := HX.out.2.grown hg5 (by simp; omega) (fun p hp => by rw [hlit] at hp; have := Option.some.inj hp; omega)
      have HBI5 := Lib.hid bI5
      have HW5 := Lib.hid hW5
      have fz4 := bI5.frozen 4
      have TI := bI5.cells
      have TP := (HP1.out.below hW5).cells
      have bI6 := bI5.setAt (j := 4) (.slice av S2 cv)
      simp only [List.set_cons_zero, List.set_cons_succ] at bI6
      have HX6 := Lib.hid (And.intro bI6 (And.intro (hW5.setCell (p := ⟨wr.heap.size, 4, none⟩) (Nat.le_refl _) (.slice av S2 cv)) (own_set hown5' bI5 (by decide) 4 (.slice av S2 cv))))
      clear y0 y1 y2 y3 y4 y5 y6 y7 y8 y9 yA yB z0 z1 z2 z3 z4 hsr hown5 hown5' hg5 bI5 hW5 bI6 HX HOE hlit
      have hOpen := TP
      simp only [Cells, blk, List.cons_append, List.nil_append, and_true, Nat.reduceAdd, Nat.add_zero, Nat.zero_add] at hOpen
      obtain ⟨y0, y1, y2, y3, y4, y5, y6, y7, y8, y9, yA, yB⟩ := hOpen
      have hOpen := TI
      simp only [Cells, blk, List.cons_append, List.nil_append, and_true, Nat.reduceAdd, Nat.add_zero, Nat.zero_add] at hOpen
      obtain ⟨z0, z1, z2, z3, z4⟩ := hOpen
      clear TP TI
      go_upto_region 25 with fail
      clear y0 y1 y2 y3 y4 y5 y6 y7 y8 y9 yA yB z0 z1 z2 z3 z4 fz4 HBI5 HW5 HBI
      generalize World.setCell _ _ _ = X6 at HX6 ⊢
      have HBI := Lib.hid HX6.out.1
      have hX1s := Nat.le_trans hwrs hX1
      have HO6 := Lib.hid (own_base HX6.out.2.2 hX1s)
      have HW1 := Lib.hid HX6.out.2.1
      clear HX6 hX1 hX1s
      have TI := HBI.out.cells
      have TP := (HP1.out.below HW1.out).cells
      have hOpen := TP
      simp only [Cells, blk, List.cons_append, List.nil_append, and_true, Nat.reduceAdd, Nat.add_zero, Nat.zero_add] at hOpen
      obtain ⟨y0, y1, y2, y3, y4, y5, y6, y7, y8, y9, yA, yB⟩ := hOpen
      have hOpen := TI
      simp only [Cells, blk, List.cons_append, List.nil_append, and_true, Nat.reduceAdd, Nat.add_zero, Nat.zero_add] at hOpen
      obtain ⟨z0, z1, z2, z3, z4⟩ := hOpen
      clear TP TI
      have HITO : Hid (ItOwn X6 (w.heap.size + 2) ⟨V0, 0, 0, 0, av, S2, cv, vb⟩) := Lib.hid ⟨show V0 < 65536 by omega, show 0 < 65536 by omega, show (0 : Nat) < 18446744073709551616 by decide, show (0 : Nat) < 18446744073709551616 by decide, HCL2.out, HCB2.out, HO6.out⟩
      have HDAT : Hid (dat ⟨V0, 0, 0, 0, av, S2, cv, vb⟩ = dtD 9 (chn s q j)) := Lib.hid HDAT0.out.symm
      have HTN : Hid (S2 ≤ 1000) := Lib.hid hS2b
      have bA := (HBI.out).alloc (.cells #[.int .u16 V0, .int .u16 0, .int .u64 0, .int .u64 0, .slice av S2 cv] 46)
      have bN := Blk.new X6 46 [.int .u16 V0, .int .u16 0, .int .u64 0, .int .u64 0, .slice av S2 cv]
      have halA : Below X6.heap.size X6 (X6.alloc (.cells #[.int .u16 V0, .int .u16 0, .int .u64 0, .int .u64 0, .slice av S2 cv] 46)) := (Below.refl _ _).alloc (Nat.le_refl _) _
      have hWA := HW1.out.trans (halA.mono HW1.out.size)
      have hownA := own_below HOWN.out hWA
      have hPA := HP1.out.below hWA
      have hRA := HR1.out.below hWA
      have hBA := HBr.out.trans (hWA.mono HBr.out.size)
      have hioA : ∀ t ∈ its, ItOwn (X6.alloc (.cells #[.int .u16 V0, .int .u16 0, .int .u64 0, .int .u64 0, .slice av S2 cv] 46)) (w.heap.size + 2) t := fun t ht => (hio.out t ht).below hWA
      have hitA : ItOwn (X6.alloc (.cells #[.int .u16 V0, .int .u16 0, .int .u64 0, .int .u64 0, .slice av S2 cv] 46)) (w.heap.size + 2) ⟨V0, 0, 0, 0, av, S2, cv, vb⟩ := HITO.out.below halA
      have hsA := Nat.le_trans hwrs hWA.size
      have HA27 := Lib.hid (And.intro hPA (And.intro hRA (And.intro hBA (And.intro hioA (And.intro hitA hsA)))))
      have hnews : ∀ i u, [.int .u16 V0, .int .u16 0, .int .u64 0, .int .u64 0, .slice av S2 cv][i]? = some u → (X6.alloc (.cells #[.int .u16 V0, .int .u16 0, .int .u64 0, .int .u64 0, .slice av S2 cv] 46)).cell? ((⟨X6.heap.size, 0, none⟩ : Addr).add i) = some u := fun i u hu => by rw [addr_off, Nat.zero_add]; exact bN.cell hu
      have HNW := Lib.hid hnews
      have HONA := Lib.hid hownA
      clear bA halA hWA hPA hRA hBA hioA hitA hnews hownA
      go_wp2_with (at_builtin; refine wpList_append_own _ rfl _ _ 27 rfl (w.heap.size + 2) 46 i0 (.agg #[.int .u16 0, .int .u16 0, .int .u64 0, .int .u64 0, .slice none 0 0]) 5 48 Try.underlying27 hi0 hz0 hz1 hz2 rfl (by decide) L j (its.flatMap itc) rfl HONA.out ⟨X6.heap.size, 0, none⟩ 1 1 [.int .u16 V0, .int .u16 0, .int .u64 0, .int .u64 0, .slice av S2 cv] rfl rfl HNW.out (itc_one [⟨V0, 0, 0, 0, av, S2, cv, vb⟩]) (by unfold maxLen; omega) (by omega) hsA ?_)
      intro L2' w7 hown7 hg _
      obtain ⟨al2, cl2, rfl⟩ := own_slice hown7
      obtain ⟨L2, hL2⟩ : ∃ v : Value, v = .slice al2 (j + 1) cl2 := ⟨_, rfl⟩
      rw [← hL2] at hown7
      obtain ⟨hPA, hRA, hBA, hioA, hitA, hsA'⟩ := HA27.out
      have hownr := HONA.out
      have bP7 := hPA.kept hg (hPA.not_row (by decide) hownr)
      have bR7 := hRA.kept hg (hRA.not_row (by decide) hownr)
      have hB7 := hBA.grown hg (by omega) (fun p hp => by have := (hownr.lt p hp).1; omega)
      have hio7 : ∀ t ∈ its, ItOwn w7 (w.heap.size + 2) t := fun t ht => (hioA t ht).grow hownr (by decide) hg
      have hit7 := hitA.grow hownr (by decide) hg
      have hs7 := Nat.le_trans hsA' hg.size
      have f11 := bP7.frozen 11
      have bP8 := bP7.setAt (j := 11) L2
      have HL2 := Lib.hid hL2
      simp only [List.set_cons_zero, List.set_cons_succ] at bP8
      have hownL : w7.ownsRow (w.heap.size + 2) 46 5 L2 (j + 1) ((its ++ [(⟨V0, 0, 0, 0, av, S2, cv, vb⟩ : It)]).flatMap itc) := by
        rw [List.flatMap_append]
        exact hown7
      have hset7 : ∀ t ∈ its, ItOwn (w7.setCell ⟨w.heap.size, 11, none⟩ L2) (w.heap.size + 2) t := fun t ht => (hio7 t ht).set bP7 (by decide) 11 L2
      have HY := Lib.hid (And.intro bP8 (And.intro (bR7.other (show w.heap.size + 1 ≠ w.heap.size by omega) (o := 11) L2) (And.intro (own_set hownL bP7 (by decide) 11 L2) (And.intro hset7 (And.intro (hit7.set bP7 (by decide) 11 L2) (And.intro (hB7.setCell (p := ⟨w.heap.size, 11, none⟩) (Nat.le_refl _) L2) (show w.heap.size + 2 ≤ (w7.setCell ⟨w.heap.size, 11, none⟩ L2).heap.size by rw [World.size_setCell]; exact hs7)))))))
      have TP7 := bP7.cells
      clear hPA hRA hBA hioA hitA hsA' hownr bR7 hB7 hio7 hit7 hs7 bP7 bP8 hset7 hownL hown7 hg hsA hL2 y0 y1 y2 y3 y4 y5 y6 y7 y8 y9 yA yB z0 z1 z2 z3 z4
      have hOpen := TP7
      simp only [Cells, blk, List.cons_append, List.nil_append, and_true, Nat.reduceAdd, Nat.add_zero, Nat.zero_add] at hOpen
      obtain ⟨y0, y1, y2, y3, y4, y5, y6, y7, y8, y9, yA, yB⟩ := hOpen
      clear TP7
      rw [HL2.out] at HY
      go_upto_region 17 with fail
      clear f11 y0 y1 y2 y3 y4 y5 y6 y7 y8 y9 yA yB
      generalize World.setCell _ _ _ = W9 at HY ⊢
      have hdat : dat ⟨V0, 0, 0, 0, av, S2, cv, vb⟩ = dtD 9 (chn s q j) := HDAT.out
      have HREL := Lib.hid (show ∃ (j2 A2 : Nat) (L3 : Value) (its2 : List It), Value.int .i64 ((A : Int) + (s : Int)) = .int .i64 A2 ∧ j2 ≤ N ∧ Hid (A2 = j2 * s) ∧ its2.length = j2 ∧ Hid (erL 9 s q 0 N = erL 9 s q j2 (N - j2)) ∧ Hid (its2.map dat = (List.range j2).map fun i => dtD 9 (chn s q i)) ∧ Blk W9 w.heap.size 29 [.int .i64 9, .int .i64 0, .int .u16 0, .int .u16 0, .int .u64 0, .int .u64 0, .int .i64 0, .int .i64 0, .int .i64 0, .bool false, .slice none 0 0, L3] ∧ Blk W9 (w.heap.size + 1) 29 [.int .i64 0, .int .i64 0, .int .u16 0, .int .u16 0, .int .u64 0, .int .u64 0, .int .i64 0, .int .i64 0, .int .i64 0, .bool false, .slice none 0 0, .slice none 0 0] ∧ W9.ownsRow (w.heap.size + 2) 46 5 L3 j2 (its2.flatMap itc) ∧ Hid (∀ t ∈ its2, ItOwn W9 (w.heap.size + 2) t) ∧ Hid (∀ t ∈ its2, t.n ≤ 1000) ∧ Below w.heap.size w W9 ∧ w.heap.size + 2 ≤ W9.heap.size from
        ⟨j + 1, A + s, .slice al2 (j + 1) cl2, its ++ [⟨V0, 0, 0, 0, av, S2, cv, vb⟩], by simp, hlt, Lib.hid (by rw [HA.out, Nat.succ_mul]), by rw [List.length_append, hjl]; rfl, Lib.hid HERL.out, Lib.hid (by rw [List.map_append, hmap.out, List.range_succ, List.map_append]; simp [hdat]), HY.out.1, HY.out.2.1, HY.out.2.2.1,
          Lib.hid (fun t ht => by
            rcases List.mem_append.1 ht with h | h
            · exact HY.out.2.2.2.1 t h
            · rw [List.mem_singleton] at h; subst h; exact HY.out.2.2.2.2.1),
          Lib.hid (fun t ht => by
            rcases List.mem_append.1 ht with h | h
            · exact hin.out t h
            · rw [List.mem_singleton] at h; subst h; exact HTN.out), HY.out.2.2.2.2.2.1, HY.out.2.2.2.2.2.2⟩)
      clear HY hdat
      go_wp2
      obtain ⟨j2, A2, L3, its2, e1, h2⟩ := HREL.out
      first
      | exact ⟨⟨j2, A2, L3, its2, e1, h2⟩, by simp [intOf]; omega⟩
      | (refine ⟨⟨j2, A2, L3, its2, e1, h2⟩, ?_⟩; simp [intOf]; omega)
    · obtain rfl : N = j := by omega
      have q1 : decide (A < n2) = false := by simp; have := hA.out; have := HNS.out; omega
      have q1' : decide ((A : Int) < (n2 : Int)) = false := by simp; have := hA.out; have := HNS.out; omega
      obtain rfl : EE = 0 := by rw [HLSE.out, herl.out, Nat.sub_self]; rfl
      obtain ⟨al, cl, rfl⟩ := own_slice hown
      have hpd : pdOf 9 nm0 73 (s :: q) = ⟨9, nm0, 0, 0, [], its.map dat⟩ := by simp [pdOf, HLSL.out, hmap.out]
      have HPD := Lib.hid hpd
      have HJL := Lib.hid hjl
      have HP1 := Lib.hid bP
      have HR1 := Lib.hid bR
      have HBr := Lib.hid hBr
      have HOWN := Lib.hid hown
      clear hpd bP bR hBr hown
      go_upto_region 28 with fail
      clear y0 y1 y2 y3 y4 y5 y6 y7 y8 y9 yA yB
      have TP := HP1.out.cells
      have hOpen := TP
      simp only [Cells, blk, List.cons_append, List.nil_append, and_true, Nat.reduceAdd, Nat.add_zero, Nat.zero_add] at hOpen
      obtain ⟨y0, y1, y2, y3, y4, y5, y6, y7, y8, y9, yA, yB⟩ := hOpen
      have TR := HR1.out.cells
      have hOpen := TR
      simp only [Cells, blk, List.cons_append, List.nil_append, and_true, Nat.reduceAdd, Nat.add_zero, Nat.zero_add] at hOpen
      obtain ⟨s0, s1, s2, s3, s4, s5, s6, s7, s8, s9, sA, sB⟩ := hOpen
      have g0 := HR1.out.frozen 0
      have g1 := HR1.out.frozen 1
      have g2 := HR1.out.frozen 2
      have g3 := HR1.out.frozen 3
      have g4 := HR1.out.frozen 4
      have g5 := HR1.out.frozen 5
      have g6 := HR1.out.frozen 6
      have g7 := HR1.out.frozen 7
      have g8 := HR1.out.frozen 8
      have g9 := HR1.out.frozen 9
      have gA := HR1.out.frozen 10
      have gB := HR1.out.frozen 11
      obtain ⟨b12, h12, o12⟩ := set12 HR1.out (.int .i64 9) (.int .i64 0) (.int .u16 0) (.int .u16 0) (.int .u64 0) (.int .u64 0) (.int .i64 0) (.int .i64 0) (.int .i64 0) (.bool false) (.slice none 0 0) (.slice al N cl)
      have HF := Lib.hid (h12 w.heap.size w (by simp) HBr.out)
      have hl5 := own_base (o12 _ _ _ _ _ _ (by decide) HOWN.out) (show w.heap.size ≤ w.heap.size + 2 by omega)
      have hio5 := fun t ht => let h := hio.out t ht; ItOwn.base (show ItOwn _ (w.heap.size + 2) t from ⟨h.1, h.2.1, h.2.2.1, h.2.2.2.1, h.2.2.2.2.1, h.2.2.2.2.2.1, o12 _ _ _ _ _ _ (by decide) h.2.2.2.2.2.2⟩) (show w.heap.size ≤ w.heap.size + 2 by omega)
      have HIT := Lib.hid (And.intro hl5 hio5)
      clear hl5 hio5
      obtain ⟨r0, r1, r2, r3, r4, r5, r6, r7, r8, r9, rA, rB, _⟩ := b12.cells
      simp only [Nat.zero_add, Nat.add_zero] at r0 r1 r2 r3 r4 r5 r6 r7 r8 r9 rA rB
      clear TP TR b12 h12 o12
      go_wp2
      refine bodyPost_ret (v := .tuple #[.agg #[.int .i64 9, .int .i64 0, .int .u16 0, .int .u16 0, .int .u64 0, .int .u64 0, .int .i64 0, .int .i64 0, .int .i64 0, .bool false, .slice none 0 0, .slice al N cl], .int .i64 0]) (by simp [results, Try.results61, go_sem, r0, r1, r2, r3, r4, r5, r6, r7, r8, r9, rA, rB]) rfl ?_
      exact ⟨0, 0, none, 0, 0, [], al, N, cl, its, rfl, HF.out, fun _ => ⟨HPD.out, nil_u8 _ _, rfl, by omega, by simp, HIT.out.1, HIT.out.2, HJL.out, hNb, fun t ht => by have := hin.out t ht; omega⟩⟩
end Go.Proofs.Ythnffdlnhfhabaa
namespace Go.Proofs.Ythnffdlnhfhabaa
open Go.RowKit

set_option linter.unusedSimpArgs false in
set_option linter.unusedVariables false in
set_option maxRecDepth 100000 in
set_option maxHeartbeats 8000000 in
theorem listed_17 (a : Option Addr) (n c : Nat) (b : List Nat) (w : World) (h : BytesAt w (.slice a n c) b) (hn : b.length = n) (hc : n ≤ c) (hK : 2 ≤ n) (hm : n ≤ 1000) :
    Calls Try.prog 61 #[.agg #[.int .i64 17, .int .i64 0, .int .u16 0, .int .u16 0, .int .u64 0, .int .u64 0, .int .i64 0, .int .i64 0, .int .i64 0, .bool false, .slice none 0 0, .slice none 0 0], .slice a n c] w (TakPost w 17 nm0 73 (b.drop 1) (lsE 17 (b.drop 1))) := by
  have hz := build_pdu
  obtain ⟨bb, off, rfl, kx, hyb⟩ := byte_at h hn 1 (by omega)
  obtain ⟨a2, c2, hby2, hc2, hs2⟩ := bytes_from w _ n c 2 b h hn hc (by omega)
  replace hs2 : ∀ W, (Instr.slice 26 (.slice (some ⟨bb, off, none⟩) n c) (some (.int .i64 2)) none none).run Try.prog W = .ok (.slice a2 (n - 2) c2) W := hs2
  have hb1 : b.drop 1 = vnum ((b.drop 1).take 1) :: b.drop 2 := by
    have hp : 1 < b.length := by omega
    rw [List.drop_eq_getElem_cons hp, List.take_succ_cons, List.take_zero]
    simp [vnum]
  obtain ⟨y, hy⟩ : ∃ y, vnum ((b.drop 1).take 1) = y := ⟨_, rfl⟩
  rw [hy] at kx hyb hb1
  rw [hb1]
  obtain ⟨q, hq⟩ : ∃ q, b.drop 2 = q := ⟨_, rfl⟩
  obtain ⟨n2, hn2⟩ : ∃ n2, n - 2 = n2 := ⟨_, rfl⟩
  have hql : q.length = n2 := by rw [← hq, List.length_drop]; omega
  rw [hq, hn2] at hby2
  rw [hq]
  rw [hn2] at hc2 hs2
  have hnb2 : n2 ≤ 1000 := by omega
  have hi1 : (1 : Int) < (n : Int) := by omega
  have y1' : (y : Int) < 256 := by omega
  obtain ⟨EE, hEE⟩ : ∃ E, lsE 17 (y :: q) = E := ⟨_, rfl⟩
  rw [hEE]
  have HBY2 := Lib.hid hby2
  have HQL := Lib.hid hql
  have HKX := Lib.hid kx
  have hB := ((Below.refl w.heap.size w).alloc (Nat.le_refl _) (.cells #[.int .i64 17, .int .i64 0, .int .u16 0, .int .u16 0, .int .u64 0, .int .u64 0, .int .i64 0, .int .i64 0, .int .i64 0, .bool false, .slice none 0 0, .slice none 0 0] 29)).alloc (by simp) (.cells #[.int .i64 0, .int .i64 0, .int .u16 0, .int .u16 0, .int .u64 0, .int .u64 0, .int .i64 0, .int .i64 0, .int .i64 0, .bool false, .slice none 0 0, .slice none 0 0] 29)
  have bP := (Blk.new w 29 [.int .i64 17, .int .i64 0, .int .u16 0, .int .u16 0, .int .u64 0, .int .u64 0, .int .i64 0, .int .i64 0, .int .i64 0, .bool false, .slice none 0 0, .slice none 0 0]).alloc (.cells #[.int .i64 0, .int .i64 0, .int .u16 0, .int .u16 0, .int .u64 0, .int .u64 0, .int .i64 0, .int .i64 0, .int .i64 0, .bool false, .slice none 0 0, .slice none 0 0] 29)
  have bR := Blk.new (w.alloc (.cells #[.int .i64 17, .int .i64 0, .int .u16 0, .int .u16 0, .int .u64 0, .int .u64 0, .int .i64 0, .int .i64 0, .int .i64 0, .bool false, .slice none 0 0, .slice none 0 0] 29)) 29 [.int .i64 0, .int .i64 0, .int .u16 0, .int .u16 0, .int .u64 0, .int .u64 0, .int .i64 0, .int .i64 0, .int .i64 0, .bool false, .slice none 0 0, .slice none 0 0]
  simp only [World.size_alloc] at bR
  have HP := Lib.hid bP
  have HR := Lib.hid bR
  have HB := Lib.hid hB
  clear h hn hby2 hql hq hn2 hb1 hy kx bP bR hB
  by_cases hbad : y < 4
  · have g1 : decide ((y : Int) < 4) = true := by simp; omega
    have g1' : decide (y < 4) = true := by simpa using hbad
    obtain rfl : EE = 2 := by rw [← hEE]; simp [lsE, lsN, hbad]
    clear hEE hbad
    go_enter Try.func61, Try.ntmps61
    go_upto_region 1 with fail
    generalize hV : World.alloc _ _ = V at HP HR HB ⊢
    have hVs : V.heap.size = w.heap.size + 2 := by rw [← hV]; simp
    clear hV
    have kv := kc HKX.out HB.out
    have TP := HP.out.cells
    have hOpen := TP
    simp only [Cells, blk, List.cons_append, List.nil_append, and_true, Nat.reduceAdd, Nat.add_zero, Nat.zero_add] at hOpen
    obtain ⟨y0, y1, y2, y3, y4, y5, y6, y7, y8, y9, yA, yB⟩ := hOpen
    clear TP
    go_upto_region 11 with fail
    clear kv y0 y1 y2 y3 y4 y5 y6 y7 y8 y9 yA yB
    have TP := HP.out.cells
    have hOpen := TP
    simp only [Cells, blk, List.cons_append, List.nil_append, and_true, Nat.reduceAdd, Nat.add_zero, Nat.zero_add] at hOpen
    obtain ⟨y0, y1, y2, y3, y4, y5, y6, y7, y8, y9, yA, yB⟩ := hOpen
    have TR := HR.out.cells
    have hOpen := TR
    simp only [Cells, blk, List.cons_append, List.nil_append, and_true, Nat.reduceAdd, Nat.add_zero, Nat.zero_add] at hOpen
    obtain ⟨s0, s1, s2, s3, s4, s5, s6, s7, s8, s9, sA, sB⟩ := hOpen
    have g0 := HR.out.frozen 0
    have g1 := HR.out.frozen 1
    have g2 := HR.out.frozen 2
    have g3 := HR.out.frozen 3
    have g4 := HR.out.frozen 4
    have g5 := HR.out.frozen 5
    have g6 := HR.out.frozen 6
    have g7 := HR.out.frozen 7
    have g8 := HR.out.frozen 8
    have g9 := HR.out.frozen 9
    have gA := HR.out.frozen 10
    have gB := HR.out.frozen 11
    obtain ⟨b12, h12, o12⟩ := set12 HR.out (.int .i64 17) (.int .i64 0) (.int .u16 0) (.int .u16 0) (.int .u64 0) (.int .u64 0) (.int .i64 0) (.int .i64 0) (.int .i64 0) (.bool false) (.slice none 0 0) (.slice none 0 0)
    have HF := Lib.hid (h12 w.heap.size w (by simp) HB.out)
    obtain ⟨r0, r1, r2, r3, r4, r5, r6, r7, r8, r9, rA, rB, _⟩ := b12.cells
    simp only [Nat.zero_add, Nat.add_zero] at r0 r1 r2 r3 r4 r5 r6 r7 r8 r9 rA rB
    clear TP TR b12 h12 o12
    go_wp2
    refine bodyPost_ret (v := .tuple #[.agg #[.int .i64 17, .int .i64 0, .int .u16 0, .int .u16 0, .int .u64 0, .int .u64 0, .int .i64 0, .int .i64 0, .int .i64 0, .bool false, .slice none 0 0, .slice none 0 0], .int .i64 2]) (by simp [results, Try.results61, go_sem, r0, r1, r2, r3, r4, r5, r6, r7, r8, r9, rA, rB]) rfl ?_
    exact lsE_err 2 17 nm0 73 _ w _ (by decide) none 0 0 HF.out
  have hs : lsN 17 y = some y := by simp [lsN, hbad]
  obtain ⟨s, hsv⟩ : ∃ s, s = y := ⟨_, rfl⟩
  rw [← hsv] at hs
  subst hsv
  have hs2' : 4 ≤ s ∧ s ≤ 255 := by omega
  obtain ⟨hsl, hsu⟩ := hs2'
  by_cases hbad3 : q = [] ∨ q.length % s ≠ 0
  · obtain rfl : EE = 3 := by rw [← hEE]; simp only [lsE, hs]; rw [if_pos hbad3]
    have hcase : n2 = 0 ∨ (n2 ≠ 0 ∧ n2 % s ≠ 0) := by
      rw [HQL.out] at hbad3
      rcases hbad3 with h | h
      · left; rw [← HQL.out, h]; rfl
      · by_cases h0 : n2 = 0
        · exact .inl h0
        · exact .inr ⟨h0, h⟩
    clear hEE hbad3 hs
    rcases hcase with h0 | ⟨h0, h3⟩
    · have g4 : ((n2 : Int) == 0) = true := by simp; omega
      clear h0
      go_enter Try.func61, Try.ntmps61
      go_upto_region 1 with fail
      generalize hV : World.alloc _ _ = V at HP HR HB ⊢
      have hVs : V.heap.size = w.heap.size + 2 := by rw [← hV]; simp
      clear hV
      have kv := kc HKX.out HB.out
      have TP := HP.out.cells
      have hOpen := TP
      simp only [Cells, blk, List.cons_append, List.nil_append, and_true, Nat.reduceAdd, Nat.add_zero, Nat.zero_add] at hOpen
      obtain ⟨y0, y1, y2, y3, y4, y5, y6, y7, y8, y9, yA, yB⟩ := hOpen
      clear TP
      go_upto_region 14 with fail
      clear kv y0 y1 y2 y3 y4 y5 y6 y7 y8 y9 yA yB
      have TP := HP.out.cells
      have hOpen := TP
      simp only [Cells, blk, List.cons_append, List.nil_append, and_true, Nat.reduceAdd, Nat.add_zero, Nat.zero_add] at hOpen
      obtain ⟨y0, y1, y2, y3, y4, y5, y6, y7, y8, y9, yA, yB⟩ := hOpen
      have TR := HR.out.cells
      have hOpen := TR
      simp only [Cells, blk, List.cons_append, List.nil_append, and_true, Nat.reduceAdd, Nat.add_zero, Nat.zero_add] at hOpen
      obtain ⟨s0, s1, s2, s3, s4, s5, s6, s7, s8, s9, sA, sB⟩ := hOpen
      have g0 := HR.out.frozen 0
      have g1 := HR.out.frozen 1
      have g2 := HR.out.frozen 2
      have g3 := HR.out.frozen 3
      have g4 := HR.out.frozen 4
      have g5 := HR.out.frozen 5
      have g6 := HR.out.frozen 6
      have g7 := HR.out.frozen 7
      have g8 := HR.out.frozen 8
      have g9 := HR.out.frozen 9
      have gA := HR.out.frozen 10
      have gB := HR.out.frozen 11
      obtain ⟨b12, h12, o12⟩ := set12 HR.out (.int .i64 17) (.int .i64 0) (.int .u16 0) (.int .u16 0) (.int .u64 0) (.int .u64 0) (.int .i64 0) (.int .i64 0) (.int .i64 0) (.bool false) (.slice none 0 0) (.slice none 0 0)
      have HF := Lib.hid (h12 w.heap.size w (by simp) HB.out)
      obtain ⟨r0, r1, r2, r3, r4, r5, r6, r7, r8, r9, rA, rB, _⟩ := b12.cells
      simp only [Nat.zero_add, Nat.add_zero] at r0 r1 r2 r3 r4 r5 r6 r7 r8 r9 rA rB
      clear TP TR b12 h12 o12
      go_wp2
      refine bodyPost_ret (v := .tuple #[.agg #[.int .i64 17, .int .i64 0, .int .u16 0, .int .u16 0, .int .u64 0, .int .u64 0, .int .i64 0, .int .i64 0, .int .i64 0, .bool false, .slice none 0 0, .slice none 0 0], .int .i64 3]) (by simp [results, Try.results61, go_sem, r0, r1, r2, r3, r4, r5, r6, r7, r8, r9, rA, rB]) rfl ?_
      exact lsE_err 3 17 nm0 73 _ w _ (by decide) none 0 0 HF.out
    · have g4 : ((n2 : Int) == 0) = false := by simp; omega
      have g5 : (((n2 % s : Nat) : Int) != 0) = true := by simp; omega
      have g5n : (((n2 : Int) % (s : Int)) != 0) = true := g5
      have g6 : ((s : Int) == 0) = false := by simp; omega
      clear h0 h3
      go_enter Try.func61, Try.ntmps61
      go_upto_region 1 with fail
      generalize hV : World.alloc _ _ = V at HP HR HB ⊢
      have hVs : V.heap.size = w.heap.size + 2 := by rw [← hV]; simp
      clear hV
      have kv := kc HKX.out HB.out
      have TP := HP.out.cells
      have hOpen := TP
      simp only [Cells, blk, List.cons_append, List.nil_append, and_true, Nat.reduceAdd, Nat.add_zero, Nat.zero_add] at hOpen
      obtain ⟨y0, y1, y2, y3, y4, y5, y6, y7, y8, y9, yA, yB⟩ := hOpen
      clear TP
      go_upto_region 14 with fail
      clear kv y0 y1 y2 y3 y4 y5 y6 y7 y8 y9 yA yB
      have TP := HP.out.cells
      have hOpen := TP
      simp only [Cells, blk, List.cons_append, List.nil_append, and_true, Nat.reduceAdd, Nat.add_zero, Nat.zero_add] at hOpen
      obtain ⟨y0, y1, y2, y3, y4, y5, y6, y7, y8, y9, yA, yB⟩ := hOpen
      have TR := HR.out.cells
      have hOpen := TR
      simp only [Cells, blk, List.cons_append, List.nil_append, and_true, Nat.reduceAdd, Nat.add_zero, Nat.zero_add] at hOpen
      obtain ⟨s0, s1, s2, s3, s4, s5, s6, s7, s8, s9, sA, sB⟩ := hOpen
      have g0 := HR.out.frozen 0
      have g1 := HR.out.frozen 1
      have g2 := HR.out.frozen 2
      have g3 := HR.out.frozen 3
      have g4 := HR.out.frozen 4
      have g5 := HR.out.frozen 5
      have g6 := HR.out.frozen 6
      have g7 := HR.out.frozen 7
      have g8 := HR.out.frozen 8
      have g9 := HR.out.frozen 9
      have gA := HR.out.frozen 10
      have gB := HR.out.frozen 11
      obtain ⟨b12, h12, o12⟩ := set12 HR.out (.int .i64 17) (.int .i64 0) (.int .u16 0) (.int .u16 0) (.int .u64 0) (.int .u64 0) (.int .i64 0) (.int .i64 0) (.int .i64 0) (.bool false) (.slice none 0 0) (.slice none 0 0)
      have HF := Lib.hid (h12 w.heap.size w (by simp) HB.out)
      obtain ⟨r0, r1, r2, r3, r4, r5, r6, r7, r8, r9, rA, rB, _⟩ := b12.cells
      simp only [Nat.zero_add, Nat.add_zero] at r0 r1 r2 r3 r4 r5 r6 r7 r8 r9 rA rB
      clear TP TR b12 h12 o12
      go_wp2
      refine bodyPost_ret (v := .tuple #[.agg #[.int .i64 17, .int .i64 0, .int .u16 0, .int .u16 0, .int .u64 0, .int .u64 0, .int .i64 0, .int .i64 0, .int .i64 0, .bool false, .slice none 0 0, .slice none 0 0], .int .i64 3]) (by simp [results, Try.results61, go_sem, r0, r1, r2, r3, r4, r5, r6, r7, r8, r9, rA, rB]) rfl ?_
      exact lsE_err 3 17 nm0 73 _ w _ (by decide) none 0 0 HF.out
  have hq0 : q ≠ [] := fun e => hbad3 (.inl e)
  have hmod : n2 % s = 0 := by rw [← HQL.out]; exact Decidable.byContradiction fun e => hbad3 (.inr e)
  have hn20 : 0 < n2 := by rw [← HQL.out]; exact List.length_pos_iff.2 hq0
  have g4 : ((n2 : Int) == 0) = false := by simp; omega
  have g5 : (((n2 % s : Nat) : Int) != 0) = false := by rw [hmod]; rfl
  have g5n : (((n2 : Int) % (s : Int)) != 0) = false := g5
  have g6 : ((s : Int) == 0) = false := by simp; omega
  obtain ⟨N, hN⟩ : ∃ N, q.length / s = N := ⟨_, rfl⟩
  have hlse : EE = erL 17 s q 0 N := by rw [← hEE]; simp only [lsE, hs]; rw [if_neg hbad3, hN]
  have hlsl : lsL 17 (s :: q) = (List.range N).map fun j => dtD 17 (chn s q j) := by simp only [lsL, hs]; rw [if_neg hbad3, hN]
  have hNs : n2 = N * s := by rw [← hN, HQL.out]; exact (Nat.div_mul_cancel (Nat.dvd_of_mod_eq_zero hmod)).symm
  have hNb : N ≤ 1000 := by rw [← hN, HQL.out]; exact Nat.le_trans (Nat.div_le_self _ _) (by omega)
  have HNS := Lib.hid hNs
  have HLSE := Lib.hid hlse
  have HLSL := Lib.hid hlsl
  obtain ⟨i1, hI1, hw0, hw1, hw2⟩ := info_parts Try.info_u8
  obtain ⟨i0, hi0, hz0, hz1, hz2⟩ := info_parts Try.info_item
  clear hEE hbad3 hs hq0 hmod hN hlse hlsl hNs
  go_enter Try.func61, Try.ntmps61
  go_upto_region 1 with fail
  generalize hV : World.alloc _ _ = V at HP HR HB ⊢
  have hVs : V.heap.size = w.heap.size + 2 := by rw [← hV]; simp
  clear hV
  have kv := kc HKX.out HB.out
  have TP := HP.out.cells
  have hOpen := TP
  simp only [Cells, blk, List.cons_append, List.nil_append, and_true, Nat.reduceAdd, Nat.add_zero, Nat.zero_add] at hOpen
  obtain ⟨y0, y1, y2, y3, y4, y5, y6, y7, y8, y9, yA, yB⟩ := hOpen
  clear TP
  go_wp2
  try simp only [g5n]
  clear kv y0 y1 y2 y3 y4 y5 y6 y7 y8 y9 yA yB
  go_loopw [9, 10, 11, 12] (fun at' _ _ _ wr => ∃ (j : Nat) (A : Nat) (L : Value) (its : List It), at' = .int .i64 A ∧ j ≤ N ∧ Hid (A = j * s) ∧ its.length = j ∧ Hid (erL 17 s q 0 N = erL 17 s q j (N - j)) ∧ Hid (its.map dat = (List.range j).map fun i => dtD 17 (chn s q i)) ∧ Blk wr w.heap.size 29 [.int .i64 17, .int .i64 0, .int .u16 0, .int .u16 0, .int .u64 0, .int .u64 0, .int .i64 0, .int .i64 0, .int .i64 0, .bool false, .slice none 0 0, L] ∧ Blk wr (w.heap.size + 1) 29 [.int .i64 0, .int .i64 0, .int .u16 0, .int .u16 0, .int .u64 0, .int .u64 0, .int .i64 0, .int .i64 0, .int .i64 0, .bool false, .slice none 0 0, .slice none 0 0] ∧ wr.ownsRow (w.heap.size + 2) 46 5 L j (its.flatMap itc) ∧ Hid (∀ t ∈ its, ItOwn wr (w.heap.size + 2) t) ∧ Hid (∀ t ∈ its, t.n ≤ 1000) ∧ Below w.heap.size w wr ∧ w.heap.size + 2 ≤ wr.heap.size) (fun at' _ _ _ _ => n2 + 1 - (intOf at').toNat)
  case atStart => exact ⟨0, 0, .slice none 0 0, [], by simp, Nat.zero_le _, Lib.hid (by simp), rfl, Lib.hid rfl, Lib.hid rfl, HP.out, HR.out, (by simpa using World.ownsRow_nil V (w.heap.size + 2) 46 5), Lib.hid (by simp), Lib.hid (by simp), HB.out, Nat.le_of_eq hVs.symm⟩
  case round =>
    obtain ⟨j, A, L, its, rfl, hj, hA, hjl, herl, hmap, bP, bR, hown, hio, hin, hBr, hwrs⟩ := hrel
    have TP := bP.cells
    have hOpen := TP
    simp only [Cells, blk, List.cons_append, List.nil_append, and_true, Nat.reduceAdd, Nat.add_zero, Nat.zero_add] at hOpen
    obtain ⟨y0, y1, y2, y3, y4, y5, y6, y7, y8, y9, yA, yB⟩ := hOpen
    clear TP
    by_cases hlt : j < N
    · have hjN : j * s + s ≤ N * s := by rw [← Nat.succ_mul]; exact Nat.mul_le_mul_right _ hlt
      have hAs : A + s ≤ n2 := by rw [hA.out, HNS.out]; exact hjN
      have hAn : A < n2 := by omega
      have q1 : decide (A < n2) = true := by simpa using hAn
      have q1' : decide ((A : Int) < (n2 : Int)) = true := by simp; omega
      have hqs : j * s + s ≤ q.length := by rw [HQL.out, HNS.out]; exact hjN
      have hchl : (chn s q j).length = s := chn_len s q j hqs
      have hchb : ∀ x ∈ chn s q j, x < 256 := fun x hx => HBY2.out.2.2 x (by unfold chn at hx; exact List.mem_of_mem_drop (List.mem_of_mem_take hx))
      have hnum := fun W (hW : Below w.heap.size w W) => num_any _ q A 2 W (HBY2.out.below hW) (by rw [HQL.out]; omega) (by omega) (by rw [HQL.out]; omega)
      have ev0 : (q.drop A).take 2 = (chn s q j).take 2 := by rw [hA.out]; have := chn_num s q j 0 (by omega); simpa using this
      rw [ev0] at hnum
      have hV0b := vnum2_lt (chn s q j) hchb
      obtain ⟨V0, hV0⟩ : ∃ v, vnum ((chn s q j).take 2) = v := ⟨_, rfl⟩
      simp only [hV0] at hnum
      rw [hV0] at hV0b
      have hw0' : IntKind.u16.wrap (V0 : Int) = (V0 : Int) := IntWalk.u16_in _ (by omega)
      have hst := erL_step 17 s q j N hlt
      obtain ⟨a5, c5, hb5, hsl5⟩ := bytes_mid w a2 n2 c2 (A + 4) (A + s) q HBY2.out HQL.out hc2 (by omega) hAs
      replace hsl5 : ∀ W, (Instr.slice 26 (.slice a2 n2 c2) (some (.int .i64 ((A : Int) + 4))) (some (.int .i64 ((A : Int) + (s : Int)))) none).run Try.prog W = .ok (.slice a5 (s - 4) c5) W := fun W => by
        have := hsl5 W
        rw [show A + s - (A + 4) = s - 4 by omega] at this
        rwa [show ((A + 4 : Nat) : Int) = (A : Int) + 4 by simp, show ((A + s : Nat) : Int) = (A : Int) + (s : Int) by simp] at this
      have ev5 : (q.drop (A + 4)).take (A + s - (A + 4)) = (chn s q j).drop 4 := by rw [hA.out, show j * s + s - (j * s + 4) = s - 4 by omega]; exact chn_parts s q j 4 (by omega)
      rw [ev5, show A + s - (A + 4) = s - 4 by omega] at hb5
      have her : erD 17 (chn s q j) = 0 := rfl
      rw [her] at hst
      obtain ⟨S2, hS2⟩ : ∃ x, s - 4 = x := ⟨_, rfl⟩
      rw [hS2] at hb5 hsl5
      have hS2b : S2 ≤ 1000 := by omega
      have HB5 := Lib.hid hb5
      have hcl2 : ((chn s q j).drop 4).length = S2 := by rw [List.length_drop, hchl, hS2]
      have hnumb := fun W (hW : Below w.heap.size w W) => num_any _ q (A + 2) 2 W (HBY2.out.below hW) (by rw [HQL.out]; omega) (by omega) (by rw [HQL.out]; omega)
      have ev1 : (q.drop (A + 2)).take 2 = ((chn s q j).drop 2).take 2 := by rw [hA.out]; exact chn_num s q j 2 (by omega)
      rw [ev1] at hnumb
      have hV1b := vnum2_lt ((chn s q j).drop 2) (fun x hx => hchb x (List.mem_of_mem_drop hx))
      obtain ⟨V1, hV1⟩ : ∃ v, vnum (((chn s q j).drop 2).take 2) = v := ⟨_, rfl⟩
      simp only [hV1] at hnumb
      rw [hV1] at hV1b
      replace hnumb : ∀ W, Below w.heap.size w W → Calls Try.prog 62 #[.slice a2 n2 c2, .int .i64 ((A : Int) + 2), .int .i64 2] W fun e w' => e = .returned (.int .u64 V1) ∧ W = w' := hnumb
      have hw1' : IntKind.u16.wrap (V1 : Int) = (V1 : Int) := IntWalk.u16_in _ (by omega)
      have HNUMB := Lib.hid hnumb
      clear hnumb ev1
      have hdd : dtD 17 (chn s q j) = ⟨V0, V1, 0, 0, (chn s q j).drop 4⟩ := by simp [dtD, dat, itD, hV0, hV1]
      have hcb2 : ∀ x ∈ (chn s q j).drop 4, x < 256 := fun x hx => hchb x (List.mem_of_mem_drop hx)
      obtain ⟨vb, hvb⟩ : ∃ l, (chn s q j).drop 4 = l := ⟨_, rfl⟩
      rw [hvb] at hdd hcl2 hcb2 HB5
      have HDAT0 := Lib.hid hdd
      have HCL2 := Lib.hid hcl2
      have HCB2 := Lib.hid hcb2
      clear hb5 ev5 her hdd hS2 hcl2 hcb2 hvb hV1
      have hbi := build_item V0
      have w9 : IntKind.i64.wrap ((A : Int) + (s : Int)) = ((A + s : Nat) : Int) := by rw [IntWalk.i64_in _ (by omega)]; simp
      have w9' : IntKind.i64.wrap ((A : Int) + 2) = ((A + 2 : Nat) : Int) := by rw [IntWalk.i64_in _ (by omega)]; simp
      have w9'' : IntKind.i64.wrap ((A : Int) + 4) = ((A + 4 : Nat) : Int) := by rw [IntWalk.i64_in _ (by omega)]; simp
      have HNUM := Lib.hid hnum
      have HA := Lib.hid hA.out
      have HST := Lib.hid (herl.out.trans hst)
      have HBr := Lib.hid hBr
      have HP1 := Lib.hid bP
      have HR1 := Lib.hid bR
      have HOWN := Lib.hid hown
      have HV0 := Lib.hid hV0
      have HCHL := Lib.hid hchl
      clear hnum ev0 hV0 hst hchb hqs hjN hchl hA herl hBr bP bR hown
      go_wp2_with fail
      refine (HNUM.out _ HBr.out).mono ?_
      rintro e w' ⟨rfl, rfl⟩
      have bI := Blk.new wr 46 [.int .u16 V0, .int .u16 0, .int .u64 0, .int .u64 0, .slice none 0 0]
      have hbI : Below wr.heap.size wr (wr.alloc (.cells #[.int .u16 V0, .int .u16 0, .int .u64 0, .int .u64 0, .slice none 0 0] 46)) := (Below.refl _ _).alloc (Nat.le_refl _) _
      have HX := Lib.hid (And.intro bI hbI)
      clear bI hbI hbi
      go_upto_region 19 with fail
      generalize World.alloc _ _ = X1 at HX ⊢
      obtain ⟨bI, hbI⟩ := HX.out
      have TP := (HP1.out.below hbI).cells
      clear y0 y1 y2 y3 y4 y5 y6 y7 y8 y9 yA yB
      have hOpen := TP
      simp only [Cells, blk, List.cons_append, List.nil_append, and_true, Nat.reduceAdd, Nat.add_zero, Nat.zero_add] at hOpen
      obtain ⟨y0, y1, y2, y3, y4, y5, y6, y7, y8, y9, yA, yB⟩ := hOpen
      have TI := bI.cells
      have hOpen := TI
      simp only [Cells, blk, List.cons_append, List.nil_append, and_true, Nat.reduceAdd, Nat.add_zero, Nat.zero_add] at hOpen
      obtain ⟨z0, z1, z2, z3, z4⟩ := hOpen
      have HBI := Lib.hid bI
      have HW1 := Lib.hid hbI
      clear TP TI bI hbI HX
      have HERL := Lib.hid (show erL 17 s q 0 N = erL 17 s q (j + 1) (N - (j + 1)) by have := HST.out; simpa using this)
      have halU := (Below.refl X1.heap.size X1).alloc (Nat.le_refl _) (.cells #[] 5)
      have hownE := own_lit X1 [] 0 5 rfl (by decide)
      have hsr := ((HB5.out.below (HBr.out.trans (HW1.out.mono HBr.out.size))).below halU).sr HCL2.out
      have hsz := X1.heap.size
      have HX := Lib.hid (And.intro (HBI.out.below halU) (HW1.out.trans (halU.mono HW1.out.size)))
      have HOE := Lib.hid hownE
      clear halU hownE
      go_wp2_with (at_builtin; refine wpList_append_all rfl _ _ 26 rfl X1.heap.size 5 i1 (.int .u8 0) 1 1 Try.underlying26 hI1 hw0 hw1 hw2 rfl (by decide) _ 0 _ rfl HOE.out _ S2 _ rfl hsr (by unfold maxLen; omega) (by omega) (by simp) ?_)
      intro v5 w5 hown5 hg5 _
      obtain ⟨av, cv, rfl⟩ := own_slice hown5
      have hown5' : w5.ownsRow X1.heap.size 5 1 (.slice av (0 + S2) cv) (0 + S2) (bcells vb) := by simpa using hown5
      rw [Nat.zero_add] at hown5'
      have hlit : (Value.slice (some ⟨X1.heap.size, 0, none⟩) 0 0).ownBlock = some X1.heap.size := rfl
      have hX1 := HW1.out.size
      have bI5 := HX.out.1.kept hg5 (by rw [hlit]; intro e; have := Option.some.inj e; have := HBI.out.lt; omega)
      have hW5 := HX.out.2.grown hg5 (by simp; omega) (fun p hp => by rw [hlit] at hp; have := Option.some.inj hp; omega)
      have HBI5 := Lib.hid bI5
      have HW5 := Lib.hid hW5
      have fz4 := bI5.frozen 4
      have TI := bI5.cells
      have TP := (HP1.out.below hW5).cells
      have bI6 := bI5.setAt (j := 4) (.slice av S2 cv)
      simp only [List.set_cons_zero, List.set_cons_succ] at bI6
      have HX6 := Lib.hid (And.intro bI6 (And.intro (hW5.setCell (p := ⟨wr.heap.size, 4, none⟩) (Nat.le_refl _) (.slice av S2 cv)) (own_set hown5' bI5 (by decide) 4 (.slice av S2 cv))))
      clear y0 y1 y2 y3 y4 y5 y6 y7 y8 y9 yA yB z0 z1 z2 z3 z4 hsr hown5 hown5' hg5 bI5 hW5 bI6 HX HOE hlit
      have hOpen := TP
      simp only [Cells, blk, List.cons_append, List.nil_append, and_true, Nat.reduceAdd, Nat.add_zero, Nat.zero_add] at hOpen
      obtain ⟨y0, y1, y2, y3, y4, y5, y6, y7, y8, y9, yA, yB⟩ := hOpen
      have hOpen := TI
      simp only [Cells, blk, List.cons_append, List.nil_append, and_true, Nat.reduceAdd, Nat.add_zero, Nat.zero_add] at hOpen
      obtain ⟨z0, z1, z2, z3, z4⟩ := hOpen
      clear TP TI
      go_upto_region 25 with fail
      clear y0 y1 y2 y3 y4 y5 y6 y7 y8 y9 yA yB z0 z1 z2 z3 z4 fz4 HBI5 HW5 HBI
      generalize World.setCell _ _ _ = X6 at HX6 ⊢
      have HBI := Lib.hid HX6.out.1
      have hX1s := Nat.le_trans hwrs hX1
      have HO6 := Lib.hid (own_base HX6.out.2.2 hX1s)
      have HW1 := Lib.hid HX6.out.2.1
      clear HX6 hX1 hX1s
      have TI := HBI.out.cells
      have TP := (HP1.out.below HW1.out).cells
      have hOpen := TP
      simp only [Cells, blk, List.cons_append, List.nil_append, and_true, Nat.reduceAdd, Nat.add_zero, Nat.zero_add] at hOpen
      obtain ⟨y0, y1, y2, y3, y4, y5, y6, y7, y8, y9, yA, yB⟩ := hOpen
      have hOpen := TI
      simp only [Cells, blk, List.cons_append, List.nil_append, and_true, Nat.reduceAdd, Nat.add_zero, Nat.zero_add] at hOpen
      obtain ⟨z0, z1, z2, z3, z4⟩ := hOpen
      clear TP TI
      go_wp2_with fail
      refine (HNUMB.out _ (HBr.out.trans (HW1.out.mono HBr.out.size))).mono ?_
      rintro e w' ⟨rfl, rfl⟩
      have fz1 := HBI.out.frozen 1
      have bI7 := HBI.out.setAt (j := 1) (.int .u16 V1)
      simp only [List.set_cons_zero, List.set_cons_succ] at bI7
      have HX7 := Lib.hid (And.intro bI7 (And.intro (HW1.out.setCell (p := ⟨wr.heap.size, 1, none⟩) (Nat.le_refl _) (.int .u16 V1)) (own_set HO6.out HBI.out (by decide) 1 (.int .u16 V1))))
      clear bI7
      go_upto_region 27 with fail
      clear y0 y1 y2 y3 y4 y5 y6 y7 y8 y9 yA yB z0 z1 z2 z3 z4 fz1 HBI HW1 HO6
      generalize World.setCell _ _ _ = X7 at HX7 ⊢
      have HBI := Lib.hid HX7.out.1
      have HO6 := Lib.hid HX7.out.2.2
      have HW1 := Lib.hid HX7.out.2.1
      clear HX7
      have TI := HBI.out.cells
      have TP := (HP1.out.below HW1.out).cells
      have hOpen := TP
      simp only [Cells, blk, List.cons_append, List.nil_append, and_true, Nat.reduceAdd, Nat.add_zero, Nat.zero_add] at hOpen
      obtain ⟨y0, y1, y2, y3, y4, y5, y6, y7, y8, y9, yA, yB⟩ := hOpen
      have hOpen := TI
      simp only [Cells, blk, List.cons_append, List.nil_append, and_true, Nat.reduceAdd, Nat.add_zero, Nat.zero_add] at hOpen
      obtain ⟨z0, z1, z2, z3, z4⟩ := hOpen
      clear TP TI
      have HITO : Hid (ItOwn X7 (w.heap.size + 2) ⟨V0, V1, 0, 0, av, S2, cv, vb⟩) := Lib.hid ⟨show V0 < 65536 by omega, show V1 < 65536 by omega, show (0 : Nat) < 18446744073709551616 by decide, show (0 : Nat) < 18446744073709551616 by decide, HCL2.out, HCB2.out, HO6.out⟩
      have HDAT : Hid (dat ⟨V0, V1, 0, 0, av, S2, cv, vb⟩ = dtD 17 (chn s q j)) := Lib.hid HDAT0.out.symm
      have HTN : Hid (S2 ≤ 1000) := Lib.hid hS2b
      have bA := (HBI.out).alloc (.cells #[.int .u16 V0, .int .u16 V1, .int .u64 0, .int .u64 0, .slice av S2 cv] 46)
      have bN := Blk.new X7 46 [.int .u16 V0, .int .u16 V1, .int .u64 0, .int .u64 0, .slice av S2 cv]
      have halA : Below X7.heap.size X7 (X7.alloc (.cells #[.int .u16 V0, .int .u16 V1, .int .u64 0, .int .u64 0, .slice av S2 cv] 46)) := (Below.refl _ _).alloc (Nat.le_refl _) _
      have hWA := HW1.out.trans (halA.mono HW1.out.size)
      have hownA := own_below HOWN.out hWA
      have hPA := HP1.out.below hWA
      have hRA := HR1.out.below hWA
      have hBA := HBr.out.trans (hWA.mono HBr.out.size)
      have hioA : ∀ t ∈ its, ItOwn (X7.alloc (.cells #[.int .u16 V0, .int .u16 V1, .int .u64 0, .int .u64 0, .slice av S2 cv] 46)) (w.heap.size + 2) t := fun t ht => (hio.out t ht).below hWA
      have hitA : ItOwn (X7.alloc (.cells #[.int .u16 V0, .int .u16 V1, .int .u64 0, .int .u64 0, .slice av S2 cv] 46)) (w.heap.size + 2) ⟨V0, V1, 0, 0, av, S2, cv, vb⟩ := HITO.out.below halA
      have hsA := Nat.le_trans hwrs hWA.size
      have HA27 := Lib.hid (And.intro hPA (And.intro hRA (And.intro hBA (And.intro hioA (And.intro hitA hsA)))))
      have hnews : ∀ i u, [.int .u16 V0, .int .u16 V1, .int .u64 0, .int .u64 0, .slice av S2 cv][i]? = some u → (X7.alloc (.cells #[.int .u16 V0, .int .u16 V1, .int .u64 0, .int .u64 0, .slice av S2 cv] 46)).cell? ((⟨X7.heap.size, 0, none⟩ : Addr).add i) = some u := fun i u hu => by rw [addr_off, Nat.zero_add]; exact bN.cell hu
      have HNW := Lib.hid hnews
      have HONA := Lib.hid hownA
      clear bA halA hWA hPA hRA hBA hioA hitA hnews hownA
      go_wp2_with (at_builtin; refine wpList_append_own _ rfl _ _ 27 rfl (w.heap.size + 2) 46 i0 (.agg #[.int .u16 0, .int .u16 0, .int .u64 0, .int .u64 0, .slice none 0 0]) 5 48 Try.underlying27 hi0 hz0 hz1 hz2 rfl (by decide) L j (its.flatMap itc) rfl HONA.out ⟨X7.heap.size, 0, none⟩ 1 1 [.int .u16 V0, .int .u16 V1, .int .u64 0, .int .u64 0, .slice av S2 cv] rfl rfl HNW.out (itc_one [⟨V0, V1, 0, 0, av, S2, cv, vb⟩]) (by unfold maxLen; omega) (by omega) hsA ?_)
      intro L2' w7 hown7 hg _
      obtain ⟨al2, cl2, rfl⟩ := own_slice hown7
      obtain ⟨L2, hL2⟩ : ∃ v : Value, v = .slice al2 (j + 1) cl2 := ⟨_, rfl⟩
      rw [← hL2] at hown7
      obtain ⟨hPA, hRA, hBA, hioA, hitA, hsA'⟩ := HA27.out
      have hownr := HONA.out
      have bP7 := hPA.kept hg (hPA.not_row (by decide) hownr)
      have bR7 := hRA.kept hg (hRA.not_row (by decide) hownr)
      have hB7 := hBA.grown hg (by omega) (fun p hp => by have := (hownr.lt p hp).1; omega)
      have hio7 : ∀ t ∈ its, ItOwn w7 (w.heap.size + 2) t := fun t ht => (hioA t ht).grow hownr (by decide) hg
      have hit7 := hitA.grow hownr (by decide) hg
      have hs7 := Nat.le_trans hsA' hg.size
      have f11 := bP7.frozen 11
      have bP8 := bP7.setAt (j := 11) L2
      have HL2 := Lib.hid hL2
      simp only [List.set_cons_zero, List.set_cons_succ] at bP8
      have hownL : w7.ownsRow (w.heap.size + 2) 46 5 L2 (j + 1) ((its ++ [(⟨V0, V1, 0, 0, av, S2, cv, vb⟩ : It)]).flatMap itc) := by
        rw [List.flatMap_append]
        exact hown7
      have hset7 : ∀ t ∈ its, ItOwn (w7.setCell ⟨w.heap.size, 11, none⟩ L2) (w.heap.size + 2) t := fun t ht => (hio7 t ht).set bP7 (by decide) 11 L2
      have HY := Lib.hid (And.intro bP8 (And.intro (bR7.other (show w.heap.size + 1 ≠ w.heap.size by omega) (o := 11) L2) (And.intro (own_set hownL bP7 (by decide) 11 L2) (And.intro hset7 (And.intro (hit7.set bP7 (by decide) 11 L2) (And.intro (hB7.setCell (p := ⟨w.heap.size, 11, none⟩) (Nat.le_refl _) L2) (show w.heap.size + 2 ≤ (w7.setCell ⟨w.heap.size, 11, none⟩ L2).heap.size by rw [World.size_setCell]; exact hs7)))))))
      have TP7 := bP7.cells
      clear hPA hRA hBA hioA hitA hsA' hownr bR7 hB7 hio7 hit7 hs7 bP7 bP8 hset7 hownL hown7 hg hsA hL2 y0 y1 y2 y3 y4 y5 y6 y7 y8 y9 yA yB z0 z1 z2 z3 z4
      have hOpen := TP7
      simp only [Cells, blk, List.cons_append, List.nil_append, and_true, Nat.reduceAdd, Nat.add_zero, Nat.zero_add] at hOpen
      obtain ⟨y0, y1, y2, y3, y4, y5, y6, y7, y8, y9, yA, yB⟩ := hOpen
      clear TP7
      rw [HL2.out] at HY
      go_upto_region 17 with fail
      clear f11 y0 y1 y2 y3 y4 y5 y6 y7 y8 y9 yA yB
      generalize World.setCell _ _ _ = W9 at HY ⊢
      have hdat : dat ⟨V0, V1, 0, 0, av, S2, cv, vb⟩ = dtD 17 (chn s q j) := HDAT.out
      have HREL := Lib.hid (show ∃ (j2 A2 : Nat) (L3 : Value) (its2 : List It), Value.int .i64 ((A : Int) + (s : Int)) = .int .i64 A2 ∧ j2 ≤ N ∧ Hid (A2 = j2 * s) ∧ its2.length = j2 ∧ Hid (erL 17 s q 0 N = erL 17 s q j2 (N - j2)) ∧ Hid (its2.map dat = (List.range j2).map fun i => dtD 17 (chn s q i)) ∧ Blk W9 w.heap.size 29 [.int .i64 17, .int .i64 0, .int .u16 0, .int .u16 0, .int .u64 0, .int .u64 0, .int .i64 0, .int .i64 0, .int .i64 0, .bool false, .slice none 0 0, L3] ∧ Blk W9 (w.heap.size + 1) 29 [.int .i64 0, .int .i64 0, .int .u16 0, .int .u16 0, .int .u64 0, .int .u64 0, .int .i64 0, .int .i64 0, .int .i64 0, .bool false, .slice none 0 0, .slice none 0 0] ∧ W9.ownsRow (w.heap.size + 2) 46 5 L3 j2 (its2.flatMap itc) ∧ Hid (∀ t ∈ its2, ItOwn W9 (w.heap.size + 2) t) ∧ Hid (∀ t ∈ its2, t.n ≤ 1000) ∧ Below w.heap.size w W9 ∧ w.heap.size + 2 ≤ W9.heap.size from
        ⟨j + 1, A + s, .slice al2 (j + 1) cl2, its ++ [⟨V0, V1, 0, 0, av, S2, cv, vb⟩], by simp, hlt, Lib.hid (by rw [HA.out, Nat.succ_mul]), by rw [List.length_append, hjl]; rfl, Lib.hid HERL.out, Lib.hid (by rw [List.map_append, hmap.out, List.range_succ, List.map_append]; simp [hdat]), HY.out.1, HY.out.2.1, HY.out.2.2.1,
          Lib.hid (fun t ht => by
            rcases List.mem_append.1 ht with h | h
            · exact HY.out.2.2.2.1 t h
            · rw [List.mem_singleton] at h; subst h; exact HY.out.2.2.2.2.1),
          Lib.hid (fun t ht => by
            rcases List.mem_append.1 ht with h | h
            · exact hin.out t h
            · rw [List.mem_singleton] at h; subst h; exact HTN.out), HY.out.2.2.2.2.2.1, HY.out.2.2.2.2.2.2⟩)
      clear HY hdat
      go_wp2
      obtain ⟨j2, A2, L3, its2, e1, h2⟩ := HREL.out
      first
      | exact ⟨⟨j2, A2, L3, its2, e1, h2⟩, by simp [intOf]; omega⟩
      | (refine ⟨⟨j2, A2, L3, its2, e1, h2⟩, ?_⟩; simp [intOf]; omega)
    · obtain rfl : N = j := by omega
      have q1 : decide (A < n2) = false := by simp; have := hA.out; have := HNS.out; omega
      have q1' : decide ((A : Int) < (n2 : Int)) = false := by simp; have := hA.out; have := HNS.out; omega
      obtain rfl : EE = 0 := by rw [HLSE.out, herl.out, Nat.sub_self]; rfl
      obtain ⟨al, cl, rfl⟩ := own_slice hown
      have hpd : pdOf 17 nm0 73 (s :: q) = ⟨17, nm0, 0, 0, [], its.map dat⟩ := by simp [pdOf, HLSL.out, hmap.out]
      have HPD := Lib.hid hpd
      have HJL := Lib.hid hjl
      have HP1 := Lib.hid bP
      have HR1 := Lib.hid bR
      have HBr := Lib.hid hBr
      have HOWN := Lib.hid hown
      clear hpd bP bR hBr hown
      go_upto_region 28 with fail
      clear y0 y1 y2 y3 y4 y5 y6 y7 y8 y9 yA yB
      have TP := HP1.out.cells
      have hOpen := TP
      simp only [Cells, blk, List.cons_append, List.nil_append, and_true, Nat.reduceAdd, Nat.add_zero, Nat.zero_add] at hOpen
      obtain ⟨y0, y1, y2, y3, y4, y5, y6, y7, y8, y9, yA, yB⟩ := hOpen
      have TR := HR1.out.cells
      have hOpen := TR
      simp only [Cells, blk, List.cons_append, List.nil_append, and_true, Nat.reduceAdd, Nat.add_zero, Nat.zero_add] at hOpen
      obtain ⟨s0, s1, s2, s3, s4, s5, s6, s7, s8, s9, sA, sB⟩ := hOpen
      have g0 := HR1.out.frozen 0
      have g1 := HR1.out.frozen 1
      have g2 := HR1.out.frozen 2
      have g3 := HR1.out.frozen 3
      have g4 := HR1.out.frozen 4
      have g5 := HR1.out.frozen 5
      have g6 := HR1.out.frozen 6
      have g7 := HR1.out.frozen 7
      have g8 := HR1.out.frozen 8
      have g9 := HR1.out.frozen 9
      have gA := HR1.out.frozen 10
      have gB := HR1.out.frozen 11
      obtain ⟨b12, h12, o12⟩ := set12 HR1.out (.int .i64 17) (.int .i64 0) (.int .u16 0) (.int .u16 0) (.int .u64 0) (.int .u64 0) (.int .i64 0) (.int .i64 0) (.int .i64 0) (.bool false) (.slice none 0 0) (.slice al N cl)
      have HF := Lib.hid (h12 w.heap.size w (by simp) HBr.out)
      have hl5 := own_base (o12 _ _ _ _ _ _ (by decide) HOWN.out) (show w.heap.size ≤ w.heap.size + 2 by omega)
      have hio5 := fun t ht => let h := hio.out t ht; ItOwn.base (show ItOwn _ (w.heap.size + 2) t from ⟨h.1, h.2.1, h.2.2.1, h.2.2.2.1, h.2.2.2.2.1, h.2.2.2.2.2.1, o12 _ _ _ _ _ _ (by decide) h.2.2.2.2.2.2⟩) (show w.heap.size ≤ w.heap.size + 2 by omega)
      have HIT := Lib.hid (And.intro hl5 hio5)
      clear hl5 hio5
      obtain ⟨r0, r1, r2, r3, r4, r5, r6, r7, r8, r9, rA, rB, _⟩ := b12.cells
      simp only [Nat.zero_add, Nat.add_zero] at r0 r1 r2 r3 r4 r5 r6 r7 r8 r9 rA rB
      clear TP TR b12 h12 o12
      go_wp2
      refine bodyPost_ret (v := .tuple #[.agg #[.int .i64 17, .int .i64 0, .int .u16 0, .int .u16 0, .int .u64 0, .int .u64 0, .int .i64 0, .int .i64 0, .int .i64 0, .bool false, .slice none 0 0, .slice al N cl], .int .i64 0]) (by simp [results, Try.results61, go_sem, r0, r1, r2, r3, r4, r5, r6, r7, r8, r9, rA, rB]) rfl ?_
      exact ⟨0, 0, none, 0, 0, [], al, N, cl, its, rfl, HF.out, fun _ => ⟨HPD.out, nil_u8 _ _, rfl, by omega, by simp, HIT.out.1, HIT.out.2, HJL.out, hNb, fun t ht => by have := hin.out t ht; omega⟩⟩
end Go.Proofs.Ythnffdlnhfhabaa
