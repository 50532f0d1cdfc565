/- attpdu: the reference: Decode. attpdu: the reference: fixed; taken of a list. attpdu: the decoder by the set of fields. -/
import Derived.Test.YthnffdlnhfhabaaAvD
import Derived.Test.YthnffdlnhfhabaaAtX
namespace Go.Proofs.Ythnffdlnhfhabaa
open Go.RowKit

set_option linter.unusedSimpArgs false in
set_option linter.unusedVariables false in
set_option maxRecDepth 100000 in
set_option maxHeartbeats 8000000 in
theorem rdec_empty (a : Option Addr) (c : Nat) (w : World) : Calls Try.prog 18 #[.slice a 0 c] w (DecPost w []) := by
  have hz := build_pdu
  have bR := Blk.new w 29 [.int .i64 0, .int .i64 0, .int .u16 0, .int .u16 0, .int .u64 0, .int .u64 0, .int .i64 0, .int .i64 0, .int .i64 0, .bool false, .slice none 0 0, .slice none 0 0]
  have hB : Below w.heap.size w (w.alloc (.cells #[.int .i64 0, .int .i64 0, .int .u16 0, .int .u16 0, .int .u64 0, .int .u64 0, .int .i64 0, .int .i64 0, .int .i64 0, .bool false, .slice none 0 0, .slice none 0 0] 29)) := (Below.refl _ _).alloc (Nat.le_refl _) _
  have HR := Lib.hid bR
  have HB := Lib.hid hB
  clear bR hB
  go_enter Try.func18, Try.ntmps18
  go_upto_region 2 with fail
  generalize World.alloc _ _ = V at HR HB ⊢
  have TR := HR.out.cells
  have hOpen := TR
  simp only [Cells, blk, List.cons_append, List.nil_append, and_true, Nat.reduceAdd, Nat.add_zero, Nat.zero_add] at hOpen
  obtain ⟨s0, s1, s2, s3, s4, s5, s6, s7, s8, s9, sA, sB⟩ := hOpen
  have g0 := HR.out.frozen 0
  have g1 := HR.out.frozen 1
  have g2 := HR.out.frozen 2
  have g3 := HR.out.frozen 3
  have g4 := HR.out.frozen 4
  have g5 := HR.out.frozen 5
  have g6 := HR.out.frozen 6
  have g7 := HR.out.frozen 7
  have g8 := HR.out.frozen 8
  have g9 := HR.out.frozen 9
  have gA := HR.out.frozen 10
  have gB := HR.out.frozen 11
  obtain ⟨b12, h12, _⟩ := set12 HR.out (.int .i64 0) (.int .i64 0) (.int .u16 0) (.int .u16 0) (.int .u64 0) (.int .u64 0) (.int .i64 0) (.int .i64 0) (.int .i64 0) (.bool false) (.slice none 0 0) (.slice none 0 0)
  have HF := Lib.hid (h12 w.heap.size w (by simp) HB.out)
  obtain ⟨r0, r1, r2, r3, r4, r5, r6, r7, r8, r9, rA, rB, _⟩ := b12.cells
  simp only [Nat.zero_add, Nat.add_zero] at r0 r1 r2 r3 r4 r5 r6 r7 r8 r9 rA rB
  clear TR b12 h12
  go_wp2
  refine bodyPost_ret (v := .tuple #[.agg #[.int .i64 0, .int .i64 0, .int .u16 0, .int .u16 0, .int .u64 0, .int .u64 0, .int .i64 0, .int .i64 0, .int .i64 0, .bool false, .slice none 0 0, .slice none 0 0], .int .i64 3]) (by simp [results, Try.results18, go_sem, r0, r1, r2, r3, r4, r5, r6, r7, r8, r9, rA, rB]) rfl ?_
  exact decPost_zero rfl HF.out
set_option linter.unusedSimpArgs false in
set_option linter.unusedVariables false in
set_option maxRecDepth 100000 in
set_option maxHeartbeats 8000000 in
theorem rdec_none (x : Nat) (hk : fldC (x : Int) = none) (a : Option Addr) (n c : Nat) (b : List Nat) (w : World) (h : BytesAt w (.slice a n c) b) (hn : b.length = n) (h0 : 0 < n) (hx : vnum (b.take 1) = x) (hd : decP b = (12, pd0)) :
    Calls Try.prog 18 #[.slice a n c] w (DecPost w b) := by
  have hz := build_pdu
  have hbk := build_kind x
  obtain ⟨bb, off, rfl, kx, hxb⟩ := byte_at h hn 0 (by omega)
  rw [List.drop_zero, hx, Nat.add_zero] at kx
  rw [List.drop_zero, hx] at hxb
  have hi0 : (0 : Int) < (n : Int) := by omega
  have g0 : ((n : Int) == 0) = false := by simp; omega
  have x1' : (x : Int) < 256 := by omega
  have hw64 : IntKind.i64.wrap (x : Int) = (x : Int) := IntWalk.i64_in _ (by omega)
  have HKX := Lib.hid kx
  have bR := Blk.new w 29 [.int .i64 0, .int .i64 0, .int .u16 0, .int .u16 0, .int .u64 0, .int .u64 0, .int .i64 0, .int .i64 0, .int .i64 0, .bool false, .slice none 0 0, .slice none 0 0]
  have hB : Below w.heap.size w (w.alloc (.cells #[.int .i64 0, .int .i64 0, .int .u16 0, .int .u16 0, .int .u64 0, .int .u64 0, .int .i64 0, .int .i64 0, .int .i64 0, .bool false, .slice none 0 0, .slice none 0 0] 29)) := (Below.refl _ _).alloc (Nat.le_refl _) _
  have HR := Lib.hid bR
  have HB := Lib.hid hB
  have hf : ∀ W, Calls Try.prog 28 #[.int .i64 x] W (fun e w' => e = .returned (.agg #[.bool false, .bool false, .bool false, .bool false, .bool false, .bool false, .bool false, .bool false, .bool false, .bool false, .bool false]) ∧ Below W.heap.size W w') := fun W => by
    have h := rfields_any x W
    rw [hk] at h
    exact h
  have HFF := Lib.hid hf
  have HD := Lib.hid hd
  clear h hn hx bR hB kx hf hd hk
  go_enter Try.func18, Try.ntmps18
  go_upto_region 1 with fail
  generalize hV : World.alloc _ _ = V at HR HB ⊢
  have hVs : V.heap.size = w.heap.size + 1 := by rw [← hV]; simp
  clear hV
  have kv := kc HKX.out HB.out
  have bP := Blk.new V 29 [.int .i64 x, .int .i64 0, .int .u16 0, .int .u16 0, .int .u64 0, .int .u64 0, .int .i64 0, .int .i64 0, .int .i64 0, .bool false, .slice none 0 0, .slice none 0 0]
  have hal := (Below.refl V.heap.size V).alloc (Nat.le_refl _) (.cells #[.int .i64 x, .int .i64 0, .int .u16 0, .int .u16 0, .int .u64 0, .int .u64 0, .int .i64 0, .int .i64 0, .int .i64 0, .bool false, .slice none 0 0, .slice none 0 0] 29)
  rw [hVs] at bP
  have HX := Lib.hid (And.intro bP (And.intro (HR.out.below hal) (HB.out.trans (hal.mono HB.out.size))))
  clear bP hal
  go_upto_region 4 with fail
  clear kv HR HB
  generalize World.alloc _ _ = X at HX ⊢
  have HP := Lib.hid HX.out.1
  have HR := Lib.hid HX.out.2.1
  have HB := Lib.hid HX.out.2.2
  clear HX
  have kP := HP.out.cell (j := 0) rfl
  go_wp2_with fail
  refine (HFF.out _).mono ?_
  rintro e w1 ⟨rfl, hB1⟩
  have bU := Blk.new w1 58 [.bool false, .bool false, .bool false, .bool false, .bool false, .bool false, .bool false, .bool false, .bool false, .bool false, .bool false]
  have hal := (Below.refl w1.heap.size w1).alloc (Nat.le_refl _) (.cells #[.bool false, .bool false, .bool false, .bool false, .bool false, .bool false, .bool false, .bool false, .bool false, .bool false, .bool false] 58)
  have hb1 := HB.out.trans (hB1.mono HB.out.size)
  have HX := Lib.hid (And.intro ((HP.out.below hB1).below hal) (And.intro ((HR.out.below hB1).below hal) (hb1.trans (hal.mono hb1.size))))
  have hneU : w1.heap.size ≠ w.heap.size + 1 := by have := HP.out.lt; have := hB1.size; omega
  clear kP hB1 hb1 hal HP HR HB
  go_upto_region 5 with fail
  generalize World.alloc _ _ = Y at HX bU ⊢
  have HP := Lib.hid HX.out.1
  have HR := Lib.hid HX.out.2.1
  have HB := Lib.hid HX.out.2.2
  have HU := Lib.hid bU
  have TU := HU.out.cells
  have hOpen := TU
  simp only [Cells, blk, List.cons_append, List.nil_append, and_true, Nat.reduceAdd, Nat.add_zero, Nat.zero_add] at hOpen
  obtain ⟨u0, u1, u2, u3, u4, u5, u6, u7, u8, u9, uA⟩ := hOpen
  clear HX bU TU
  go_upto_region 6 with fail
  clear u0 u1 u2 u3 u4 u5 u6 u7 u8 u9 uA
  have TR := HR.out.cells
  have hOpen := TR
  simp only [Cells, blk, List.cons_append, List.nil_append, and_true, Nat.reduceAdd, Nat.add_zero, Nat.zero_add] at hOpen
  obtain ⟨s0, s1, s2, s3, s4, s5, s6, s7, s8, s9, sA, sB⟩ := hOpen
  have g0 := HR.out.frozen 0
  have g1 := HR.out.frozen 1
  have g2 := HR.out.frozen 2
  have g3 := HR.out.frozen 3
  have g4 := HR.out.frozen 4
  have g5 := HR.out.frozen 5
  have g6 := HR.out.frozen 6
  have g7 := HR.out.frozen 7
  have g8 := HR.out.frozen 8
  have g9 := HR.out.frozen 9
  have gA := HR.out.frozen 10
  have gB := HR.out.frozen 11
  obtain ⟨b12, h12, _⟩ := set12 HR.out (.int .i64 0) (.int .i64 0) (.int .u16 0) (.int .u16 0) (.int .u64 0) (.int .u64 0) (.int .i64 0) (.int .i64 0) (.int .i64 0) (.bool false) (.slice none 0 0) (.slice none 0 0)
  have HF := Lib.hid (h12 w.heap.size w (by simp) HB.out)
  obtain ⟨r0, r1, r2, r3, r4, r5, r6, r7, r8, r9, rA, rB, _⟩ := b12.cells
  simp only [Nat.zero_add, Nat.add_zero] at r0 r1 r2 r3 r4 r5 r6 r7 r8 r9 rA rB
  clear TR b12 h12
  go_wp2
  refine bodyPost_ret (v := .tuple #[.agg #[.int .i64 0, .int .i64 0, .int .u16 0, .int .u16 0, .int .u64 0, .int .u64 0, .int .i64 0, .int .i64 0, .int .i64 0, .bool false, .slice none 0 0, .slice none 0 0], .int .i64 12]) (by simp [results, Try.results18, go_sem, r0, r1, r2, r3, r4, r5, r6, r7, r8, r9, rA, rB]) rfl ?_
  exact decPost_zero HD.out HF.out
set_option linter.unusedSimpArgs false in
set_option linter.unusedVariables false in
set_option maxRecDepth 100000 in
set_option maxHeartbeats 8000000 in
theorem rdec_gen (x : Nat) (u : List Nat) (hk : fldC (x : Int) = some u) (a : Option Addr) (n c : Nat) (b : List Nat) (w : World) (h : BytesAt w (.slice a n c) b) (hn : b.length = n) (h0 : 0 < n) (hx : vnum (b.take 1) = x)
    (NF : Nat) (hNF : NF ≤ 10) (b1 b2 b3 b4 b5 b6 b7 b8 b9 b10 : Bool) (hfl : useV (some u) = .agg #[.bool true, .bool b1, .bool b2, .bool b3, .bool b4, .bool b5, .bool b6, .bool b7, .bool b8, .bool b9, .bool b10]) (hfx : ∀ W, Calls Try.prog 39 #[.agg #[.bool true, .bool b1, .bool b2, .bool b3, .bool b4, .bool b5, .bool b6, .bool b7, .bool b8, .bool b9, .bool b10]] W fun e w' => e = .returned (.int .i64 NF) ∧ Below W.heap.size W w')
    (hbig : 517 < n → decP b = (4, pd0)) (htr : n ≤ 517 → n < NF → decP b = (3, pd0)) (hlong : n ≤ 517 → NF < n → b4 = false → b9 = false → b10 = false → decP b = (2, pd0)) (s : Nm) (ct : Nat) (rest : List Nat) (E : Int)
    (hha : s.ha < 65536) (hla : s.la < 65536)
    (htak : n ≤ 517 → NF ≤ n → (NF = n ∨ b4 = true ∨ b9 = true ∨ b10 = true) → ∀ W, Below w.heap.size w W → Calls Try.prog 40 #[.agg #[.int .i64 x, .int .i64 0, .int .u16 0, .int .u16 0, .int .u64 0, .int .u64 0, .int .i64 0, .int .i64 0, .int .i64 0, .bool false, .slice none 0 0, .slice none 0 0], .slice a n c] W (TakPost W x s ct rest E))
    (hDE : n ≤ 517 → NF ≤ n → (NF = n ∨ b4 = true ∨ b9 = true ∨ b10 = true) → decP b = if E ≠ 0 then (E, pd0) else if chkD (pdOf x s ct rest) ≠ 0 then (chkD (pdOf x s ct rest), pd0) else (0, pdOf x s ct rest)) :
    Calls Try.prog 18 #[.slice a n c] w (DecPost w b) := by
  have hz := build_pdu
  have hbk := build_kind x
  obtain ⟨bb, off, rfl, kx, hxb⟩ := byte_at h hn 0 (by omega)
  rw [List.drop_zero, hx, Nat.add_zero] at kx
  rw [List.drop_zero, hx] at hxb
  have hi0 : (0 : Int) < (n : Int) := by omega
  have g0 : ((n : Int) == 0) = false := by simp; omega
  have x1' : (x : Int) < 256 := by omega
  have hw64 : IntKind.i64.wrap (x : Int) = (x : Int) := IntWalk.i64_in _ (by omega)
  have HKX := Lib.hid kx
  have bR := Blk.new w 29 [.int .i64 0, .int .i64 0, .int .u16 0, .int .u16 0, .int .u64 0, .int .u64 0, .int .i64 0, .int .i64 0, .int .i64 0, .bool false, .slice none 0 0, .slice none 0 0]
  have hB : Below w.heap.size w (w.alloc (.cells #[.int .i64 0, .int .i64 0, .int .u16 0, .int .u16 0, .int .u64 0, .int .u64 0, .int .i64 0, .int .i64 0, .int .i64 0, .bool false, .slice none 0 0, .slice none 0 0] 29)) := (Below.refl _ _).alloc (Nat.le_refl _) _
  have HR := Lib.hid bR
  have HB := Lib.hid hB
  have hf : ∀ W, Calls Try.prog 28 #[.int .i64 x] W (fun e w' => e = .returned (.agg #[.bool true, .bool b1, .bool b2, .bool b3, .bool b4, .bool b5, .bool b6, .bool b7, .bool b8, .bool b9, .bool b10]) ∧ Below W.heap.size W w') := fun W => by
    have h := rfields_any x W
    rw [hk, hfl] at h
    exact h
  have HFF := Lib.hid hf
  have HFX := Lib.hid hfx
  have HBG := Lib.hid hbig
  have HTR := Lib.hid htr
  have HLG := Lib.hid hlong
  have HTK := Lib.hid htak
  have HDE := Lib.hid hDE
  clear h hn hx bR hB kx hf hfx hbig htr hlong htak hDE hk hfl
  by_cases hl : 517 < n
  · have hd := HBG.out hl
    have g5 : decide ((517 : Int) < (n : Int)) = true := by simp; omega
    have g5' : decide (517 < n) = true := by simpa using hl
    clear HBG HTR HLG HTK HDE HFX hl
    have HD := Lib.hid hd
    clear hd
    go_enter Try.func18, Try.ntmps18
    go_upto_region 1 with fail
    generalize hV : World.alloc _ _ = V at HR HB ⊢
    have hVs : V.heap.size = w.heap.size + 1 := by rw [← hV]; simp
    clear hV
    have kv := kc HKX.out HB.out
    have bP := Blk.new V 29 [.int .i64 x, .int .i64 0, .int .u16 0, .int .u16 0, .int .u64 0, .int .u64 0, .int .i64 0, .int .i64 0, .int .i64 0, .bool false, .slice none 0 0, .slice none 0 0]
    have hal := (Below.refl V.heap.size V).alloc (Nat.le_refl _) (.cells #[.int .i64 x, .int .i64 0, .int .u16 0, .int .u16 0, .int .u64 0, .int .u64 0, .int .i64 0, .int .i64 0, .int .i64 0, .bool false, .slice none 0 0, .slice none 0 0] 29)
    rw [hVs] at bP
    have HX := Lib.hid (And.intro bP (And.intro (HR.out.below hal) (HB.out.trans (hal.mono HB.out.size))))
    clear bP hal
    go_upto_region 4 with fail
    clear kv HR HB
    generalize World.alloc _ _ = X at HX ⊢
    have HP := Lib.hid HX.out.1
    have HR := Lib.hid HX.out.2.1
    have HB := Lib.hid HX.out.2.2
    clear HX
    have kP := HP.out.cell (j := 0) rfl
    go_wp2_with fail
    refine (HFF.out _).mono ?_
    rintro e w1 ⟨rfl, hB1⟩
    have bU := Blk.new w1 58 [.bool true, .bool b1, .bool b2, .bool b3, .bool b4, .bool b5, .bool b6, .bool b7, .bool b8, .bool b9, .bool b10]
    have hal := (Below.refl w1.heap.size w1).alloc (Nat.le_refl _) (.cells #[.bool true, .bool b1, .bool b2, .bool b3, .bool b4, .bool b5, .bool b6, .bool b7, .bool b8, .bool b9, .bool b10] 58)
    have hb1 := HB.out.trans (hB1.mono HB.out.size)
    have HX := Lib.hid (And.intro ((HP.out.below hB1).below hal) (And.intro ((HR.out.below hB1).below hal) (hb1.trans (hal.mono hb1.size))))
    have hneU : w1.heap.size ≠ w.heap.size + 1 := by have := HP.out.lt; have := hB1.size; omega
    clear kP hB1 hb1 hal HP HR HB
    go_upto_region 5 with fail
    generalize World.alloc _ _ = Y at HX bU ⊢
    have HP := Lib.hid HX.out.1
    have HR := Lib.hid HX.out.2.1
    have HB := Lib.hid HX.out.2.2
    have HU := Lib.hid bU
    have TU := HU.out.cells
    have hOpen := TU
    simp only [Cells, blk, List.cons_append, List.nil_append, and_true, Nat.reduceAdd, Nat.add_zero, Nat.zero_add] at hOpen
    obtain ⟨u0, u1, u2, u3, u4, u5, u6, u7, u8, u9, uA⟩ := hOpen
    clear HX bU TU
    go_upto_region 8 with fail
    clear u0 u1 u2 u3 u4 u5 u6 u7 u8 u9 uA
    have TR := HR.out.cells
    have hOpen := TR
    simp only [Cells, blk, List.cons_append, List.nil_append, and_true, Nat.reduceAdd, Nat.add_zero, Nat.zero_add] at hOpen
    obtain ⟨s0, s1, s2, s3, s4, s5, s6, s7, s8, s9, sA, sB⟩ := hOpen
    have g0 := HR.out.frozen 0
    have g1 := HR.out.frozen 1
    have g2 := HR.out.frozen 2
    have g3 := HR.out.frozen 3
    have g4 := HR.out.frozen 4
    have g5 := HR.out.frozen 5
    have g6 := HR.out.frozen 6
    have g7 := HR.out.frozen 7
    have g8 := HR.out.frozen 8
    have g9 := HR.out.frozen 9
    have gA := HR.out.frozen 10
    have gB := HR.out.frozen 11
    obtain ⟨b12, h12, _⟩ := set12 HR.out (.int .i64 0) (.int .i64 0) (.int .u16 0) (.int .u16 0) (.int .u64 0) (.int .u64 0) (.int .i64 0) (.int .i64 0) (.int .i64 0) (.bool false) (.slice none 0 0) (.slice none 0 0)
    have HF := Lib.hid (h12 w.heap.size w (by simp) HB.out)
    obtain ⟨r0, r1, r2, r3, r4, r5, r6, r7, r8, r9, rA, rB, _⟩ := b12.cells
    simp only [Nat.zero_add, Nat.add_zero] at r0 r1 r2 r3 r4 r5 r6 r7 r8 r9 rA rB
    clear TR b12 h12
    go_wp2
    refine bodyPost_ret (v := .tuple #[.agg #[.int .i64 0, .int .i64 0, .int .u16 0, .int .u16 0, .int .u64 0, .int .u64 0, .int .i64 0, .int .i64 0, .int .i64 0, .bool false, .slice none 0 0, .slice none 0 0], .int .i64 4]) (by simp [results, Try.results18, go_sem, r0, r1, r2, r3, r4, r5, r6, r7, r8, r9, rA, rB]) rfl ?_
    exact decPost_zero HD.out HF.out
  have hl' : n ≤ 517 := by omega
  have g5 : decide ((517 : Int) < (n : Int)) = false := by simp; omega
  have g5' : decide (517 < n) = false := by simpa using hl
  clear hl
  by_cases hsh : n < NF
  · have hd := HTR.out hl' hsh
    have g6 : decide ((n : Int) < (NF : Int)) = true := by simp; omega
    have g6' : decide (n < NF) = true := by simpa using hsh
    clear HBG HTR HLG HTK HDE hsh
    have HD := Lib.hid hd
    clear hd
    go_enter Try.func18, Try.ntmps18
    go_upto_region 1 with fail
    generalize hV : World.alloc _ _ = V at HR HB ⊢
    have hVs : V.heap.size = w.heap.size + 1 := by rw [← hV]; simp
    clear hV
    have kv := kc HKX.out HB.out
    have bP := Blk.new V 29 [.int .i64 x, .int .i64 0, .int .u16 0, .int .u16 0, .int .u64 0, .int .u64 0, .int .i64 0, .int .i64 0, .int .i64 0, .bool false, .slice none 0 0, .slice none 0 0]
    have hal := (Below.refl V.heap.size V).alloc (Nat.le_refl _) (.cells #[.int .i64 x, .int .i64 0, .int .u16 0, .int .u16 0, .int .u64 0, .int .u64 0, .int .i64 0, .int .i64 0, .int .i64 0, .bool false, .slice none 0 0, .slice none 0 0] 29)
    rw [hVs] at bP
    have HX := Lib.hid (And.intro bP (And.intro (HR.out.below hal) (HB.out.trans (hal.mono HB.out.size))))
    clear bP hal
    go_upto_region 4 with fail
    clear kv HR HB
    generalize World.alloc _ _ = X at HX ⊢
    have HP := Lib.hid HX.out.1
    have HR := Lib.hid HX.out.2.1
    have HB := Lib.hid HX.out.2.2
    clear HX
    have kP := HP.out.cell (j := 0) rfl
    go_wp2_with fail
    refine (HFF.out _).mono ?_
    rintro e w1 ⟨rfl, hB1⟩
    have bU := Blk.new w1 58 [.bool true, .bool b1, .bool b2, .bool b3, .bool b4, .bool b5, .bool b6, .bool b7, .bool b8, .bool b9, .bool b10]
    have hal := (Below.refl w1.heap.size w1).alloc (Nat.le_refl _) (.cells #[.bool true, .bool b1, .bool b2, .bool b3, .bool b4, .bool b5, .bool b6, .bool b7, .bool b8, .bool b9, .bool b10] 58)
    have hb1 := HB.out.trans (hB1.mono HB.out.size)
    have HX := Lib.hid (And.intro ((HP.out.below hB1).below hal) (And.intro ((HR.out.below hB1).below hal) (hb1.trans (hal.mono hb1.size))))
    have hneU : w1.heap.size ≠ w.heap.size + 1 := by have := HP.out.lt; have := hB1.size; omega
    clear kP hB1 hb1 hal HP HR HB
    go_upto_region 5 with fail
    generalize World.alloc _ _ = Y at HX bU ⊢
    have HP := Lib.hid HX.out.1
    have HR := Lib.hid HX.out.2.1
    have HB := Lib.hid HX.out.2.2
    have HU := Lib.hid bU
    have TU := HU.out.cells
    have hOpen := TU
    simp only [Cells, blk, List.cons_append, List.nil_append, and_true, Nat.reduceAdd, Nat.add_zero, Nat.zero_add] at hOpen
    obtain ⟨u0, u1, u2, u3, u4, u5, u6, u7, u8, u9, uA⟩ := hOpen
    clear HX bU TU
    go_wp2_with fail
    refine (HFX.out _).mono ?_
    rintro e w3 ⟨rfl, hB3⟩
    have HP := Lib.hid (HP.out.below hB3)
    have HR := Lib.hid (HR.out.below hB3)
    have HB := Lib.hid (HB.out.trans (hB3.mono HB.out.size))
    have HU := Lib.hid (HU.out.below hB3)
    clear hB3 u0 u1 u2 u3 u4 u5 u6 u7 u8 u9 uA HFX
    have TU := HU.out.cells
    have hOpen := TU
    simp only [Cells, blk, List.cons_append, List.nil_append, and_true, Nat.reduceAdd, Nat.add_zero, Nat.zero_add] at hOpen
    obtain ⟨u0, u1, u2, u3, u4, u5, u6, u7, u8, u9, uA⟩ := hOpen
    clear TU
    go_upto_region 11 with fail
    clear u0 u1 u2 u3 u4 u5 u6 u7 u8 u9 uA
    have TR := HR.out.cells
    have hOpen := TR
    simp only [Cells, blk, List.cons_append, List.nil_append, and_true, Nat.reduceAdd, Nat.add_zero, Nat.zero_add] at hOpen
    obtain ⟨s0, s1, s2, s3, s4, s5, s6, s7, s8, s9, sA, sB⟩ := hOpen
    have g0 := HR.out.frozen 0
    have g1 := HR.out.frozen 1
    have g2 := HR.out.frozen 2
    have g3 := HR.out.frozen 3
    have g4 := HR.out.frozen 4
    have g5 := HR.out.frozen 5
    have g6 := HR.out.frozen 6
    have g7 := HR.out.frozen 7
    have g8 := HR.out.frozen 8
    have g9 := HR.out.frozen 9
    have gA := HR.out.frozen 10
    have gB := HR.out.frozen 11
    obtain ⟨b12, h12, _⟩ := set12 HR.out (.int .i64 0) (.int .i64 0) (.int .u16 0) (.int .u16 0) (.int .u64 0) (.int .u64 0) (.int .i64 0) (.int .i64 0) (.int .i64 0) (.bool false) (.slice none 0 0) (.slice none 0 0)
    have HF := Lib.hid (h12 w.heap.size w (by simp) HB.out)
    obtain ⟨r0, r1, r2, r3, r4, r5, r6, r7, r8, r9, rA, rB, _⟩ := b12.cells
    simp only [Nat.zero_add, Nat.add_zero] at r0 r1 r2 r3 r4 r5 r6 r7 r8 r9 rA rB
    clear TR b12 h12
    go_wp2
    refine bodyPost_ret (v := .tuple #[.agg #[.int .i64 0, .int .i64 0, .int .u16 0, .int .u16 0, .int .u64 0, .int .u64 0, .int .i64 0, .int .i64 0, .int .i64 0, .bool false, .slice none 0 0, .slice none 0 0], .int .i64 3]) (by simp [results, Try.results18, go_sem, r0, r1, r2, r3, r4, r5, r6, r7, r8, r9, rA, rB]) rfl ?_
    exact decPost_zero HD.out HF.out
  have g6 : decide ((n : Int) < (NF : Int)) = false := by simp; omega
  have g6' : decide (n < NF) = false := by simpa using hsh
  by_cases hlg : NF < n ∧ b4 = false ∧ b9 = false ∧ b10 = false
  · obtain ⟨q1, rfl, rfl, rfl⟩ := hlg
    have hd := HLG.out hl' q1 rfl rfl rfl
    have g7 : decide ((NF : Int) < (n : Int)) = true := by simp; omega
    have g7' : decide (NF < n) = true := by simpa using q1
    clear HBG HTR HLG HTK HDE hsh q1
    have HD := Lib.hid hd
    clear hd
    go_enter Try.func18, Try.ntmps18
    go_upto_region 1 with fail
    generalize hV : World.alloc _ _ = V at HR HB ⊢
    have hVs : V.heap.size = w.heap.size + 1 := by rw [← hV]; simp
    clear hV
    have kv := kc HKX.out HB.out
    have bP := Blk.new V 29 [.int .i64 x, .int .i64 0, .int .u16 0, .int .u16 0, .int .u64 0, .int .u64 0, .int .i64 0, .int .i64 0, .int .i64 0, .bool false, .slice none 0 0, .slice none 0 0]
    have hal := (Below.refl V.heap.size V).alloc (Nat.le_refl _) (.cells #[.int .i64 x, .int .i64 0, .int .u16 0, .int .u16 0, .int .u64 0, .int .u64 0, .int .i64 0, .int .i64 0, .int .i64 0, .bool false, .slice none 0 0, .slice none 0 0] 29)
    rw [hVs] at bP
    have HX := Lib.hid (And.intro bP (And.intro (HR.out.below hal) (HB.out.trans (hal.mono HB.out.size))))
    clear bP hal
    go_upto_region 4 with fail
    clear kv HR HB
    generalize World.alloc _ _ = X at HX ⊢
    have HP := Lib.hid HX.out.1
    have HR := Lib.hid HX.out.2.1
    have HB := Lib.hid HX.out.2.2
    clear HX
    have kP := HP.out.cell (j := 0) rfl
    go_wp2_with fail
    refine (HFF.out _).mono ?_
    rintro e w1 ⟨rfl, hB1⟩
    have bU := Blk.new w1 58 [.bool true, .bool b1, .bool b2, .bool b3, .bool false, .bool b5, .bool b6, .bool b7, .bool b8, .bool false, .bool false]
    have hal := (Below.refl w1.heap.size w1).alloc (Nat.le_refl _) (.cells #[.bool true, .bool b1, .bool b2, .bool b3, .bool false, .bool b5, .bool b6, .bool b7, .bool b8, .bool false, .bool false] 58)
    have hb1 := HB.out.trans (hB1.mono HB.out.size)
    have HX := Lib.hid (And.intro ((HP.out.below hB1).below hal) (And.intro ((HR.out.below hB1).below hal) (hb1.trans (hal.mono hb1.size))))
    have hneU : w1.heap.size ≠ w.heap.size + 1 := by have := HP.out.lt; have := hB1.size; omega
    clear kP hB1 hb1 hal HP HR HB
    go_upto_region 5 with fail
    generalize World.alloc _ _ = Y at HX bU ⊢
    have HP := Lib.hid HX.out.1
    have HR := Lib.hid HX.out.2.1
    have HB := Lib.hid HX.out.2.2
    have HU := Lib.hid bU
    have TU := HU.out.cells
    have hOpen := TU
    simp only [Cells, blk, List.cons_append, List.nil_append, and_true, Nat.reduceAdd, Nat.add_zero, Nat.zero_add] at hOpen
    obtain ⟨u0, u1, u2, u3, u4, u5, u6, u7, u8, u9, uA⟩ := hOpen
    clear HX bU TU
    go_wp2_with fail
    refine (HFX.out _).mono ?_
    rintro e w3 ⟨rfl, hB3⟩
    have HP := Lib.hid (HP.out.below hB3)
    have HR := Lib.hid (HR.out.below hB3)
    have HB := Lib.hid (HB.out.trans (hB3.mono HB.out.size))
    have HU := Lib.hid (HU.out.below hB3)
    clear hB3 u0 u1 u2 u3 u4 u5 u6 u7 u8 u9 uA HFX
    have TU := HU.out.cells
    have hOpen := TU
    simp only [Cells, blk, List.cons_append, List.nil_append, and_true, Nat.reduceAdd, Nat.add_zero, Nat.zero_add] at hOpen
    obtain ⟨u0, u1, u2, u3, u4, u5, u6, u7, u8, u9, uA⟩ := hOpen
    clear TU
    go_upto_region 13 with fail
    clear u0 u1 u2 u3 u4 u5 u6 u7 u8 u9 uA
    have TR := HR.out.cells
    have hOpen := TR
    simp only [Cells, blk, List.cons_append, List.nil_append, and_true, Nat.reduceAdd, Nat.add_zero, Nat.zero_add] at hOpen
    obtain ⟨s0, s1, s2, s3, s4, s5, s6, s7, s8, s9, sA, sB⟩ := hOpen
    have g0 := HR.out.frozen 0
    have g1 := HR.out.frozen 1
    have g2 := HR.out.frozen 2
    have g3 := HR.out.frozen 3
    have g4 := HR.out.frozen 4
    have g5 := HR.out.frozen 5
    have g6 := HR.out.frozen 6
    have g7 := HR.out.frozen 7
    have g8 := HR.out.frozen 8
    have g9 := HR.out.frozen 9
    have gA := HR.out.frozen 10
    have gB := HR.out.frozen 11
    obtain ⟨b12, h12, _⟩ := set12 HR.out (.int .i64 0) (.int .i64 0) (.int .u16 0) (.int .u16 0) (.int .u64 0) (.int .u64 0) (.int .i64 0) (.int .i64 0) (.int .i64 0) (.bool false) (.slice none 0 0) (.slice none 0 0)
    have HF := Lib.hid (h12 w.heap.size w (by simp) HB.out)
    obtain ⟨r0, r1, r2, r3, r4, r5, r6, r7, r8, r9, rA, rB, _⟩ := b12.cells
    simp only [Nat.zero_add, Nat.add_zero] at r0 r1 r2 r3 r4 r5 r6 r7 r8 r9 rA rB
    clear TR b12 h12
    go_wp2
    refine bodyPost_ret (v := .tuple #[.agg #[.int .i64 0, .int .i64 0, .int .u16 0, .int .u16 0, .int .u64 0, .int .u64 0, .int .i64 0, .int .i64 0, .int .i64 0, .bool false, .slice none 0 0, .slice none 0 0], .int .i64 2]) (by simp [results, Try.results18, go_sem, r0, r1, r2, r3, r4, r5, r6, r7, r8, r9, rA, rB]) rfl ?_
    exact decPost_zero HD.out HF.out
  have hcond : (NF = n ∨ b4 = true ∨ b9 = true ∨ b10 = true) := by
    by_cases e : NF = n
    · exact .inl e
    · have : NF < n := by omega
      cases b4
      · cases b9
        · cases b10
          · exact absurd ⟨this, rfl, rfl, rfl⟩ hlg
          · simp
        · simp
      · simp
  have hcase : decide (NF < n) = false ∨ (decide (NF < n) = true ∧ b4 = true) ∨ (decide (NF < n) = true ∧ b4 = false ∧ b9 = true) ∨ (decide (NF < n) = true ∧ b4 = false ∧ b9 = false ∧ b10 = true) := by
    rcases hcond with e | e | e | e
    · left; simp; omega
    · by_cases q : NF < n
      · right; left; exact ⟨by simpa using q, e⟩
      · left; simpa using q
    · by_cases q : NF < n
      · right; cases b4
        · right; left; exact ⟨by simpa using q, rfl, e⟩
        · left; exact ⟨by simpa using q, rfl⟩
      · left; simpa using q
    · by_cases q : NF < n
      · right; cases b4
        · right; cases b9
          · right; exact ⟨by simpa using q, rfl, rfl, e⟩
          · left; exact ⟨by simpa using q, rfl, rfl⟩
        · left; exact ⟨by simpa using q, rfl⟩
      · left; simpa using q
  have htk := HTK.out hl' (by omega) hcond
  have hde := HDE.out hl' (by omega) hcond
  have HTK2 := Lib.hid htk
  have HDE2 := Lib.hid hde
  have g7i : ∀ q, decide (NF < n) = q → decide ((NF : Int) < (n : Int)) = q := fun q h => by rw [← h]; simp
  clear HBG HTR HLG HTK HDE hsh hlg htk hde hcond
  rcases hcase with g7 | ⟨g7, rfl⟩ | ⟨g7, rfl, rfl⟩ | ⟨g7, rfl, rfl, rfl⟩
  · have g7' := g7i _ g7
    clear g7i
    go_enter Try.func18, Try.ntmps18
    go_upto_region 1 with fail
    generalize hV : World.alloc _ _ = V at HR HB ⊢
    have hVs : V.heap.size = w.heap.size + 1 := by rw [← hV]; simp
    clear hV
    have kv := kc HKX.out HB.out
    have bP := Blk.new V 29 [.int .i64 x, .int .i64 0, .int .u16 0, .int .u16 0, .int .u64 0, .int .u64 0, .int .i64 0, .int .i64 0, .int .i64 0, .bool false, .slice none 0 0, .slice none 0 0]
    have hal := (Below.refl V.heap.size V).alloc (Nat.le_refl _) (.cells #[.int .i64 x, .int .i64 0, .int .u16 0, .int .u16 0, .int .u64 0, .int .u64 0, .int .i64 0, .int .i64 0, .int .i64 0, .bool false, .slice none 0 0, .slice none 0 0] 29)
    rw [hVs] at bP
    have HX := Lib.hid (And.intro bP (And.intro (HR.out.below hal) (HB.out.trans (hal.mono HB.out.size))))
    clear bP hal
    go_upto_region 4 with fail
    clear kv HR HB
    generalize World.alloc _ _ = X at HX ⊢
    have HP := Lib.hid HX.out.1
    have HR := Lib.hid HX.out.2.1
    have HB := Lib.hid HX.out.2.2
    clear HX
    have kP := HP.out.cell (j := 0) rfl
    go_wp2_with fail
    refine (HFF.out _).mono ?_
    rintro e w1 ⟨rfl, hB1⟩
    have bU := Blk.new w1 58 [.bool true, .bool b1, .bool b2, .bool b3, .bool b4, .bool b5, .bool b6, .bool b7, .bool b8, .bool b9, .bool b10]
    have hal := (Below.refl w1.heap.size w1).alloc (Nat.le_refl _) (.cells #[.bool true, .bool b1, .bool b2, .bool b3, .bool b4, .bool b5, .bool b6, .bool b7, .bool b8, .bool b9, .bool b10] 58)
    have hb1 := HB.out.trans (hB1.mono HB.out.size)
    have HX := Lib.hid (And.intro ((HP.out.below hB1).below hal) (And.intro ((HR.out.below hB1).below hal) (hb1.trans (hal.mono hb1.size))))
    have hneU : w1.heap.size ≠ w.heap.size + 1 := by have := HP.out.lt; have := hB1.size; omega
    clear kP hB1 hb1 hal HP HR HB
    go_upto_region 5 with fail
    generalize World.alloc _ _ = Y at HX bU ⊢
    have HP := Lib.hid HX.out.1
    have HR := Lib.hid HX.out.2.1
    have HB := Lib.hid HX.out.2.2
    have HU := Lib.hid bU
    have TU := HU.out.cells
    have hOpen := TU
    simp only [Cells, blk, List.cons_append, List.nil_append, and_true, Nat.reduceAdd, Nat.add_zero, Nat.zero_add] at hOpen
    obtain ⟨u0, u1, u2, u3, u4, u5, u6, u7, u8, u9, uA⟩ := hOpen
    clear HX bU TU
    go_wp2_with fail
    refine (HFX.out _).mono ?_
    rintro e w3 ⟨rfl, hB3⟩
    have HP := Lib.hid (HP.out.below hB3)
    have HR := Lib.hid (HR.out.below hB3)
    have HB := Lib.hid (HB.out.trans (hB3.mono HB.out.size))
    have HU := Lib.hid (HU.out.below hB3)
    clear hB3 u0 u1 u2 u3 u4 u5 u6 u7 u8 u9 uA HFX
    have TU := HU.out.cells
    have hOpen := TU
    simp only [Cells, blk, List.cons_append, List.nil_append, and_true, Nat.reduceAdd, Nat.add_zero, Nat.zero_add] at hOpen
    obtain ⟨u0, u1, u2, u3, u4, u5, u6, u7, u8, u9, uA⟩ := hOpen
    clear TU
    have TP := HP.out.cells
    have hOpen := TP
    simp only [Cells, blk, List.cons_append, List.nil_append, and_true, Nat.reduceAdd, Nat.add_zero, Nat.zero_add] at hOpen
    obtain ⟨y0, y1, y2, y3, y4, y5, y6, y7, y8, y9, yA, yB⟩ := hOpen
    clear TP
    go_wp2_with fail
    refine (HTK2.out _ HB.out).mono ?_
    rintro e w5 ⟨hi, lo, av, nv, cv, bsv, al, m, d, its, rfl, hB5, hpost⟩
    have HPOST := Lib.hid hpost
    have HP5 := Lib.hid (HP.out.below hB5)
    have HR5 := Lib.hid (HR.out.below hB5)
    have HB5 := Lib.hid (HB.out.trans (hB5.mono HB.out.size))
    have hPl := HP.out.lt
    have HYs := Lib.hid HB.out.size
    have hwY := hPl
    clear hB5 hpost y0 y1 y2 y3 y4 y5 y6 y7 y8 y9 yA yB u0 u1 u2 u3 u4 u5 u6 u7 u8 u9 uA HP HR HB HU HTK2
    have TP := HP5.out.cells
    have hOpen := TP
    simp only [Cells, blk, List.cons_append, List.nil_append, and_true, Nat.reduceAdd, Nat.add_zero, Nat.zero_add] at hOpen
    obtain ⟨y0, y1, y2, y3, y4, y5, y6, y7, y8, y9, yA, yB⟩ := hOpen
    have f0 := HP5.out.frozen 0
    have f1 := HP5.out.frozen 1
    have f2 := HP5.out.frozen 2
    have f3 := HP5.out.frozen 3
    have f4 := HP5.out.frozen 4
    have f5 := HP5.out.frozen 5
    have f6 := HP5.out.frozen 6
    have f7 := HP5.out.frozen 7
    have f8 := HP5.out.frozen 8
    have f9 := HP5.out.frozen 9
    have fA := HP5.out.frozen 10
    have fB := HP5.out.frozen 11
    obtain ⟨p12, hp12, op12⟩ := set12 HP5.out (.int .i64 x) (.int .i64 s.ak) (.int .u16 s.ha) (.int .u16 s.la) (.int .u64 hi) (.int .u64 lo) (.int .i64 s.of) (.int .i64 s.mt) (.int .i64 s.co) (.bool s.cm) (.slice av nv cv) (.slice al m d)
    have hR6 := ((((((((((((HR5.out.other (B' := w.heap.size + 1) (o := 0) (show w.heap.size ≠ w.heap.size + 1 by omega) (.int .i64 x)).other (B' := w.heap.size + 1) (o := 1) (show w.heap.size ≠ w.heap.size + 1 by omega) (.int .i64 s.ak)).other (B' := w.heap.size + 1) (o := 2) (show w.heap.size ≠ w.heap.size + 1 by omega) (.int .u16 s.ha)).other (B' := w.heap.size + 1) (o := 3) (show w.heap.size ≠ w.heap.size + 1 by omega) (.int .u16 s.la)).other (B' := w.heap.size + 1) (o := 4) (show w.heap.size ≠ w.heap.size + 1 by omega) (.int .u64 hi)).other (B' := w.heap.size + 1) (o := 5) (show w.heap.size ≠ w.heap.size + 1 by omega) (.int .u64 lo)).other (B' := w.heap.size + 1) (o := 6) (show w.heap.size ≠ w.heap.size + 1 by omega) (.int .i64 s.of)).other (B' := w.heap.size + 1) (o := 7) (show w.heap.size ≠ w.heap.size + 1 by omega) (.int .i64 s.mt)).other (B' := w.heap.size + 1) (o := 8) (show w.heap.size ≠ w.heap.size + 1 by omega) (.int .i64 s.co)).other (B' := w.heap.size + 1) (o := 9) (show w.heap.size ≠ w.heap.size + 1 by omega) (.bool s.cm)).other (B' := w.heap.size + 1) (o := 10) (show w.heap.size ≠ w.heap.size + 1 by omega) (.slice av nv cv)).other (B' := w.heap.size + 1) (o := 11) (show w.heap.size ≠ w.heap.size + 1 by omega) (.slice al m d))
    have hown6 : E = 0 → _ := fun h0 => (fun (q : _ ∧ _) => q) ⟨op12 _ _ _ _ _ _ (by decide) (HPOST.out h0).2.1, op12 _ _ _ _ _ _ (by decide) (HPOST.out h0).2.2.2.2.2.1⟩
    have hio6 : E = 0 → ∀ t (ht : t ∈ its), ItOwn _ _ t := fun h0 t ht => let h := (HPOST.out h0).2.2.2.2.2.2.1 t ht; ⟨h.1, h.2.1, h.2.2.1, h.2.2.2.1, h.2.2.2.2.1, h.2.2.2.2.2.1, op12 _ _ _ _ _ _ (by decide) h.2.2.2.2.2.2⟩
    have HX := Lib.hid (And.intro p12 (And.intro hR6 (And.intro (hp12 w.heap.size w (by omega) HB5.out) (And.intro hown6 hio6))))
    clear TP p12 hp12 op12 hR6 hown6 hio6 HP5 HR5 HB5
    go_upto_region 15 with fail
    clear y0 y1 y2 y3 y4 y5 y6 y7 y8 y9 yA yB f0 f1 f2 f3 f4 f5 f6 f7 f8 f9 fA fB
    generalize World.setCell _ _ _ = W6 at HX ⊢
    have HP := Lib.hid HX.out.1
    have HR := Lib.hid HX.out.2.1
    have HB := Lib.hid HX.out.2.2.1
    have HO := Lib.hid HX.out.2.2.2
    clear HX
    by_cases hE : E = 0
    rotate_left
    · have t3 : (E == 0) = false := by simpa using hE
      have t3' : (E != 0) = true := by simpa using hE
      have hde := HDE2.out
      rw [if_pos hE] at hde
      have HD := Lib.hid hde
      clear hde hE HDE2 HPOST HO
      go_upto_region 18 with fail
      have TR := HR.out.cells
      have hOpen := TR
      simp only [Cells, blk, List.cons_append, List.nil_append, and_true, Nat.reduceAdd, Nat.add_zero, Nat.zero_add] at hOpen
      obtain ⟨s0, s1, s2, s3, s4, s5, s6, s7, s8, s9, sA, sB⟩ := hOpen
      have g0 := HR.out.frozen 0
      have g1 := HR.out.frozen 1
      have g2 := HR.out.frozen 2
      have g3 := HR.out.frozen 3
      have g4 := HR.out.frozen 4
      have g5 := HR.out.frozen 5
      have g6 := HR.out.frozen 6
      have g7 := HR.out.frozen 7
      have g8 := HR.out.frozen 8
      have g9 := HR.out.frozen 9
      have gA := HR.out.frozen 10
      have gB := HR.out.frozen 11
      obtain ⟨b12, h12, _⟩ := set12 HR.out (.int .i64 0) (.int .i64 0) (.int .u16 0) (.int .u16 0) (.int .u64 0) (.int .u64 0) (.int .i64 0) (.int .i64 0) (.int .i64 0) (.bool false) (.slice none 0 0) (.slice none 0 0)
      have HF := Lib.hid (h12 w.heap.size w (by simp) HB.out)
      obtain ⟨r0, r1, r2, r3, r4, r5, r6, r7, r8, r9, rA, rB, _⟩ := b12.cells
      simp only [Nat.zero_add, Nat.add_zero] at r0 r1 r2 r3 r4 r5 r6 r7 r8 r9 rA rB
      clear TR b12 h12
      go_wp2
      refine bodyPost_ret (v := .tuple #[.agg #[.int .i64 0, .int .i64 0, .int .u16 0, .int .u16 0, .int .u64 0, .int .u64 0, .int .i64 0, .int .i64 0, .int .i64 0, .bool false, .slice none 0 0, .slice none 0 0], .int .i64 E]) (by simp [results, Try.results18, go_sem, r0, r1, r2, r3, r4, r5, r6, r7, r8, r9, rA, rB]) rfl ?_
      exact decPost_zero HD.out HF.out
    subst hE
    obtain ⟨hpd, _, hbl, hnv, hb256, _, _, hml, hmb, htn⟩ := HPOST.out rfl
    obtain ⟨⟨hvo, hlo⟩, hio⟩ := And.intro (HO.out.1 rfl) (HO.out.2 rfl)
    have hits := items_of_own hml hmb hlo hio htn
    have hck := fun W (hW : Below W6.heap.size W6 W) => rchk_any x s.ak s.ha s.la hi lo s.of s.mt s.co s.cm av al nv cv m d its W (hits.below hW) hmb htn
    have hde := HDE2.out
    rw [if_neg (by simp), hpd] at hde
    have hcd : chkD ⟨x, s, hi, lo, bsv, its.map dat⟩ = chkP x s.ak s.ha s.la hi lo s.of s.mt s.co s.cm nv m its := chkD_pdP x s.ak s.ha s.la hi lo s.of s.mt s.co s.cm nv m bsv its hbl hml (fun t ht => (hio t ht).2.2.2.2.1)
    rw [hcd] at hde
    obtain ⟨CK, hCK⟩ : ∃ C, chkP x s.ak s.ha s.la hi lo s.of s.mt s.co s.cm nv m its = C := ⟨_, rfl⟩
    rw [hCK] at hde
    simp only [hCK] at hck
    have HDE3 := Lib.hid hde
    have HCK := Lib.hid hck
    have HBY := Lib.hid (And.intro hvo (And.intro hlo (And.intro hio (And.intro htn (And.intro hb256 hbl)))))
    clear hpd hbl hb256 hvo hlo hio hits hck hde hcd hCK HO HPOST HDE2
    have TP := HP.out.cells
    have hOpen := TP
    simp only [Cells, blk, List.cons_append, List.nil_append, and_true, Nat.reduceAdd, Nat.add_zero, Nat.zero_add] at hOpen
    obtain ⟨y0, y1, y2, y3, y4, y5, y6, y7, y8, y9, yA, yB⟩ := hOpen
    clear TP
    go_wp2_with fail
    refine (HCK.out _ (Below.refl _ _)).mono ?_
    rintro e w8 ⟨rfl, hB8⟩
    have HP := Lib.hid (HP.out.below hB8)
    have HR := Lib.hid (HR.out.below hB8)
    have HB := Lib.hid (HB.out.trans (hB8.mono HB.out.size))
    have HB8 := Lib.hid hB8
    clear hB8 y0 y1 y2 y3 y4 y5 y6 y7 y8 y9 yA yB HCK
    by_cases hC : CK = 0
    rotate_left
    · have t4 : (CK != 0) = true := by simpa using hC
      have hde := HDE3.out
      rw [if_pos hC] at hde
      have HD := Lib.hid hde
      clear hde hC HDE3
      go_upto_region 18 with fail
      have TR := HR.out.cells
      have hOpen := TR
      simp only [Cells, blk, List.cons_append, List.nil_append, and_true, Nat.reduceAdd, Nat.add_zero, Nat.zero_add] at hOpen
      obtain ⟨s0, s1, s2, s3, s4, s5, s6, s7, s8, s9, sA, sB⟩ := hOpen
      have g0 := HR.out.frozen 0
      have g1 := HR.out.frozen 1
      have g2 := HR.out.frozen 2
      have g3 := HR.out.frozen 3
      have g4 := HR.out.frozen 4
      have g5 := HR.out.frozen 5
      have g6 := HR.out.frozen 6
      have g7 := HR.out.frozen 7
      have g8 := HR.out.frozen 8
      have g9 := HR.out.frozen 9
      have gA := HR.out.frozen 10
      have gB := HR.out.frozen 11
      obtain ⟨b12, h12, _⟩ := set12 HR.out (.int .i64 0) (.int .i64 0) (.int .u16 0) (.int .u16 0) (.int .u64 0) (.int .u64 0) (.int .i64 0) (.int .i64 0) (.int .i64 0) (.bool false) (.slice none 0 0) (.slice none 0 0)
      have HF := Lib.hid (h12 w.heap.size w (by simp) HB.out)
      obtain ⟨r0, r1, r2, r3, r4, r5, r6, r7, r8, r9, rA, rB, _⟩ := b12.cells
      simp only [Nat.zero_add, Nat.add_zero] at r0 r1 r2 r3 r4 r5 r6 r7 r8 r9 rA rB
      clear TR b12 h12
      go_wp2
      refine bodyPost_ret (v := .tuple #[.agg #[.int .i64 0, .int .i64 0, .int .u16 0, .int .u16 0, .int .u64 0, .int .u64 0, .int .i64 0, .int .i64 0, .int .i64 0, .bool false, .slice none 0 0, .slice none 0 0], .int .i64 CK]) (by simp [results, Try.results18, go_sem, r0, r1, r2, r3, r4, r5, r6, r7, r8, r9, rA, rB]) rfl ?_
      exact decPost_zero HD.out HF.out
    subst hC
    have hde := HDE3.out
    rw [if_neg (by simp)] at hde
    have HD := Lib.hid hde
    clear hde HDE3
    go_upto_region 19 with fail
    have TP := HP.out.cells
    have hOpen := TP
    simp only [Cells, blk, List.cons_append, List.nil_append, and_true, Nat.reduceAdd, Nat.add_zero, Nat.zero_add] at hOpen
    obtain ⟨y0, y1, y2, y3, y4, y5, y6, y7, y8, y9, yA, yB⟩ := hOpen
    have TR := HR.out.cells
    have hOpen := TR
    simp only [Cells, blk, List.cons_append, List.nil_append, and_true, Nat.reduceAdd, Nat.add_zero, Nat.zero_add] at hOpen
    obtain ⟨s0, s1, s2, s3, s4, s5, s6, s7, s8, s9, sA, sB⟩ := hOpen
    have g0 := HR.out.frozen 0
    have g1 := HR.out.frozen 1
    have g2 := HR.out.frozen 2
    have g3 := HR.out.frozen 3
    have g4 := HR.out.frozen 4
    have g5 := HR.out.frozen 5
    have g6 := HR.out.frozen 6
    have g7 := HR.out.frozen 7
    have g8 := HR.out.frozen 8
    have g9 := HR.out.frozen 9
    have gA := HR.out.frozen 10
    have gB := HR.out.frozen 11
    obtain ⟨b12, h12, o12⟩ := set12 HR.out (.int .i64 x) (.int .i64 s.ak) (.int .u16 s.ha) (.int .u16 s.la) (.int .u64 hi) (.int .u64 lo) (.int .i64 s.of) (.int .i64 s.mt) (.int .i64 s.co) (.bool s.cm) (.slice av nv cv) (.slice al m d)
    have hvo5 := o12 _ _ _ _ _ _ (by decide) (own_below HBY.out.1 HB8.out)
    have hlo5 := o12 _ _ _ _ _ _ (by decide) (own_below HBY.out.2.1 HB8.out)
    have hio5 := fun t ht => let h := (HBY.out.2.2.1 t ht).below HB8.out; (show ItOwn _ w3.heap.size t from ⟨h.1, h.2.1, h.2.2.1, h.2.2.2.1, h.2.2.2.2.1, h.2.2.2.2.2.1, o12 _ _ _ _ _ _ (by decide) h.2.2.2.2.2.2⟩)
    have HFI := Lib.hid (items_of_own hml hmb hlo5 hio5 HBY.out.2.2.2.1)
    have HFV := Lib.hid (bytesAt_of_own hvo5 HBY.out.2.2.2.2.2 HBY.out.2.2.2.2.1 (by omega))
    have HFB := Lib.hid (h12 w.heap.size w (Nat.le_refl _) HB.out)
    obtain ⟨r0, r1, r2, r3, r4, r5, r6, r7, r8, r9, rA, rB, _⟩ := b12.cells
    simp only [Nat.zero_add, Nat.add_zero] at r0 r1 r2 r3 r4 r5 r6 r7 r8 r9 rA rB
    clear TP TR b12 h12 o12 hvo5 hlo5 hio5
    go_wp2
    refine bodyPost_ret (v := .tuple #[.agg #[.int .i64 x, .int .i64 s.ak, .int .u16 s.ha, .int .u16 s.la, .int .u64 hi, .int .u64 lo, .int .i64 s.of, .int .i64 s.mt, .int .i64 s.co, .bool s.cm, .slice av nv cv, .slice al m d], .int .i64 0]) (by simp [results, Try.results18, go_sem, r0, r1, r2, r3, r4, r5, r6, r7, r8, r9, rA, rB]) rfl ?_
    unfold DecPost
    rw [HD.out]
    exact ⟨av, nv, cv, al, m, d, its, rfl, HFV.out, HBY.out.2.2.2.2.2, HFI.out, rfl, HFB.out⟩
  · have g7' := g7i _ g7
    clear g7i
    go_enter Try.func18, Try.ntmps18
    go_upto_region 1 with fail
    generalize hV : World.alloc _ _ = V at HR HB ⊢
    have hVs : V.heap.size = w.heap.size + 1 := by rw [← hV]; simp
    clear hV
    have kv := kc HKX.out HB.out
    have bP := Blk.new V 29 [.int .i64 x, .int .i64 0, .int .u16 0, .int .u16 0, .int .u64 0, .int .u64 0, .int .i64 0, .int .i64 0, .int .i64 0, .bool false, .slice none 0 0, .slice none 0 0]
    have hal := (Below.refl V.heap.size V).alloc (Nat.le_refl _) (.cells #[.int .i64 x, .int .i64 0, .int .u16 0, .int .u16 0, .int .u64 0, .int .u64 0, .int .i64 0, .int .i64 0, .int .i64 0, .bool false, .slice none 0 0, .slice none 0 0] 29)
    rw [hVs] at bP
    have HX := Lib.hid (And.intro bP (And.intro (HR.out.below hal) (HB.out.trans (hal.mono HB.out.size))))
    clear bP hal
    go_upto_region 4 with fail
    clear kv HR HB
    generalize World.alloc _ _ = X at HX ⊢
    have HP := Lib.hid HX.out.1
    have HR := Lib.hid HX.out.2.1
    have HB := Lib.hid HX.out.2.2
    clear HX
    have kP := HP.out.cell (j := 0) rfl
    go_wp2_with fail
    refine (HFF.out _).mono ?_
    rintro e w1 ⟨rfl, hB1⟩
    have bU := Blk.new w1 58 [.bool true, .bool b1, .bool b2, .bool b3, .bool true, .bool b5, .bool b6, .bool b7, .bool b8, .bool b9, .bool b10]
    have hal := (Below.refl w1.heap.size w1).alloc (Nat.le_refl _) (.cells #[.bool true, .bool b1, .bool b2, .bool b3, .bool true, .bool b5, .bool b6, .bool b7, .bool b8, .bool b9, .bool b10] 58)
    have hb1 := HB.out.trans (hB1.mono HB.out.size)
    have HX := Lib.hid (And.intro ((HP.out.below hB1).below hal) (And.intro ((HR.out.below hB1).below hal) (hb1.trans (hal.mono hb1.size))))
    have hneU : w1.heap.size ≠ w.heap.size + 1 := by have := HP.out.lt; have := hB1.size; omega
    clear kP hB1 hb1 hal HP HR HB
    go_upto_region 5 with fail
    generalize World.alloc _ _ = Y at HX bU ⊢
    have HP := Lib.hid HX.out.1
    have HR := Lib.hid HX.out.2.1
    have HB := Lib.hid HX.out.2.2
    have HU := Lib.hid bU
    have TU := HU.out.cells
    have hOpen := TU
    simp only [Cells, blk, List.cons_append, List.nil_append, and_true, Nat.reduceAdd, Nat.add_zero, Nat.zero_add] at hOpen
    obtain ⟨u0, u1, u2, u3, u4, u5, u6, u7, u8, u9, uA⟩ := hOpen
    clear HX bU TU
    go_wp2_with fail
    refine (HFX.out _).mono ?_
    rintro e w3 ⟨rfl, hB3⟩
    have HP := Lib.hid (HP.out.below hB3)
    have HR := Lib.hid (HR.out.below hB3)
    have HB := Lib.hid (HB.out.trans (hB3.mono HB.out.size))
    have HU := Lib.hid (HU.out.below hB3)
    clear hB3 u0 u1 u2 u3 u4 u5 u6 u7 u8 u9 uA HFX
    have TU := HU.out.cells
    have hOpen := TU
    simp only [Cells, blk, List.cons_append, List.nil_append, and_true, Nat.reduceAdd, Nat.add_zero, Nat.zero_add] at hOpen
    obtain ⟨u0, u1, u2, u3, u4, u5, u6, u7, u8, u9, uA⟩ := hOpen
    clear TU
    have TP := HP.out.cells
    have hOpen := TP
    simp only [Cells, blk, List.cons_append, List.nil_append, and_true, Nat.reduceAdd, Nat.add_zero, Nat.zero_add] at hOpen
    obtain ⟨y0, y1, y2, y3, y4, y5, y6, y7, y8, y9, yA, yB⟩ := hOpen
    clear TP
    go_wp2_with fail
    refine (HTK2.out _ HB.out).mono ?_
    rintro e w5 ⟨hi, lo, av, nv, cv, bsv, al, m, d, its, rfl, hB5, hpost⟩
    have HPOST := Lib.hid hpost
    have HP5 := Lib.hid (HP.out.below hB5)
    have HR5 := Lib.hid (HR.out.below hB5)
    have HB5 := Lib.hid (HB.out.trans (hB5.mono HB.out.size))
    have hPl := HP.out.lt
    have HYs := Lib.hid HB.out.size
    have hwY := hPl
    clear hB5 hpost y0 y1 y2 y3 y4 y5 y6 y7 y8 y9 yA yB u0 u1 u2 u3 u4 u5 u6 u7 u8 u9 uA HP HR HB HU HTK2
    have TP := HP5.out.cells
    have hOpen := TP
    simp only [Cells, blk, List.cons_append, List.nil_append, and_true, Nat.reduceAdd, Nat.add_zero, Nat.zero_add] at hOpen
    obtain ⟨y0, y1, y2, y3, y4, y5, y6, y7, y8, y9, yA, yB⟩ := hOpen
    have f0 := HP5.out.frozen 0
    have f1 := HP5.out.frozen 1
    have f2 := HP5.out.frozen 2
    have f3 := HP5.out.frozen 3
    have f4 := HP5.out.frozen 4
    have f5 := HP5.out.frozen 5
    have f6 := HP5.out.frozen 6
    have f7 := HP5.out.frozen 7
    have f8 := HP5.out.frozen 8
    have f9 := HP5.out.frozen 9
    have fA := HP5.out.frozen 10
    have fB := HP5.out.frozen 11
    obtain ⟨p12, hp12, op12⟩ := set12 HP5.out (.int .i64 x) (.int .i64 s.ak) (.int .u16 s.ha) (.int .u16 s.la) (.int .u64 hi) (.int .u64 lo) (.int .i64 s.of) (.int .i64 s.mt) (.int .i64 s.co) (.bool s.cm) (.slice av nv cv) (.slice al m d)
    have hR6 := ((((((((((((HR5.out.other (B' := w.heap.size + 1) (o := 0) (show w.heap.size ≠ w.heap.size + 1 by omega) (.int .i64 x)).other (B' := w.heap.size + 1) (o := 1) (show w.heap.size ≠ w.heap.size + 1 by omega) (.int .i64 s.ak)).other (B' := w.heap.size + 1) (o := 2) (show w.heap.size ≠ w.heap.size + 1 by omega) (.int .u16 s.ha)).other (B' := w.heap.size + 1) (o := 3) (show w.heap.size ≠ w.heap.size + 1 by omega) (.int .u16 s.la)).other (B' := w.heap.size + 1) (o := 4) (show w.heap.size ≠ w.heap.size + 1 by omega) (.int .u64 hi)).other (B' := w.heap.size + 1) (o := 5) (show w.heap.size ≠ w.heap.size + 1 by omega) (.int .u64 lo)).other (B' := w.heap.size + 1) (o := 6) (show w.heap.size ≠ w.heap.size + 1 by omega) (.int .i64 s.of)).other (B' := w.heap.size + 1) (o := 7) (show w.heap.size ≠ w.heap.size + 1 by omega) (.int .i64 s.mt)).other (B' := w.heap.size + 1) (o := 8) (show w.heap.size ≠ w.heap.size + 1 by omega) (.int .i64 s.co)).other (B' := w.heap.size + 1) (o := 9) (show w.heap.size ≠ w.heap.size + 1 by omega) (.bool s.cm)).other (B' := w.heap.size + 1) (o := 10) (show w.heap.size ≠ w.heap.size + 1 by omega) (.slice av nv cv)).other (B' := w.heap.size + 1) (o := 11) (show w.heap.size ≠ w.heap.size + 1 by omega) (.slice al m d))
    have hown6 : E = 0 → _ := fun h0 => (fun (q : _ ∧ _) => q) ⟨op12 _ _ _ _ _ _ (by decide) (HPOST.out h0).2.1, op12 _ _ _ _ _ _ (by decide) (HPOST.out h0).2.2.2.2.2.1⟩
    have hio6 : E = 0 → ∀ t (ht : t ∈ its), ItOwn _ _ t := fun h0 t ht => let h := (HPOST.out h0).2.2.2.2.2.2.1 t ht; ⟨h.1, h.2.1, h.2.2.1, h.2.2.2.1, h.2.2.2.2.1, h.2.2.2.2.2.1, op12 _ _ _ _ _ _ (by decide) h.2.2.2.2.2.2⟩
    have HX := Lib.hid (And.intro p12 (And.intro hR6 (And.intro (hp12 w.heap.size w (by omega) HB5.out) (And.intro hown6 hio6))))
    clear TP p12 hp12 op12 hR6 hown6 hio6 HP5 HR5 HB5
    go_upto_region 15 with fail
    clear y0 y1 y2 y3 y4 y5 y6 y7 y8 y9 yA yB f0 f1 f2 f3 f4 f5 f6 f7 f8 f9 fA fB
    generalize World.setCell _ _ _ = W6 at HX ⊢
    have HP := Lib.hid HX.out.1
    have HR := Lib.hid HX.out.2.1
    have HB := Lib.hid HX.out.2.2.1
    have HO := Lib.hid HX.out.2.2.2
    clear HX
    by_cases hE : E = 0
    rotate_left
    · have t3 : (E == 0) = false := by simpa using hE
      have t3' : (E != 0) = true := by simpa using hE
      have hde := HDE2.out
      rw [if_pos hE] at hde
      have HD := Lib.hid hde
      clear hde hE HDE2 HPOST HO
      go_upto_region 18 with fail
      have TR := HR.out.cells
      have hOpen := TR
      simp only [Cells, blk, List.cons_append, List.nil_append, and_true, Nat.reduceAdd, Nat.add_zero, Nat.zero_add] at hOpen
      obtain ⟨s0, s1, s2, s3, s4, s5, s6, s7, s8, s9, sA, sB⟩ := hOpen
      have g0 := HR.out.frozen 0
      have g1 := HR.out.frozen 1
      have g2 := HR.out.frozen 2
      have g3 := HR.out.frozen 3
      have g4 := HR.out.frozen 4
      have g5 := HR.out.frozen 5
      have g6 := HR.out.frozen 6
      have g7 := HR.out.frozen 7
      have g8 := HR.out.frozen 8
      have g9 := HR.out.frozen 9
      have gA := HR.out.frozen 10
      have gB := HR.out.frozen 11
      obtain ⟨b12, h12, _⟩ := set12 HR.out (.int .i64 0) (.int .i64 0) (.int .u16 0) (.int .u16 0) (.int .u64 0) (.int .u64 0) (.int .i64 0) (.int .i64 0) (.int .i64 0) (.bool false) (.slice none 0 0) (.slice none 0 0)
      have HF := Lib.hid (h12 w.heap.size w (by simp) HB.out)
      obtain ⟨r0, r1, r2, r3, r4, r5, r6, r7, r8, r9, rA, rB, _⟩ := b12.cells
      simp only [Nat.zero_add, Nat.add_zero] at r0 r1 r2 r3 r4 r5 r6 r7 r8 r9 rA rB
      clear TR b12 h12
      go_wp2
      refine bodyPost_ret (v := .tuple #[.agg #[.int .i64 0, .int .i64 0, .int .u16 0, .int .u16 0, .int .u64 0, .int .u64 0, .int .i64 0, .int .i64 0, .int .i64 0, .bool false, .slice none 0 0, .slice none 0 0], .int .i64 E]) (by simp [results, Try.results18, go_sem, r0, r1, r2, r3, r4, r5, r6, r7, r8, r9, rA, rB]) rfl ?_
      exact decPost_zero HD.out HF.out
    subst hE
    obtain ⟨hpd, _, hbl, hnv, hb256, _, _, hml, hmb, htn⟩ := HPOST.out rfl
    obtain ⟨⟨hvo, hlo⟩, hio⟩ := And.intro (HO.out.1 rfl) (HO.out.2 rfl)
    have hits := items_of_own hml hmb hlo hio htn
    have hck := fun W (hW : Below W6.heap.size W6 W) => rchk_any x s.ak s.ha s.la hi lo s.of s.mt s.co s.cm av al nv cv m d its W (hits.below hW) hmb htn
    have hde := HDE2.out
    rw [if_neg (by simp), hpd] at hde
    have hcd : chkD ⟨x, s, hi, lo, bsv, its.map dat⟩ = chkP x s.ak s.ha s.la hi lo s.of s.mt s.co s.cm nv m its := chkD_pdP x s.ak s.ha s.la hi lo s.of s.mt s.co s.cm nv m bsv its hbl hml (fun t ht => (hio t ht).2.2.2.2.1)
    rw [hcd] at hde
    obtain ⟨CK, hCK⟩ : ∃ C, chkP x s.ak s.ha s.la hi lo s.of s.mt s.co s.cm nv m its = C := ⟨_, rfl⟩
    rw [hCK] at hde
    simp only [hCK] at hck
    have HDE3 := Lib.hid hde
    have HCK := Lib.hid hck
    have HBY := Lib.hid (And.intro hvo (And.intro hlo (And.intro hio (And.intro htn (And.intro hb256 hbl)))))
    clear hpd hbl hb256 hvo hlo hio hits hck hde hcd hCK HO HPOST HDE2
    have TP := HP.out.cells
    have hOpen := TP
    simp only [Cells, blk, List.cons_append, List.nil_append, and_true, Nat.reduceAdd, Nat.add_zero, Nat.zero_add] at hOpen
    obtain ⟨y0, y1, y2, y3, y4, y5, y6, y7, y8, y9, yA, yB⟩ := hOpen
    clear TP
    go_wp2_with fail
    refine (HCK.out _ (Below.refl _ _)).mono ?_
    rintro e w8 ⟨rfl, hB8⟩
    have HP := Lib.hid (HP.out.below hB8)
    have HR := Lib.hid (HR.out.below hB8)
    have HB := Lib.hid (HB.out.trans (hB8.mono HB.out.size))
    have HB8 := Lib.hid hB8
    clear hB8 y0 y1 y2 y3 y4 y5 y6 y7 y8 y9 yA yB HCK
    by_cases hC : CK = 0
    rotate_left
    · have t4 : (CK != 0) = true := by simpa using hC
      have hde := HDE3.out
      rw [if_pos hC] at hde
      have HD := Lib.hid hde
      clear hde hC HDE3
      go_upto_region 18 with fail
      have TR := HR.out.cells
      have hOpen := TR
      simp only [Cells, blk, List.cons_append, List.nil_append, and_true, Nat.reduceAdd, Nat.add_zero, Nat.zero_add] at hOpen
      obtain ⟨s0, s1, s2, s3, s4, s5, s6, s7, s8, s9, sA, sB⟩ := hOpen
      have g0 := HR.out.frozen 0
      have g1 := HR.out.frozen 1
      have g2 := HR.out.frozen 2
      have g3 := HR.out.frozen 3
      have g4 := HR.out.frozen 4
      have g5 := HR.out.frozen 5
      have g6 := HR.out.frozen 6
      have g7 := HR.out.frozen 7
      have g8 := HR.out.frozen 8
      have g9 := HR.out.frozen 9
      have gA := HR.out.frozen 10
      have gB := HR.out.frozen 11
      obtain ⟨b12, h12, _⟩ := set12 HR.out (.int .i64 0) (.int .i64 0) (.int .u16 0) (.int .u16 0) (.int .u64 0) (.int .u64 0) (.int .i64 0) (.int .i64 0) (.int .i64 0) (.bool false) (.slice none 0 0) (.slice none 0 0)
      have HF := Lib.hid (h12 w.heap.size w (by simp) HB.out)
      obtain ⟨r0, r1, r2, r3, r4, r5, r6, r7, r8, r9, rA, rB, _⟩ := b12.cells
      simp only [Nat.zero_add, Nat.add_zero] at r0 r1 r2 r3 r4 r5 r6 r7 r8 r9 rA rB
      clear TR b12 h12
      go_wp2
      refine bodyPost_ret (v := .tuple #[.agg #[.int .i64 0, .int .i64 0, .int .u16 0, .int .u16 0, .int .u64 0, .int .u64 0, .int .i64 0, .int .i64 0, .int .i64 0, .bool false, .slice none 0 0, .slice none 0 0], .int .i64 CK]) (by simp [results, Try.results18, go_sem, r0, r1, r2, r3, r4, r5, r6, r7, r8, r9, rA, rB]) rfl ?_
      exact decPost_zero HD.out HF.out
    subst hC
    have hde := HDE3.out
    rw [if_neg (by simp)] at hde
    have HD := Lib.hid hde
    clear hde HDE3
    go_upto_region 19 with fail
    have TP := HP.out.cells
    have hOpen := TP
    simp only [Cells, blk, List.cons_append, List.nil_append, and_true, Nat.reduceAdd, Nat.add_zero, Nat.zero_add] at hOpen
    obtain ⟨y0, y1, y2, y3, y4, y5, y6, y7, y8, y9, yA, yB⟩ := hOpen
    have TR := HR.out.cells
    have hOpen := TR
    simp only [Cells, blk, List.cons_append, List.nil_append, and_true, Nat.reduceAdd, Nat.add_zero, Nat.zero_add] at hOpen
    obtain ⟨s0, s1, s2, s3, s4, s5, s6, s7, s8, s9, sA, sB⟩ := hOpen
    have g0 := HR.out.frozen 0
    have g1 := HR.out.frozen 1
    have g2 := HR.out.frozen 2
    have g3 := HR.out.frozen 3
    have g4 := HR.out.frozen 4
    have g5 := HR.out.frozen 5
    have g6 := HR.out.frozen 6
    have g7 := HR.out.frozen 7
    have g8 := HR.out.frozen 8
    have g9 := HR.out.frozen 9
    have gA := HR.out.frozen 10
    have gB := HR.out.frozen 11
    obtain ⟨b12, h12, o12⟩ := set12 HR.out (.int .i64 x) (.int .i64 s.ak) (.int .u16 s.ha) (.int .u16 s.la) (.int .u64 hi) (.int .u64 lo) (.int .i64 s.of) (.int .i64 s.mt) (.int .i64 s.co) (.bool s.cm) (.slice av nv cv) (.slice al m d)
    have hvo5 := o12 _ _ _ _ _ _ (by decide) (own_below HBY.out.1 HB8.out)
    have hlo5 := o12 _ _ _ _ _ _ (by decide) (own_below HBY.out.2.1 HB8.out)
    have hio5 := fun t ht => let h := (HBY.out.2.2.1 t ht).below HB8.out; (show ItOwn _ w3.heap.size t from ⟨h.1, h.2.1, h.2.2.1, h.2.2.2.1, h.2.2.2.2.1, h.2.2.2.2.2.1, o12 _ _ _ _ _ _ (by decide) h.2.2.2.2.2.2⟩)
    have HFI := Lib.hid (items_of_own hml hmb hlo5 hio5 HBY.out.2.2.2.1)
    have HFV := Lib.hid (bytesAt_of_own hvo5 HBY.out.2.2.2.2.2 HBY.out.2.2.2.2.1 (by omega))
    have HFB := Lib.hid (h12 w.heap.size w (Nat.le_refl _) HB.out)
    obtain ⟨r0, r1, r2, r3, r4, r5, r6, r7, r8, r9, rA, rB, _⟩ := b12.cells
    simp only [Nat.zero_add, Nat.add_zero] at r0 r1 r2 r3 r4 r5 r6 r7 r8 r9 rA rB
    clear TP TR b12 h12 o12 hvo5 hlo5 hio5
    go_wp2
    refine bodyPost_ret (v := .tuple #[.agg #[.int .i64 x, .int .i64 s.ak, .int .u16 s.ha, .int .u16 s.la, .int .u64 hi, .int .u64 lo, .int .i64 s.of, .int .i64 s.mt, .int .i64 s.co, .bool s.cm, .slice av nv cv, .slice al m d], .int .i64 0]) (by simp [results, Try.results18, go_sem, r0, r1, r2, r3, r4, r5, r6, r7, r8, r9, rA, rB]) rfl ?_
    unfold DecPost
    rw [HD.out]
    exact ⟨av, nv, cv, al, m, d, its, rfl, HFV.out, HBY.out.2.2.2.2.2, HFI.out, rfl, HFB.out⟩
  · have g7' := g7i _ g7
    clear g7i
    go_enter Try.func18, Try.ntmps18
    go_upto_region 1 with fail
    generalize hV : World.alloc _ _ = V at HR HB ⊢
    have hVs : V.heap.size = w.heap.size + 1 := by rw [← hV]; simp
    clear hV
    have kv := kc HKX.out HB.out
    have bP := Blk.new V 29 [.int .i64 x, .int .i64 0, .int .u16 0, .int .u16 0, .int .u64 0, .int .u64 0, .int .i64 0, .int .i64 0, .int .i64 0, .bool false, .slice none 0 0, .slice none 0 0]
    have hal := (Below.refl V.heap.size V).alloc (Nat.le_refl _) (.cells #[.int .i64 x, .int .i64 0, .int .u16 0, .int .u16 0, .int .u64 0, .int .u64 0, .int .i64 0, .int .i64 0, .int .i64 0, .bool false, .slice none 0 0, .slice none 0 0] 29)
    rw [hVs] at bP
    have HX := Lib.hid (And.intro bP (And.intro (HR.out.below hal) (HB.out.trans (hal.mono HB.out.size))))
    clear bP hal
    go_upto_region 4 with fail
    clear kv HR HB
    generalize World.alloc _ _ = X at HX ⊢
    have HP := Lib.hid HX.out.1
    have HR := Lib.hid HX.out.2.1
    have HB := Lib.hid HX.out.2.2
    clear HX
    have kP := HP.out.cell (j := 0) rfl
    go_wp2_with fail
    refine (HFF.out _).mono ?_
    rintro e w1 ⟨rfl, hB1⟩
    have bU := Blk.new w1 58 [.bool true, .bool b1, .bool b2, .bool b3, .bool false, .bool b5, .bool b6, .bool b7, .bool b8, .bool true, .bool b10]
    have hal := (Below.refl w1.heap.size w1).alloc (Nat.le_refl _) (.cells #[.bool true, .bool b1, .bool b2, .bool b3, .bool false, .bool b5, .bool b6, .bool b7, .bool b8, .bool true, .bool b10] 58)
    have hb1 := HB.out.trans (hB1.mono HB.out.size)
    have HX := Lib.hid (And.intro ((HP.out.below hB1).below hal) (And.intro ((HR.out.below hB1).below hal) (hb1.trans (hal.mono hb1.size))))
    have hneU : w1.heap.size ≠ w.heap.size + 1 := by have := HP.out.lt; have := hB1.size; omega
    clear kP hB1 hb1 hal HP HR HB
    go_upto_region 5 with fail
    generalize World.alloc _ _ = Y at HX bU ⊢
    have HP := Lib.hid HX.out.1
    have HR := Lib.hid HX.out.2.1
    have HB := Lib.hid HX.out.2.2
    have HU := Lib.hid bU
    have TU := HU.out.cells
    have hOpen := TU
    simp only [Cells, blk, List.cons_append, List.nil_append, and_true, Nat.reduceAdd, Nat.add_zero, Nat.zero_add] at hOpen
    obtain ⟨u0, u1, u2, u3, u4, u5, u6, u7, u8, u9, uA⟩ := hOpen
    clear HX bU TU
    go_wp2_with fail
    refine (HFX.out _).mono ?_
    rintro e w3 ⟨rfl, hB3⟩
    have HP := Lib.hid (HP.out.below hB3)
    have HR := Lib.hid (HR.out.below hB3)
    have HB := Lib.hid (HB.out.trans (hB3.mono HB.out.size))
    have HU := Lib.hid (HU.out.below hB3)
    clear hB3 u0 u1 u2 u3 u4 u5 u6 u7 u8 u9 uA HFX
    have TU := HU.out.cells
    have hOpen := TU
    simp only [Cells, blk, List.cons_append, List.nil_append, and_true, Nat.reduceAdd, Nat.add_zero, Nat.zero_add] at hOpen
    obtain ⟨u0, u1, u2, u3, u4, u5, u6, u7, u8, u9, uA⟩ := hOpen
    clear TU
    have TP := HP.out.cells
    have hOpen := TP
    simp only [Cells, blk, List.cons_append, List.nil_append, and_true, Nat.reduceAdd, Nat.add_zero, Nat.zero_add] at hOpen
    obtain ⟨y0, y1, y2, y3, y4, y5, y6, y7, y8, y9, yA, yB⟩ := hOpen
    clear TP
    go_wp2_with fail
    refine (HTK2.out _ HB.out).mono ?_
    rintro e w5 ⟨hi, lo, av, nv, cv, bsv, al, m, d, its, rfl, hB5, hpost⟩
    have HPOST := Lib.hid hpost
    have HP5 := Lib.hid (HP.out.below hB5)
    have HR5 := Lib.hid (HR.out.below hB5)
    have HB5 := Lib.hid (HB.out.trans (hB5.mono HB.out.size))
    have hPl := HP.out.lt
    have HYs := Lib.hid HB.out.size
    have hwY := hPl
    clear hB5 hpost y0 y1 y2 y3 y4 y5 y6 y7 y8 y9 yA yB u0 u1 u2 u3 u4 u5 u6 u7 u8 u9 uA HP HR HB HU HTK2
    have TP := HP5.out.cells
    have hOpen := TP
    simp only [Cells, blk, List.cons_append, List.nil_append, and_true, Nat.reduceAdd, Nat.add_zero, Nat.zero_add] at hOpen
    obtain ⟨y0, y1, y2, y3, y4, y5, y6, y7, y8, y9, yA, yB⟩ := hOpen
    have f0 := HP5.out.frozen 0
    have f1 := HP5.out.frozen 1
    have f2 := HP5.out.frozen 2
    have f3 := HP5.out.frozen 3
    have f4 := HP5.out.frozen 4
    have f5 := HP5.out.frozen 5
    have f6 := HP5.out.frozen 6
    have f7 := HP5.out.frozen 7
    have f8 := HP5.out.frozen 8
    have f9 := HP5.out.frozen 9
    have fA := HP5.out.frozen 10
    have fB := HP5.out.frozen 11
    obtain ⟨p12, hp12, op12⟩ := set12 HP5.out (.int .i64 x) (.int .i64 s.ak) (.int .u16 s.ha) (.int .u16 s.la) (.int .u64 hi) (.int .u64 lo) (.int .i64 s.of) (.int .i64 s.mt) (.int .i64 s.co) (.bool s.cm) (.slice av nv cv) (.slice al m d)
    have hR6 := ((((((((((((HR5.out.other (B' := w.heap.size + 1) (o := 0) (show w.heap.size ≠ w.heap.size + 1 by omega) (.int .i64 x)).other (B' := w.heap.size + 1) (o := 1) (show w.heap.size ≠ w.heap.size + 1 by omega) (.int .i64 s.ak)).other (B' := w.heap.size + 1) (o := 2) (show w.heap.size ≠ w.heap.size + 1 by omega) (.int .u16 s.ha)).other (B' := w.heap.size + 1) (o := 3) (show w.heap.size ≠ w.heap.size + 1 by omega) (.int .u16 s.la)).other (B' := w.heap.size + 1) (o := 4) (show w.heap.size ≠ w.heap.size + 1 by omega) (.int .u64 hi)).other (B' := w.heap.size + 1) (o := 5) (show w.heap.size ≠ w.heap.size + 1 by omega) (.int .u64 lo)).other (B' := w.heap.size + 1) (o := 6) (show w.heap.size ≠ w.heap.size + 1 by omega) (.int .i64 s.of)).other (B' := w.heap.size + 1) (o := 7) (show w.heap.size ≠ w.heap.size + 1 by omega) (.int .i64 s.mt)).other (B' := w.heap.size + 1) (o := 8) (show w.heap.size ≠ w.heap.size + 1 by omega) (.int .i64 s.co)).other (B' := w.heap.size + 1) (o := 9) (show w.heap.size ≠ w.heap.size + 1 by omega) (.bool s.cm)).other (B' := w.heap.size + 1) (o := 10) (show w.heap.size ≠ w.heap.size + 1 by omega) (.slice av nv cv)).other (B' := w.heap.size + 1) (o := 11) (show w.heap.size ≠ w.heap.size + 1 by omega) (.slice al m d))
    have hown6 : E = 0 → _ := fun h0 => (fun (q : _ ∧ _) => q) ⟨op12 _ _ _ _ _ _ (by decide) (HPOST.out h0).2.1, op12 _ _ _ _ _ _ (by decide) (HPOST.out h0).2.2.2.2.2.1⟩
    have hio6 : E = 0 → ∀ t (ht : t ∈ its), ItOwn _ _ t := fun h0 t ht => let h := (HPOST.out h0).2.2.2.2.2.2.1 t ht; ⟨h.1, h.2.1, h.2.2.1, h.2.2.2.1, h.2.2.2.2.1, h.2.2.2.2.2.1, op12 _ _ _ _ _ _ (by decide) h.2.2.2.2.2.2⟩
    have HX := Lib.hid (And.intro p12 (And.intro hR6 (And.intro (hp12 w.heap.size w (by omega) HB5.out) (And.intro hown6 hio6))))
    clear TP p12 hp12 op12 hR6 hown6 hio6 HP5 HR5 HB5
    go_upto_region 15 with fail
    clear y0 y1 y2 y3 y4 y5 y6 y7 y8 y9 yA yB f0 f1 f2 f3 f4 f5 f6 f7 f8 f9 fA fB
    generalize World.setCell _ _ _ = W6 at HX ⊢
    have HP := Lib.hid HX.out.1
    have HR := Lib.hid HX.out.2.1
    have HB := Lib.hid HX.out.2.2.1
    have HO := Lib.hid HX.out.2.2.2
    clear HX
    by_cases hE : E = 0
    rotate_left
    · have t3 : (E == 0) = false := by simpa using hE
      have t3' : (E != 0) = true := by simpa using hE
      have hde := HDE2.out
      rw [if_pos hE] at hde
      have HD := Lib.hid hde
      clear hde hE HDE2 HPOST HO
      go_upto_region 18 with fail
      have TR := HR.out.cells
      have hOpen := TR
      simp only [Cells, blk, List.cons_append, List.nil_append, and_true, Nat.reduceAdd, Nat.add_zero, Nat.zero_add] at hOpen
      obtain ⟨s0, s1, s2, s3, s4, s5, s6, s7, s8, s9, sA, sB⟩ := hOpen
      have g0 := HR.out.frozen 0
      have g1 := HR.out.frozen 1
      have g2 := HR.out.frozen 2
      have g3 := HR.out.frozen 3
      have g4 := HR.out.frozen 4
      have g5 := HR.out.frozen 5
      have g6 := HR.out.frozen 6
      have g7 := HR.out.frozen 7
      have g8 := HR.out.frozen 8
      have g9 := HR.out.frozen 9
      have gA := HR.out.frozen 10
      have gB := HR.out.frozen 11
      obtain ⟨b12, h12, _⟩ := set12 HR.out (.int .i64 0) (.int .i64 0) (.int .u16 0) (.int .u16 0) (.int .u64 0) (.int .u64 0) (.int .i64 0) (.int .i64 0) (.int .i64 0) (.bool false) (.slice none 0 0) (.slice none 0 0)
      have HF := Lib.hid (h12 w.heap.size w (by simp) HB.out)
      obtain ⟨r0, r1, r2, r3, r4, r5, r6, r7, r8, r9, rA, rB, _⟩ := b12.cells
      simp only [Nat.zero_add, Nat.add_zero] at r0 r1 r2 r3 r4 r5 r6 r7 r8 r9 rA rB
      clear TR b12 h12
      go_wp2
      refine bodyPost_ret (v := .tuple #[.agg #[.int .i64 0, .int .i64 0, .int .u16 0, .int .u16 0, .int .u64 0, .int .u64 0, .int .i64 0, .int .i64 0, .int .i64 0, .bool false, .slice none 0 0, .slice none 0 0], .int .i64 E]) (by simp [results, Try.results18, go_sem, r0, r1, r2, r3, r4, r5, r6, r7, r8, r9, rA, rB]) rfl ?_
      exact decPost_zero HD.out HF.out
    subst hE
    obtain ⟨hpd, _, hbl, hnv, hb256, _, _, hml, hmb, htn⟩ := HPOST.out rfl
    obtain ⟨⟨hvo, hlo⟩, hio⟩ := And.intro (HO.out.1 rfl) (HO.out.2 rfl)
    have hits := items_of_own hml hmb hlo hio htn
    have hck := fun W (hW : Below W6.heap.size W6 W) => rchk_any x s.ak s.ha s.la hi lo s.of s.mt s.co s.cm av al nv cv m d its W (hits.below hW) hmb htn
    have hde := HDE2.out
    rw [if_neg (by simp), hpd] at hde
    have hcd : chkD ⟨x, s, hi, lo, bsv, its.map dat⟩ = chkP x s.ak s.ha s.la hi lo s.of s.mt s.co s.cm nv m its := chkD_pdP x s.ak s.ha s.la hi lo s.of s.mt s.co s.cm nv m bsv its hbl hml (fun t ht => (hio t ht).2.2.2.2.1)
    rw [hcd] at hde
    obtain ⟨CK, hCK⟩ : ∃ C, chkP x s.ak s.ha s.la hi lo s.of s.mt s.co s.cm nv m its = C := ⟨_, rfl⟩
    rw [hCK] at hde
    simp only [hCK] at hck
    have HDE3 := Lib.hid hde
    have HCK := Lib.hid hck
    have HBY := Lib.hid (And.intro hvo (And.intro hlo (And.intro hio (And.intro htn (And.intro hb256 hbl)))))
    clear hpd hbl hb256 hvo hlo hio hits hck hde hcd hCK HO HPOST HDE2
    have TP := HP.out.cells
    have hOpen := TP
    simp only [Cells, blk, List.cons_append, List.nil_append, and_true, Nat.reduceAdd, Nat.add_zero, Nat.zero_add] at hOpen
    obtain ⟨y0, y1, y2, y3, y4, y5, y6, y7, y8, y9, yA, yB⟩ := hOpen
    clear TP
    go_wp2_with fail
    refine (HCK.out _ (Below.refl _ _)).mono ?_
    rintro e w8 ⟨rfl, hB8⟩
    have HP := Lib.hid (HP.out.below hB8)
    have HR := Lib.hid (HR.out.below hB8)
    have HB := Lib.hid (HB.out.trans (hB8.mono HB.out.size))
    have HB8 := Lib.hid hB8
    clear hB8 y0 y1 y2 y3 y4 y5 y6 y7 y8 y9 yA yB HCK
    by_cases hC : CK = 0
    rotate_left
    · have t4 : (CK != 0) = true := by simpa using hC
      have hde := HDE3.out
      rw [if_pos hC] at hde
      have HD := Lib.hid hde
      clear hde hC HDE3
      go_upto_region 18 with fail
      have TR := HR.out.cells
      have hOpen := TR
      simp only [Cells, blk, List.cons_append, List.nil_append, and_true, Nat.reduceAdd, Nat.add_zero, Nat.zero_add] at hOpen
      obtain ⟨s0, s1, s2, s3, s4, s5, s6, s7, s8, s9, sA, sB⟩ := hOpen
      have g0 := HR.out.frozen 0
      have g1 := HR.out.frozen 1
      have g2 := HR.out.frozen 2
      have g3 := HR.out.frozen 3
      have g4 := HR.out.frozen 4
      have g5 := HR.out.frozen 5
      have g6 := HR.out.frozen 6
      have g7 := HR.out.frozen 7
      have g8 := HR.out.frozen 8
      have g9 := HR.out.frozen 9
      have gA := HR.out.frozen 10
      have gB := HR.out.frozen 11
      obtain ⟨b12, h12, _⟩ := set12 HR.out (.int .i64 0) (.int .i64 0) (.int .u16 0) (.int .u16 0) (.int .u64 0) (.int .u64 0) (.int .i64 0) (.int .i64 0) (.int .i64 0) (.bool false) (.slice none 0 0) (.slice none 0 0)
      have HF := Lib.hid (h12 w.heap.size w (by simp) HB.out)
      obtain ⟨r0, r1, r2, r3, r4, r5, r6, r7, r8, r9, rA, rB, _⟩ := b12.cells
      simp only [Nat.zero_add, Nat.add_zero] at r0 r1 r2 r3 r4 r5 r6 r7 r8 r9 rA rB
      clear TR b12 h12
      go_wp2
      refine bodyPost_ret (v := .tuple #[.agg #[.int .i64 0, .int .i64 0, .int .u16 0, .int .u16 0, .int .u64 0, .int .u64 0, .int .i64 0, .int .i64 0, .int .i64 0, .bool false, .slice none 0 0, .slice none 0 0], .int .i64 CK]) (by simp [results, Try.results18, go_sem, r0, r1, r2, r3, r4, r5, r6, r7, r8, r9, rA, rB]) rfl ?_
      exact decPost_zero HD.out HF.out
    subst hC
    have hde := HDE3.out
    rw [if_neg (by simp)] at hde
    have HD := Lib.hid hde
    clear hde HDE3
    go_upto_region 19 with fail
    have TP := HP.out.cells
    have hOpen := TP
    simp only [Cells, blk, List.cons_append, List.nil_append, and_true, Nat.reduceAdd, Nat.add_zero, Nat.zero_add] at hOpen
    obtain ⟨y0, y1, y2, y3, y4, y5, y6, y7, y8, y9, yA, yB⟩ := hOpen
    have TR := HR.out.cells
    have hOpen := TR
    simp only [Cells, blk, List.cons_append, List.nil_append, and_true, Nat.reduceAdd, Nat.add_zero, Nat.zero_add] at hOpen
    obtain ⟨s0, s1, s2, s3, s4, s5, s6, s7, s8, s9, sA, sB⟩ := hOpen
    have g0 := HR.out.frozen 0
    have g1 := HR.out.frozen 1
    have g2 := HR.out.frozen 2
    have g3 := HR.out.frozen 3
    have g4 := HR.out.frozen 4
    have g5 := HR.out.frozen 5
    have g6 := HR.out.frozen 6
    have g7 := HR.out.frozen 7
    have g8 := HR.out.frozen 8
    have g9 := HR.out.frozen 9
    have gA := HR.out.frozen 10
    have gB := HR.out.frozen 11
    obtain ⟨b12, h12, o12⟩ := set12 HR.out (.int .i64 x) (.int .i64 s.ak) (.int .u16 s.ha) (.int .u16 s.la) (.int .u64 hi) (.int .u64 lo) (.int .i64 s.of) (.int .i64 s.mt) (.int .i64 s.co) (.bool s.cm) (.slice av nv cv) (.slice al m d)
    have hvo5 := o12 _ _ _ _ _ _ (by decide) (own_below HBY.out.1 HB8.out)
    have hlo5 := o12 _ _ _ _ _ _ (by decide) (own_below HBY.out.2.1 HB8.out)
    have hio5 := fun t ht => let h := (HBY.out.2.2.1 t ht).below HB8.out; (show ItOwn _ w3.heap.size t from ⟨h.1, h.2.1, h.2.2.1, h.2.2.2.1, h.2.2.2.2.1, h.2.2.2.2.2.1, o12 _ _ _ _ _ _ (by decide) h.2.2.2.2.2.2⟩)
    have HFI := Lib.hid (items_of_own hml hmb hlo5 hio5 HBY.out.2.2.2.1)
    have HFV := Lib.hid (bytesAt_of_own hvo5 HBY.out.2.2.2.2.2 HBY.out.2.2.2.2.1 (by omega))
    have HFB := Lib.hid (h12 w.heap.size w (Nat.le_refl _) HB.out)
    obtain ⟨r0, r1, r2, r3, r4, r5, r6, r7, r8, r9, rA, rB, _⟩ := b12.cells
    simp only [Nat.zero_add, Nat.add_zero] at r0 r1 r2 r3 r4 r5 r6 r7 r8 r9 rA rB
    clear TP TR b12 h12 o12 hvo5 hlo5 hio5
    go_wp2
    refine bodyPost_ret (v := .tuple #[.agg #[.int .i64 x, .int .i64 s.ak, .int .u16 s.ha, .int .u16 s.la, .int .u64 hi, .int .u64 lo, .int .i64 s.of, .int .i64 s.mt, .int .i64 s.co, .bool s.cm, .slice av nv cv, .slice al m d], .int .i64 0]) (by simp [results, Try.results18, go_sem, r0, r1, r2, r3, r4, r5, r6, r7, r8, r9, rA, rB]) rfl ?_
    unfold DecPost
    rw [HD.out]
    exact ⟨av, nv, cv, al, m, d, its, rfl, HFV.out, HBY.out.2.2.2.2.2, HFI.out, rfl, HFB.out⟩
  · have g7' := g7i _ g7
    clear g7i
    go_enter Try.func18, Try.ntmps18
    go_upto_region 1 with fail
    generalize hV : World.alloc _ _ = V at HR HB ⊢
    have hVs : V.heap.size = w.heap.size + 1 := by rw [← hV]; simp
    clear hV
    have kv := kc HKX.out HB.out
    have bP := Blk.new V 29 [.int .i64 x, .int .i64 0, .int .u16 0, .int .u16 0, .int .u64 0, .int .u64 0, .int .i64 0, .int .i64 0, .int .i64 0, .bool false, .slice none 0 0, .slice none 0 0]
    have hal := (Below.refl V.heap.size V).alloc (Nat.le_refl _) (.cells #[.int .i64 x, .int .i64 0, .int .u16 0, .int .u16 0, .int .u64 0, .int .u64 0, .int .i64 0, .int .i64 0, .int .i64 0, .bool false, .slice none 0 0, .slice none 0 0] 29)
    rw [hVs] at bP
    have HX := Lib.hid (And.intro bP (And.intro (HR.out.below hal) (HB.out.trans (hal.mono HB.out.size))))
    clear bP hal
    go_upto_region 4 with fail
    clear kv HR HB
    generalize World.alloc _ _ = X at HX ⊢
    have HP := Lib.hid HX.out.1
    have HR := Lib.hid HX.out.2.1
    have HB := Lib.hid HX.out.2.2
    clear HX
    have kP := HP.out.cell (j := 0) rfl
    go_wp2_with fail
    refine (HFF.out _).mono ?_
    rintro e w1 ⟨rfl, hB1⟩
    have bU := Blk.new w1 58 [.bool true, .bool b1, .bool b2, .bool b3, .bool false, .bool b5, .bool b6, .bool b7, .bool b8, .bool false, .bool true]
    have hal := (Below.refl w1.heap.size w1).alloc (Nat.le_refl _) (.cells #[.bool true, .bool b1, .bool b2, .bool b3, .bool false, .bool b5, .bool b6, .bool b7, .bool b8, .bool false, .bool true] 58)
    have hb1 := HB.out.trans (hB1.mono HB.out.size)
    have HX := Lib.hid (And.intro ((HP.out.below hB1).below hal) (And.intro ((HR.out.below hB1).below hal) (hb1.trans (hal.mono hb1.size))))
    have hneU : w1.heap.size ≠ w.heap.size + 1 := by have := HP.out.lt; have := hB1.size; omega
    clear kP hB1 hb1 hal HP HR HB
    go_upto_region 5 with fail
    generalize World.alloc _ _ = Y at HX bU ⊢
    have HP := Lib.hid HX.out.1
    have HR := Lib.hid HX.out.2.1
    have HB := Lib.hid HX.out.2.2
    have HU := Lib.hid bU
    have TU := HU.out.cells
    have hOpen := TU
    simp only [Cells, blk, List.cons_append, List.nil_append, and_true, Nat.reduceAdd, Nat.add_zero, Nat.zero_add] at hOpen
    obtain ⟨u0, u1, u2, u3, u4, u5, u6, u7, u8, u9, uA⟩ := hOpen
    clear HX bU TU
    go_wp2_with fail
    refine (HFX.out _).mono ?_
    rintro e w3 ⟨rfl, hB3⟩
    have HP := Lib.hid (HP.out.below hB3)
    have HR := Lib.hid (HR.out.below hB3)
    have HB := Lib.hid (HB.out.trans (hB3.mono HB.out.size))
    have HU := Lib.hid (HU.out.below hB3)
    clear hB3 u0 u1 u2 u3 u4 u5 u6 u7 u8 u9 uA HFX
    have TU := HU.out.cells
    have hOpen := TU
    simp only [Cells, blk, List.cons_append, List.nil_append, and_true, Nat.reduceAdd, Nat.add_zero, Nat.zero_add] at hOpen
    obtain ⟨u0, u1, u2, u3, u4, u5, u6, u7, u8, u9, uA⟩ := hOpen
    clear TU
    have TP := HP.out.cells
    have hOpen := TP
    simp only [Cells, blk, List.cons_append, List.nil_append, and_true, Nat.reduceAdd, Nat.add_zero, Nat.zero_add] at hOpen
    obtain ⟨y0, y1, y2, y3, y4, y5, y6, y7, y8, y9, yA, yB⟩ := hOpen
    clear TP
    go_wp2_with fail
    refine (HTK2.out _ HB.out).mono ?_
    rintro e w5 ⟨hi, lo, av, nv, cv, bsv, al, m, d, its, rfl, hB5, hpost⟩
    have HPOST := Lib.hid hpost
    have HP5 := Lib.hid (HP.out.below hB5)
    have HR5 := Lib.hid (HR.out.below hB5)
    have HB5 := Lib.hid (HB.out.trans (hB5.mono HB.out.size))
    have hPl := HP.out.lt
    have HYs := Lib.hid HB.out.size
    have hwY := hPl
    clear hB5 hpost y0 y1 y2 y3 y4 y5 y6 y7 y8 y9 yA yB u0 u1 u2 u3 u4 u5 u6 u7 u8 u9 uA HP HR HB HU HTK2
    have TP := HP5.out.cells
    have hOpen := TP
    simp only [Cells, blk, List.cons_append, List.nil_append, and_true, Nat.reduceAdd, Nat.add_zero, Nat.zero_add] at hOpen
    obtain ⟨y0, y1, y2, y3, y4, y5, y6, y7, y8, y9, yA, yB⟩ := hOpen
    have f0 := HP5.out.frozen 0
    have f1 := HP5.out.frozen 1
    have f2 := HP5.out.frozen 2
    have f3 := HP5.out.frozen 3
    have f4 := HP5.out.frozen 4
    have f5 := HP5.out.frozen 5
    have f6 := HP5.out.frozen 6
    have f7 := HP5.out.frozen 7
    have f8 := HP5.out.frozen 8
    have f9 := HP5.out.frozen 9
    have fA := HP5.out.frozen 10
    have fB := HP5.out.frozen 11
    obtain ⟨p12, hp12, op12⟩ := set12 HP5.out (.int .i64 x) (.int .i64 s.ak) (.int .u16 s.ha) (.int .u16 s.la) (.int .u64 hi) (.int .u64 lo) (.int .i64 s.of) (.int .i64 s.mt) (.int .i64 s.co) (.bool s.cm) (.slice av nv cv) (.slice al m d)
    have hR6 := ((((((((((((HR5.out.other (B' := w.heap.size + 1) (o := 0) (show w.heap.size ≠ w.heap.size + 1 by omega) (.int .i64 x)).other (B' := w.heap.size + 1) (o := 1) (show w.heap.size ≠ w.heap.size + 1 by omega) (.int .i64 s.ak)).other (B' := w.heap.size + 1) (o := 2) (show w.heap.size ≠ w.heap.size + 1 by omega) (.int .u16 s.ha)).other (B' := w.heap.size + 1) (o := 3) (show w.heap.size ≠ w.heap.size + 1 by omega) (.int .u16 s.la)).other (B' := w.heap.size + 1) (o := 4) (show w.heap.size ≠ w.heap.size + 1 by omega) (.int .u64 hi)).other (B' := w.heap.size + 1) (o := 5) (show w.heap.size ≠ w.heap.size + 1 by omega) (.int .u64 lo)).other (B' := w.heap.size + 1) (o := 6) (show w.heap.size ≠ w.heap.size + 1 by omega) (.int .i64 s.of)).other (B' := w.heap.size + 1) (o := 7) (show w.heap.size ≠ w.heap.size + 1 by omega) (.int .i64 s.mt)).other (B' := w.heap.size + 1) (o := 8) (show w.heap.size ≠ w.heap.size + 1 by omega) (.int .i64 s.co)).other (B' := w.heap.size + 1) (o := 9) (show w.heap.size ≠ w.heap.size + 1 by omega) (.bool s.cm)).other (B' := w.heap.size + 1) (o := 10) (show w.heap.size ≠ w.heap.size + 1 by omega) (.slice av nv cv)).other (B' := w.heap.size + 1) (o := 11) (show w.heap.size ≠ w.heap.size + 1 by omega) (.slice al m d))
    have hown6 : E = 0 → _ := fun h0 => (fun (q : _ ∧ _) => q) ⟨op12 _ _ _ _ _ _ (by decide) (HPOST.out h0).2.1, op12 _ _ _ _ _ _ (by decide) (HPOST.out h0).2.2.2.2.2.1⟩
    have hio6 : E = 0 → ∀ t (ht : t ∈ its), ItOwn _ _ t := fun h0 t ht => let h := (HPOST.out h0).2.2.2.2.2.2.1 t ht; ⟨h.1, h.2.1, h.2.2.1, h.2.2.2.1, h.2.2.2.2.1, h.2.2.2.2.2.1, op12 _ _ _ _ _ _ (by decide) h.2.2.2.2.2.2⟩
    have HX := Lib.hid (And.intro p12 (And.intro hR6 (And.intro (hp12 w.heap.size w (by omega) HB5.out) (And.intro hown6 hio6))))
    clear TP p12 hp12 op12 hR6 hown6 hio6 HP5 HR5 HB5
    go_upto_region 15 with fail
    clear y0 y1 y2 y3 y4 y5 y6 y7 y8 y9 yA yB f0 f1 f2 f3 f4 f5 f6 f7 f8 f9 fA fB
    generalize World.setCell _ _ _ = W6 at HX ⊢
    have HP := Lib.hid HX.out.1
    have HR := Lib.hid HX.out.2.1
    have HB := Lib.hid HX.out.2.2.1
    have HO := Lib.hid HX.out.2.2.2
    clear HX
    by_cases hE : E = 0
    rotate_left
    · have t3 : (E == 0) = false := by simpa using hE
      have t3' : (E != 0) = true := by simpa using hE
      have hde := HDE2.out
      rw [if_pos hE] at hde
      have HD := Lib.hid hde
      clear hde hE HDE2 HPOST HO
      go_upto_region 18 with fail
      have TR := HR.out.cells
      have hOpen := TR
      simp only [Cells, blk, List.cons_append, List.nil_append, and_true, Nat.reduceAdd, Nat.add_zero, Nat.zero_add] at hOpen
      obtain ⟨s0, s1, s2, s3, s4, s5, s6, s7, s8, s9, sA, sB⟩ := hOpen
      have g0 := HR.out.frozen 0
      have g1 := HR.out.frozen 1
      have g2 := HR.out.frozen 2
      have g3 := HR.out.frozen 3
      have g4 := HR.out.frozen 4
      have g5 := HR.out.frozen 5
      have g6 := HR.out.frozen 6
      have g7 := HR.out.frozen 7
      have g8 := HR.out.frozen 8
      have g9 := HR.out.frozen 9
      have gA := HR.out.frozen 10
      have gB := HR.out.frozen 11
      obtain ⟨b12, h12, _⟩ := set12 HR.out (.int .i64 0) (.int .i64 0) (.int .u16 0) (.int .u16 0) (.int .u64 0) (.int .u64 0) (.int .i64 0) (.int .i64 0) (.int .i64 0) (.bool false) (.slice none 0 0) (.slice none 0 0)
      have HF := Lib.hid (h12 w.heap.size w (by simp) HB.out)
      obtain ⟨r0, r1, r2, r3, r4, r5, r6, r7, r8, r9, rA, rB, _⟩ := b12.cells
      simp only [Nat.zero_add, Nat.add_zero] at r0 r1 r2 r3 r4 r5 r6 r7 r8 r9 rA rB
      clear TR b12 h12
      go_wp2
      refine bodyPost_ret (v := .tuple #[.agg #[.int .i64 0, .int .i64 0, .int .u16 0, .int .u16 0, .int .u64 0, .int .u64 0, .int .i64 0, .int .i64 0, .int .i64 0, .bool false, .slice none 0 0, .slice none 0 0], .int .i64 E]) (by simp [results, Try.results18, go_sem, r0, r1, r2, r3, r4, r5, r6, r7, r8, r9, rA, rB]) rfl ?_
      exact decPost_zero HD.out HF.out
    subst hE
    obtain ⟨hpd, _, hbl, hnv, hb256, _, _, hml, hmb, htn⟩ := HPOST.out rfl
    obtain ⟨⟨hvo, hlo⟩, hio⟩ := And.intro (HO.out.1 rfl) (HO.out.2 rfl)
    have hits := items_of_own hml hmb hlo hio htn
    have hck := fun W (hW : Below W6.heap.size W6 W) => rchk_any x s.ak s.ha s.la hi lo s.of s.mt s.co s.cm av al nv cv m d its W (hits.below hW) hmb htn
    have hde := HDE2.out
    rw [if_neg (by simp), hpd] at hde
    have hcd : chkD ⟨x, s, hi, lo, bsv, its.map dat⟩ = chkP x s.ak s.ha s.la hi lo s.of s.mt s.co s.cm nv m its := chkD_pdP x s.ak s.ha s.la hi lo s.of s.mt s.co s.cm nv m bsv its hbl hml (fun t ht => (hio t ht).2.2.2.2.1)
    rw [hcd] at hde
    obtain ⟨CK, hCK⟩ : ∃ C, chkP x s.ak s.ha s.la hi lo s.of s.mt s.co s.cm nv m its = C := ⟨_, rfl⟩
    rw [hCK] at hde
    simp only [hCK] at hck
    have HDE3 := Lib.hid hde
    have HCK := Lib.hid hck
    have HBY := Lib.hid (And.intro hvo (And.intro hlo (And.intro hio (And.intro htn (And.intro hb256 hbl)))))
    clear hpd hbl hb256 hvo hlo hio hits hck hde hcd hCK HO HPOST HDE2
    have TP := HP.out.cells
    have hOpen := TP
    simp only [Cells, blk, List.cons_append, List.nil_append, and_true, Nat.reduceAdd, Nat.add_zero, Nat.zero_add] at hOpen
    obtain ⟨y0, y1, y2, y3, y4, y5, y6, y7, y8, y9, yA, yB⟩ := hOpen
    clear TP
    go_wp2_with fail
    refine (HCK.out _ (Below.refl _ _)).mono ?_
    rintro e w8 ⟨rfl, hB8⟩
    have HP := Lib.hid (HP.out.below hB8)
    have HR := Lib.hid (HR.out.below hB8)
    have HB := Lib.hid (HB.out.trans (hB8.mono HB.out.size))
    have HB8 := Lib.hid hB8
    clear hB8 y0 y1 y2 y3 y4 y5 y6 y7 y8 y9 yA yB HCK
    by_cases hC : CK = 0
    rotate_left
    · have t4 : (CK != 0) = true := by simpa using hC
      have hde := HDE3.out
      rw [if_pos hC] at hde
      have HD := Lib.hid hde
      clear hde hC HDE3
      go_upto_region 18 with fail
      have TR := HR.out.cells
      have hOpen := TR
      simp only [Cells, blk, List.cons_append, List.nil_append, and_true, Nat.reduceAdd, Nat.add_zero, Nat.zero_add] at hOpen
      obtain ⟨s0, s1, s2, s3, s4, s5, s6, s7, s8, s9, sA, sB⟩ := hOpen
      have g0 := HR.out.frozen 0
      have g1 := HR.out.frozen 1
      have g2 := HR.out.frozen 2
      have g3 := HR.out.frozen 3
      have g4 := HR.out.frozen 4
      have g5 := HR.out.frozen 5
      have g6 := HR.out.frozen 6
      have g7 := HR.out.frozen 7
      have g8 := HR.out.frozen 8
      have g9 := HR.out.frozen 9
      have gA := HR.out.frozen 10
      have gB := HR.out.frozen 11
      obtain ⟨b12, h12, _⟩ := set12 HR.out (.int .i64 0) (.int .i64 0) (.int .u16 0) (.int .u16 0) (.int .u64 0) (.int .u64 0) (.int .i64 0) (.int .i64 0) (.int .i64 0) (.bool false) (.slice none 0 0) (.slice none 0 0)
      have HF := Lib.hid (h12 w.heap.size w (by simp) HB.out)
      obtain ⟨r0, r1, r2, r3, r4, r5, r6, r7, r8, r9, rA, rB, _⟩ := b12.cells
      simp only [Nat.zero_add, Nat.add_zero] at r0 r1 r2 r3 r4 r5 r6 r7 r8 r9 rA rB
      clear TR b12 h12
      go_wp2
      refine bodyPost_ret (v := .tuple #[.agg #[.int .i64 0, .int .i64 0, .int .u16 0, .int .u16 0, .int .u64 0, .int .u64 0, .int .i64 0, .int .i64 0, .int .i64 0, .bool false, .slice none 0 0, .slice none 0 0], .int .i64 CK]) (by simp [results, Try.results18, go_sem, r0, r1, r2, r3, r4, r5, r6, r7, r8, r9, rA, rB]) rfl ?_
      exact decPost_zero HD.out HF.out
    subst hC
    have hde := HDE3.out
    rw [if_neg (by simp)] at hde
    have HD := Lib.hid hde
    clear hde HDE3
    go_upto_region 19 with fail
    have TP := HP.out.cells
    have hOpen := TP
    simp only [Cells, blk, List.cons_append, List.nil_append, and_true, Nat.reduceAdd, Nat.add_zero, Nat.zero_add] at hOpen
    obtain ⟨y0, y1, y2, y3, y4, y5, y6, y7, y8, y9, yA, yB⟩ := hOpen
    have TR := HR.out.cells
    have hOpen := TR
    simp only [Cells, blk, List.cons_append, List.nil_append, and_true, Nat.reduceAdd, Nat.add_zero, Nat.zero_add] at hOpen
    obtain ⟨s0, s1, s2, s3, s4, s5, s6, s7, s8, s9, sA, sB⟩ := hOpen
    have g0 := HR.out.frozen 0
    have g1 := HR.out.frozen 1
    have g2 := HR.out.frozen 2
    have g3 := HR.out.frozen 3
    have g4 := HR.out.frozen 4
    have g5 := HR.out.frozen 5
    have g6 := HR.out.frozen 6
    have g7 := HR.out.frozen 7
    have g8 := HR.out.frozen 8
    have g9 := HR.out.frozen 9
    have gA := HR.out.frozen 10
    have gB := HR.out.frozen 11
    obtain ⟨b12, h12, o12⟩ := set12 HR.out (.int .i64 x) (.int .i64 s.ak) (.int .u16 s.ha) (.int .u16 s.la) (.int .u64 hi) (.int .u64 lo) (.int .i64 s.of) (.int .i64 s.mt) (.int .i64 s.co) (.bool s.cm) (.slice av nv cv) (.slice al m d)
    have hvo5 := o12 _ _ _ _ _ _ (by decide) (own_below HBY.out.1 HB8.out)
    have hlo5 := o12 _ _ _ _ _ _ (by decide) (own_below HBY.out.2.1 HB8.out)
    have hio5 := fun t ht => let h := (HBY.out.2.2.1 t ht).below HB8.out; (show ItOwn _ w3.heap.size t from ⟨h.1, h.2.1, h.2.2.1, h.2.2.2.1, h.2.2.2.2.1, h.2.2.2.2.2.1, o12 _ _ _ _ _ _ (by decide) h.2.2.2.2.2.2⟩)
    have HFI := Lib.hid (items_of_own hml hmb hlo5 hio5 HBY.out.2.2.2.1)
    have HFV := Lib.hid (bytesAt_of_own hvo5 HBY.out.2.2.2.2.2 HBY.out.2.2.2.2.1 (by omega))
    have HFB := Lib.hid (h12 w.heap.size w (Nat.le_refl _) HB.out)
    obtain ⟨r0, r1, r2, r3, r4, r5, r6, r7, r8, r9, rA, rB, _⟩ := b12.cells
    simp only [Nat.zero_add, Nat.add_zero] at r0 r1 r2 r3 r4 r5 r6 r7 r8 r9 rA rB
    clear TP TR b12 h12 o12 hvo5 hlo5 hio5
    go_wp2
    refine bodyPost_ret (v := .tuple #[.agg #[.int .i64 x, .int .i64 s.ak, .int .u16 s.ha, .int .u16 s.la, .int .u64 hi, .int .u64 lo, .int .i64 s.of, .int .i64 s.mt, .int .i64 s.co, .bool s.cm, .slice av nv cv, .slice al m d], .int .i64 0]) (by simp [results, Try.results18, go_sem, r0, r1, r2, r3, r4, r5, r6, r7, r8, r9, rA, rB]) rfl ?_
    unfold DecPost
    rw [HD.out]
    exact ⟨av, nv, cv, al, m, d, its, rfl, HFV.out, HBY.out.2.2.2.2.2, HFI.out, rfl, HFB.out⟩
end Go.Proofs.Ythnffdlnhfhabaa
namespace Go.Proofs.Ythnffdlnhfhabaa
open Go.RowKit

set_option linter.unusedSimpArgs false in
set_option linter.unusedVariables false in
set_option maxRecDepth 100000 in
set_option maxHeartbeats 4000000 in
theorem fix_AHC (w : World) : Calls Try.prog 39 #[.agg #[.bool true, .bool true, .bool true, .bool false, .bool false, .bool false, .bool false, .bool true, .bool false, .bool false, .bool false]] w fun e w' => e = .returned (.int .i64 5) ∧ Below w.heap.size w w' := by
  have hB := (Below.refl w.heap.size w).alloc (Nat.le_refl _) (.cells #[.bool true, .bool true, .bool true, .bool false, .bool false, .bool false, .bool false, .bool true, .bool false, .bool false, .bool false] 58)
  have T := cells_new w [.bool true, .bool true, .bool true, .bool false, .bool false, .bool false, .bool false, .bool true, .bool false, .bool false, .bool false] 58
  go_enter Try.func39, Try.ntmps39
  go_upto_region 1 with fail
  generalize World.alloc _ _ = V at T hB ⊢
  have hOpen := T
  simp only [Cells, blk, List.cons_append, List.nil_append, and_true, Nat.reduceAdd, Nat.add_zero, Nat.zero_add] at hOpen
  obtain ⟨u0, u1, u2, u3, u4, u5, u6, u7, u8, u9, uA⟩ := hOpen
  clear T
  go_wp2
  go_ret
  exact ⟨rfl, hB⟩
set_option linter.unusedSimpArgs false in
set_option linter.unusedVariables false in
set_option maxRecDepth 100000 in
set_option maxHeartbeats 4000000 in
theorem fix_M (w : World) : Calls Try.prog 39 #[.agg #[.bool true, .bool false, .bool false, .bool false, .bool false, .bool false, .bool true, .bool false, .bool false, .bool false, .bool false]] w fun e w' => e = .returned (.int .i64 3) ∧ Below w.heap.size w w' := by
  have hB := (Below.refl w.heap.size w).alloc (Nat.le_refl _) (.cells #[.bool true, .bool false, .bool false, .bool false, .bool false, .bool false, .bool true, .bool false, .bool false, .bool false, .bool false] 58)
  have T := cells_new w [.bool true, .bool false, .bool false, .bool false, .bool false, .bool false, .bool true, .bool false, .bool false, .bool false, .bool false] 58
  go_enter Try.func39, Try.ntmps39
  go_upto_region 1 with fail
  generalize World.alloc _ _ = V at T hB ⊢
  have hOpen := T
  simp only [Cells, blk, List.cons_append, List.nil_append, and_true, Nat.reduceAdd, Nat.add_zero, Nat.zero_add] at hOpen
  obtain ⟨u0, u1, u2, u3, u4, u5, u6, u7, u8, u9, uA⟩ := hOpen
  clear T
  go_wp2
  go_ret
  exact ⟨rfl, hB⟩
set_option linter.unusedSimpArgs false in
set_option linter.unusedVariables false in
set_option maxRecDepth 100000 in
set_option maxHeartbeats 4000000 in
theorem fix_HL (w : World) : Calls Try.prog 39 #[.agg #[.bool true, .bool false, .bool true, .bool true, .bool false, .bool false, .bool false, .bool false, .bool false, .bool false, .bool false]] w fun e w' => e = .returned (.int .i64 5) ∧ Below w.heap.size w w' := by
  have hB := (Below.refl w.heap.size w).alloc (Nat.le_refl _) (.cells #[.bool true, .bool false, .bool true, .bool true, .bool false, .bool false, .bool false, .bool false, .bool false, .bool false, .bool false] 58)
  have T := cells_new w [.bool true, .bool false, .bool true, .bool true, .bool false, .bool false, .bool false, .bool false, .bool false, .bool false, .bool false] 58
  go_enter Try.func39, Try.ntmps39
  go_upto_region 1 with fail
  generalize World.alloc _ _ = V at T hB ⊢
  have hOpen := T
  simp only [Cells, blk, List.cons_append, List.nil_append, and_true, Nat.reduceAdd, Nat.add_zero, Nat.zero_add] at hOpen
  obtain ⟨u0, u1, u2, u3, u4, u5, u6, u7, u8, u9, uA⟩ := hOpen
  clear T
  go_wp2
  go_ret
  exact ⟨rfl, hB⟩
set_option linter.unusedSimpArgs false in
set_option linter.unusedVariables false in
set_option maxRecDepth 100000 in
set_option maxHeartbeats 4000000 in
theorem fix_HLT (w : World) : Calls Try.prog 39 #[.agg #[.bool true, .bool false, .bool true, .bool true, .bool true, .bool false, .bool false, .bool false, .bool false, .bool false, .bool false]] w fun e w' => e = .returned (.int .i64 5) ∧ Below w.heap.size w w' := by
  have hB := (Below.refl w.heap.size w).alloc (Nat.le_refl _) (.cells #[.bool true, .bool false, .bool true, .bool true, .bool true, .bool false, .bool false, .bool false, .bool false, .bool false, .bool false] 58)
  have T := cells_new w [.bool true, .bool false, .bool true, .bool true, .bool true, .bool false, .bool false, .bool false, .bool false, .bool false, .bool false] 58
  go_enter Try.func39, Try.ntmps39
  go_upto_region 1 with fail
  generalize World.alloc _ _ = V at T hB ⊢
  have hOpen := T
  simp only [Cells, blk, List.cons_append, List.nil_append, and_true, Nat.reduceAdd, Nat.add_zero, Nat.zero_add] at hOpen
  obtain ⟨u0, u1, u2, u3, u4, u5, u6, u7, u8, u9, uA⟩ := hOpen
  clear T
  go_wp2
  go_ret
  exact ⟨rfl, hB⟩
set_option linter.unusedSimpArgs false in
set_option linter.unusedVariables false in
set_option maxRecDepth 100000 in
set_option maxHeartbeats 4000000 in
theorem fix_H (w : World) : Calls Try.prog 39 #[.agg #[.bool true, .bool false, .bool true, .bool false, .bool false, .bool false, .bool false, .bool false, .bool false, .bool false, .bool false]] w fun e w' => e = .returned (.int .i64 3) ∧ Below w.heap.size w w' := by
  have hB := (Below.refl w.heap.size w).alloc (Nat.le_refl _) (.cells #[.bool true, .bool false, .bool true, .bool false, .bool false, .bool false, .bool false, .bool false, .bool false, .bool false, .bool false] 58)
  have T := cells_new w [.bool true, .bool false, .bool true, .bool false, .bool false, .bool false, .bool false, .bool false, .bool false, .bool false, .bool false] 58
  go_enter Try.func39, Try.ntmps39
  go_upto_region 1 with fail
  generalize World.alloc _ _ = V at T hB ⊢
  have hOpen := T
  simp only [Cells, blk, List.cons_append, List.nil_append, and_true, Nat.reduceAdd, Nat.add_zero, Nat.zero_add] at hOpen
  obtain ⟨u0, u1, u2, u3, u4, u5, u6, u7, u8, u9, uA⟩ := hOpen
  clear T
  go_wp2
  go_ret
  exact ⟨rfl, hB⟩
set_option linter.unusedSimpArgs false in
set_option linter.unusedVariables false in
set_option maxRecDepth 100000 in
set_option maxHeartbeats 4000000 in
theorem fix_HO (w : World) : Calls Try.prog 39 #[.agg #[.bool true, .bool false, .bool true, .bool false, .bool false, .bool true, .bool false, .bool false, .bool false, .bool false, .bool false]] w fun e w' => e = .returned (.int .i64 5) ∧ Below w.heap.size w w' := by
  have hB := (Below.refl w.heap.size w).alloc (Nat.le_refl _) (.cells #[.bool true, .bool false, .bool true, .bool false, .bool false, .bool true, .bool false, .bool false, .bool false, .bool false, .bool false] 58)
  have T := cells_new w [.bool true, .bool false, .bool true, .bool false, .bool false, .bool true, .bool false, .bool false, .bool false, .bool false, .bool false] 58
  go_enter Try.func39, Try.ntmps39
  go_upto_region 1 with fail
  generalize World.alloc _ _ = V at T hB ⊢
  have hOpen := T
  simp only [Cells, blk, List.cons_append, List.nil_append, and_true, Nat.reduceAdd, Nat.add_zero, Nat.zero_add] at hOpen
  obtain ⟨u0, u1, u2, u3, u4, u5, u6, u7, u8, u9, uA⟩ := hOpen
  clear T
  go_wp2
  go_ret
  exact ⟨rfl, hB⟩
set_option linter.unusedSimpArgs false in
set_option linter.unusedVariables false in
set_option maxRecDepth 100000 in
set_option maxHeartbeats 4000000 in
theorem fix_V (w : World) : Calls Try.prog 39 #[.agg #[.bool true, .bool false, .bool false, .bool false, .bool false, .bool false, .bool false, .bool false, .bool false, .bool true, .bool false]] w fun e w' => e = .returned (.int .i64 1) ∧ Below w.heap.size w w' := by
  have hB := (Below.refl w.heap.size w).alloc (Nat.le_refl _) (.cells #[.bool true, .bool false, .bool false, .bool false, .bool false, .bool false, .bool false, .bool false, .bool false, .bool true, .bool false] 58)
  have T := cells_new w [.bool true, .bool false, .bool false, .bool false, .bool false, .bool false, .bool false, .bool false, .bool false, .bool true, .bool false] 58
  go_enter Try.func39, Try.ntmps39
  go_upto_region 1 with fail
  generalize World.alloc _ _ = V at T hB ⊢
  have hOpen := T
  simp only [Cells, blk, List.cons_append, List.nil_append, and_true, Nat.reduceAdd, Nat.add_zero, Nat.zero_add] at hOpen
  obtain ⟨u0, u1, u2, u3, u4, u5, u6, u7, u8, u9, uA⟩ := hOpen
  clear T
  go_wp2
  go_ret
  exact ⟨rfl, hB⟩
set_option linter.unusedSimpArgs false in
set_option linter.unusedVariables false in
set_option maxRecDepth 100000 in
set_option maxHeartbeats 4000000 in
theorem fix_HV (w : World) : Calls Try.prog 39 #[.agg #[.bool true, .bool false, .bool true, .bool false, .bool false, .bool false, .bool false, .bool false, .bool false, .bool true, .bool false]] w fun e w' => e = .returned (.int .i64 3) ∧ Below w.heap.size w w' := by
  have hB := (Below.refl w.heap.size w).alloc (Nat.le_refl _) (.cells #[.bool true, .bool false, .bool true, .bool false, .bool false, .bool false, .bool false, .bool false, .bool false, .bool true, .bool false] 58)
  have T := cells_new w [.bool true, .bool false, .bool true, .bool false, .bool false, .bool false, .bool false, .bool false, .bool false, .bool true, .bool false] 58
  go_enter Try.func39, Try.ntmps39
  go_upto_region 1 with fail
  generalize World.alloc _ _ = V at T hB ⊢
  have hOpen := T
  simp only [Cells, blk, List.cons_append, List.nil_append, and_true, Nat.reduceAdd, Nat.add_zero, Nat.zero_add] at hOpen
  obtain ⟨u0, u1, u2, u3, u4, u5, u6, u7, u8, u9, uA⟩ := hOpen
  clear T
  go_wp2
  go_ret
  exact ⟨rfl, hB⟩
set_option linter.unusedSimpArgs false in
set_option linter.unusedVariables false in
set_option maxRecDepth 100000 in
set_option maxHeartbeats 4000000 in
theorem fix_HOV (w : World) : Calls Try.prog 39 #[.agg #[.bool true, .bool false, .bool true, .bool false, .bool false, .bool true, .bool false, .bool false, .bool false, .bool true, .bool false]] w fun e w' => e = .returned (.int .i64 5) ∧ Below w.heap.size w w' := by
  have hB := (Below.refl w.heap.size w).alloc (Nat.le_refl _) (.cells #[.bool true, .bool false, .bool true, .bool false, .bool false, .bool true, .bool false, .bool false, .bool false, .bool true, .bool false] 58)
  have T := cells_new w [.bool true, .bool false, .bool true, .bool false, .bool false, .bool true, .bool false, .bool false, .bool false, .bool true, .bool false] 58
  go_enter Try.func39, Try.ntmps39
  go_upto_region 1 with fail
  generalize World.alloc _ _ = V at T hB ⊢
  have hOpen := T
  simp only [Cells, blk, List.cons_append, List.nil_append, and_true, Nat.reduceAdd, Nat.add_zero, Nat.zero_add] at hOpen
  obtain ⟨u0, u1, u2, u3, u4, u5, u6, u7, u8, u9, uA⟩ := hOpen
  clear T
  go_wp2
  go_ret
  exact ⟨rfl, hB⟩
set_option linter.unusedSimpArgs false in
set_option linter.unusedVariables false in
set_option maxRecDepth 100000 in
set_option maxHeartbeats 4000000 in
theorem fix_X (w : World) : Calls Try.prog 39 #[.agg #[.bool true, .bool false, .bool false, .bool false, .bool false, .bool false, .bool false, .bool false, .bool true, .bool false, .bool false]] w fun e w' => e = .returned (.int .i64 2) ∧ Below w.heap.size w w' := by
  have hB := (Below.refl w.heap.size w).alloc (Nat.le_refl _) (.cells #[.bool true, .bool false, .bool false, .bool false, .bool false, .bool false, .bool false, .bool false, .bool true, .bool false, .bool false] 58)
  have T := cells_new w [.bool true, .bool false, .bool false, .bool false, .bool false, .bool false, .bool false, .bool false, .bool true, .bool false, .bool false] 58
  go_enter Try.func39, Try.ntmps39
  go_upto_region 1 with fail
  generalize World.alloc _ _ = V at T hB ⊢
  have hOpen := T
  simp only [Cells, blk, List.cons_append, List.nil_append, and_true, Nat.reduceAdd, Nat.add_zero, Nat.zero_add] at hOpen
  obtain ⟨u0, u1, u2, u3, u4, u5, u6, u7, u8, u9, uA⟩ := hOpen
  clear T
  go_wp2
  go_ret
  exact ⟨rfl, hB⟩
set_option linter.unusedSimpArgs false in
set_option linter.unusedVariables false in
set_option maxRecDepth 100000 in
set_option maxHeartbeats 4000000 in
theorem fix_n (w : World) : Calls Try.prog 39 #[.agg #[.bool true, .bool false, .bool false, .bool false, .bool false, .bool false, .bool false, .bool false, .bool false, .bool false, .bool false]] w fun e w' => e = .returned (.int .i64 1) ∧ Below w.heap.size w w' := by
  have hB := (Below.refl w.heap.size w).alloc (Nat.le_refl _) (.cells #[.bool true, .bool false, .bool false, .bool false, .bool false, .bool false, .bool false, .bool false, .bool false, .bool false, .bool false] 58)
  have T := cells_new w [.bool true, .bool false, .bool false, .bool false, .bool false, .bool false, .bool false, .bool false, .bool false, .bool false, .bool false] 58
  go_enter Try.func39, Try.ntmps39
  go_upto_region 1 with fail
  generalize World.alloc _ _ = V at T hB ⊢
  have hOpen := T
  simp only [Cells, blk, List.cons_append, List.nil_append, and_true, Nat.reduceAdd, Nat.add_zero, Nat.zero_add] at hOpen
  obtain ⟨u0, u1, u2, u3, u4, u5, u6, u7, u8, u9, uA⟩ := hOpen
  clear T
  go_wp2
  go_ret
  exact ⟨rfl, hB⟩
set_option linter.unusedSimpArgs false in
set_option linter.unusedVariables false in
set_option maxRecDepth 100000 in
set_option maxHeartbeats 4000000 in
theorem fix_I (w : World) : Calls Try.prog 39 #[.agg #[.bool true, .bool false, .bool false, .bool false, .bool false, .bool false, .bool false, .bool false, .bool false, .bool false, .bool true]] w fun e w' => e = .returned (.int .i64 2) ∧ Below w.heap.size w w' := by
  have hB := (Below.refl w.heap.size w).alloc (Nat.le_refl _) (.cells #[.bool true, .bool false, .bool false, .bool false, .bool false, .bool false, .bool false, .bool false, .bool false, .bool false, .bool true] 58)
  have T := cells_new w [.bool true, .bool false, .bool false, .bool false, .bool false, .bool false, .bool false, .bool false, .bool false, .bool false, .bool true] 58
  go_enter Try.func39, Try.ntmps39
  go_upto_region 1 with fail
  generalize World.alloc _ _ = V at T hB ⊢
  have hOpen := T
  simp only [Cells, blk, List.cons_append, List.nil_append, and_true, Nat.reduceAdd, Nat.add_zero, Nat.zero_add] at hOpen
  obtain ⟨u0, u1, u2, u3, u4, u5, u6, u7, u8, u9, uA⟩ := hOpen
  clear T
  go_wp2
  go_ret
  exact ⟨rfl, hB⟩
set_option linter.unusedSimpArgs false in
set_option linter.unusedVariables false in
set_option maxRecDepth 100000 in
set_option maxHeartbeats 4000000 in
theorem tak_I (x : Nat) (hk : fldC (x : Int) = some [73]) (a : Option Addr) (n c : Nat) (w : World) (rest : List Nat) (E : Int)
    (hl : ∀ W, Below w.heap.size w W → Calls Try.prog 61 #[.agg #[.int .i64 x, .int .i64 0, .int .u16 0, .int .u16 0, .int .u64 0, .int .u64 0, .int .i64 0, .int .i64 0, .int .i64 0, .bool false, .slice none 0 0, .slice none 0 0], .slice a n c] W (TakPost W x nm0 73 rest E)) :
    Calls Try.prog 40 #[.agg #[.int .i64 x, .int .i64 0, .int .u16 0, .int .u16 0, .int .u64 0, .int .u64 0, .int .i64 0, .int .i64 0, .int .i64 0, .bool false, .slice none 0 0, .slice none 0 0], .slice a n c] w (TakPost w x nm0 73 rest E) := by
  have hf : ∀ W, Calls Try.prog 28 #[.int .i64 x] W (fun e w' => e = .returned (.agg #[.bool true, .bool false, .bool false, .bool false, .bool false, .bool false, .bool false, .bool false, .bool false, .bool false, .bool true]) ∧ Below W.heap.size W w') := fun W => by
    have h := rfields_any x W
    rw [hk] at h
    exact h
  have hz := build_pdu
  have HFf := Lib.hid hf
  have HL := Lib.hid hl
  have hB := ((Below.refl w.heap.size w).alloc (Nat.le_refl _) (.cells #[.int .i64 x, .int .i64 0, .int .u16 0, .int .u16 0, .int .u64 0, .int .u64 0, .int .i64 0, .int .i64 0, .int .i64 0, .bool false, .slice none 0 0, .slice none 0 0] 29)).alloc (by simp) (.cells #[.int .i64 0, .int .i64 0, .int .u16 0, .int .u16 0, .int .u64 0, .int .u64 0, .int .i64 0, .int .i64 0, .int .i64 0, .bool false, .slice none 0 0, .slice none 0 0] 29)
  have bP := (Blk.new w 29 [.int .i64 x, .int .i64 0, .int .u16 0, .int .u16 0, .int .u64 0, .int .u64 0, .int .i64 0, .int .i64 0, .int .i64 0, .bool false, .slice none 0 0, .slice none 0 0]).alloc (.cells #[.int .i64 0, .int .i64 0, .int .u16 0, .int .u16 0, .int .u64 0, .int .u64 0, .int .i64 0, .int .i64 0, .int .i64 0, .bool false, .slice none 0 0, .slice none 0 0] 29)
  have bR := Blk.new (w.alloc (.cells #[.int .i64 x, .int .i64 0, .int .u16 0, .int .u16 0, .int .u64 0, .int .u64 0, .int .i64 0, .int .i64 0, .int .i64 0, .bool false, .slice none 0 0, .slice none 0 0] 29)) 29 [.int .i64 0, .int .i64 0, .int .u16 0, .int .u16 0, .int .u64 0, .int .u64 0, .int .i64 0, .int .i64 0, .int .i64 0, .bool false, .slice none 0 0, .slice none 0 0]
  simp only [World.size_alloc] at bR
  clear hf hk hl
  go_enter Try.func40, Try.ntmps40
  go_upto_region 1 with fail
  generalize World.alloc _ _ = X at bP bR hB ⊢
  have HB := Lib.hid hB
  have HP := Lib.hid bP
  have HR := Lib.hid bR
  have TP := bP.cells
  have hOpen := TP
  simp only [Cells, blk, List.cons_append, List.nil_append, and_true, Nat.reduceAdd, Nat.add_zero, Nat.zero_add] at hOpen
  obtain ⟨y0, y1, y2, y3, y4, y5, y6, y7, y8, y9, yA, yB⟩ := hOpen
  clear TP bP bR hB
  go_wp2_with fail
  refine (HFf.out _).mono ?_
  rintro e w1 ⟨rfl, hB1⟩
  have hal := (Below.refl w1.heap.size w1).alloc (Nat.le_refl _) (.cells #[.bool true, .bool false, .bool false, .bool false, .bool false, .bool false, .bool false, .bool false, .bool false, .bool false, .bool true] 58)
  have bU := Blk.new w1 58 [.bool true, .bool false, .bool false, .bool false, .bool false, .bool false, .bool false, .bool false, .bool false, .bool false, .bool true]
  have hb1 := HB.out.trans (hB1.mono HB.out.size)
  have HX := Lib.hid (And.intro ((HP.out.below hB1).below hal) (And.intro ((HR.out.below hB1).below hal) (hb1.trans (hal.mono hb1.size))))
  clear y0 y1 y2 y3 y4 y5 y6 y7 y8 y9 yA yB hB1 hb1 hal HB HP HR HFf
  go_upto_region 2 with fail
  generalize World.alloc _ _ = Y at HX bU ⊢
  have HP := Lib.hid HX.out.1
  have HR := Lib.hid HX.out.2.1
  have HB := Lib.hid HX.out.2.2
  have TU := bU.cells
  have TP := HP.out.cells
  have hOpen := TU
  simp only [Cells, blk, List.cons_append, List.nil_append, and_true, Nat.reduceAdd, Nat.add_zero, Nat.zero_add] at hOpen
  obtain ⟨u0, u1, u2, u3, u4, u5, u6, u7, u8, u9, uA⟩ := hOpen
  have hOpen := TP
  simp only [Cells, blk, List.cons_append, List.nil_append, and_true, Nat.reduceAdd, Nat.add_zero, Nat.zero_add] at hOpen
  obtain ⟨y0, y1, y2, y3, y4, y5, y6, y7, y8, y9, yA, yB⟩ := hOpen
  clear HX bU TU TP
  go_wp2_with fail
  refine (HL.out _ HB.out).mono ?_
  rintro e w5 ⟨hi, lo, av, nv, cv, bsv, al, m, d, its, he, hB5, hpost⟩
  replace he : e = .returned (.tuple #[.agg #[.int .i64 x, .int .i64 0, .int .u16 0, .int .u16 0, .int .u64 hi, .int .u64 lo, .int .i64 0, .int .i64 0, .int .i64 0, .bool false, .slice av nv cv, .slice al m d], .int .i64 E]) := he
  subst he
  have HPOST := Lib.hid hpost
  have HR5 := Lib.hid (HR.out.below hB5)
  have HB5 := Lib.hid (HB.out.trans (hB5.mono HB.out.size))
  have hYs := HB.out.size
  clear hB5 hpost y0 y1 y2 y3 y4 y5 y6 y7 y8 y9 yA yB u0 u1 u2 u3 u4 u5 u6 u7 u8 u9 uA HP HR HB HL
  have TR := HR5.out.cells
  have hOpen := TR
  simp only [Cells, blk, List.cons_append, List.nil_append, and_true, Nat.reduceAdd, Nat.add_zero, Nat.zero_add] at hOpen
  obtain ⟨s0, s1, s2, s3, s4, s5, s6, s7, s8, s9, sA, sB⟩ := hOpen
  have g0 := HR5.out.frozen 0
  have g1 := HR5.out.frozen 1
  have g2 := HR5.out.frozen 2
  have g3 := HR5.out.frozen 3
  have g4 := HR5.out.frozen 4
  have g5 := HR5.out.frozen 5
  have g6 := HR5.out.frozen 6
  have g7 := HR5.out.frozen 7
  have g8 := HR5.out.frozen 8
  have g9 := HR5.out.frozen 9
  have gA := HR5.out.frozen 10
  have gB := HR5.out.frozen 11
  obtain ⟨b12, h12, o12⟩ := set12 HR5.out (.int .i64 x) (.int .i64 0) (.int .u16 0) (.int .u16 0) (.int .u64 hi) (.int .u64 lo) (.int .i64 0) (.int .i64 0) (.int .i64 0) (.bool false) (.slice av nv cv) (.slice al m d)
  have hpost6 : E = 0 → _ := fun h0 => And.intro (own_base (o12 _ _ _ _ _ _ (by decide) (HPOST.out h0).2.1) hYs) (own_base (o12 _ _ _ _ _ _ (by decide) (HPOST.out h0).2.2.2.2.2.1) hYs)
  have hio6 : E = 0 → ∀ t (ht : t ∈ its), ItOwn _ w.heap.size t := fun h0 t ht => let h := (HPOST.out h0).2.2.2.2.2.2.1 t ht; ItOwn.base (show ItOwn _ Y.heap.size t from ⟨h.1, h.2.1, h.2.2.1, h.2.2.2.1, h.2.2.2.2.1, h.2.2.2.2.2.1, o12 _ _ _ _ _ _ (by decide) h.2.2.2.2.2.2⟩) hYs
  have HF := Lib.hid (And.intro (h12 w.heap.size w (by omega) HB5.out) (And.intro hpost6 hio6))
  obtain ⟨r0, r1, r2, r3, r4, r5, r6, r7, r8, r9, rA, rB, _⟩ := b12.cells
  simp only [Nat.zero_add, Nat.add_zero] at r0 r1 r2 r3 r4 r5 r6 r7 r8 r9 rA rB
  clear TR b12 h12 o12 hpost6 hio6
  go_wp2
  refine bodyPost_ret (v := .tuple #[.agg #[.int .i64 x, .int .i64 0, .int .u16 0, .int .u16 0, .int .u64 hi, .int .u64 lo, .int .i64 0, .int .i64 0, .int .i64 0, .bool false, .slice av nv cv, .slice al m d], .int .i64 E]) (by simp [results, Try.results40, go_sem, r0, r1, r2, r3, r4, r5, r6, r7, r8, r9, rA, rB]) rfl ?_
  refine ⟨hi, lo, av, nv, cv, bsv, al, m, d, its, rfl, HF.out.1, fun h0 => ?_⟩
  obtain ⟨q1, _, q3, q4, q5, _, _, q8, q9, q10⟩ := HPOST.out h0
  exact ⟨q1, (HF.out.2.1 h0).1, q3, q4, q5, (HF.out.2.1 h0).2, HF.out.2.2 h0, q8, q9, q10⟩
end Go.Proofs.Ythnffdlnhfhabaa
namespace Go.Proofs.Ythnffdlnhfhabaa
open Go.RowKit

theorem decP_big (x : Nat) (r : List Nat) (u : List Nat) (hk : fldC (x : Int) = some u) (h : 517 < r.length + 1) : decP (x :: r) = (4, pd0) := by
  simp only [decP, hk]
  rw [if_pos h]
theorem decP_st1 (x : Nat) (r : List Nat) (u : List Nat) (hk : fldC (x : Int) = some u) (h : r.length + 1 ≤ 517) : decP (x :: r) = st1 x (lps u nm0 r) := by
  simp only [decP, hk]
  rw [if_neg (by omega)]
theorem decP_unk (x : Nat) (r : List Nat) (hk : fldC (x : Int) = none) : decP (x :: r) = (12, pd0) := by simp only [decP, hk]
theorem lps_go (c : Nat) (u : List Nat) (s : Nm) (r : List Nat) (k : Nat) (hc : ix c < 7) (hk : si (ix c) = k) (h : k ≤ r.length) (h6 : ix c ≠ 6) : lps (c :: u) s r = lps u (setN s (ix c) (vnum (r.take k))) (r.drop k) := by
  rw [lps, if_pos hc, hk, if_neg (by omega), if_neg (by rintro ⟨h, _⟩; exact h6 h)]
theorem lps_cut (c : Nat) (u : List Nat) (s : Nm) (r : List Nat) (k : Nat) (hc : ix c < 7) (hk : si (ix c) = k) (h : r.length < k) : (lps (c :: u) s r).1 = 3 := by
  rw [lps, if_pos hc, hk, if_pos h]
theorem st1_three (x : Int) (q : Int × Nm × Nat × List Nat) (h : q.1 = 3) : st1 x q = (3, pd0) := by
  unfold st1
  rw [h, if_pos (by decide)]
theorem st2_long (x : Int) (s : Nm) (r : List Nat) (h : 0 < r.length) : st2 x s 0 r = (2, pd0) := by
  unfold st2
  have : remE x 0 r = 2 := by
    unfold remE
    rw [if_neg (by decide), if_neg (by decide), if_neg (by decide)]
    cases r with
    | nil => simp at h
    | cons y l => rfl
  rw [this, if_pos (by decide)]
theorem st2_rem (x : Int) (s : Nm) (c : Nat) (r : List Nat) (E : Int) (h : remE x c r = E) : st2 x s c r = if E ≠ 0 then (E, pd0) else if chkD (pdOf x s c r) ≠ 0 then (chkD (pdOf x s c r), pd0) else (0, pdOf x s c r) := by
  unfold st2
  rw [h]
theorem drop_cons (x : Nat) (r : List Nat) (k : Nat) : (x :: r).drop (k + 1) = r.drop k := rfl
theorem dshort_AHC (x : Nat) (b r : List Nat) (hb : b = x :: r) (hk : fldC (x : Int) = some [65, 72, 67]) (hl : b.length ≤ 517) (h : b.length < 5) : decP b = (3, pd0) := by
  subst hb
  rw [List.length_cons] at hl h
  rw [decP_st1 x r _ hk hl]
  refine st1_three _ _ ?_
  by_cases q0 : r.length < 1
  · exact lps_cut 65 _ _ _ 1 (by decide) rfl q0
  rw [lps_go 65 _ _ _ 1 (by decide) rfl (by omega) (by decide)]
  by_cases q1 : r.length < 3
  · exact lps_cut 72 _ _ _ 2 (by decide) rfl (by simp; omega)
  rw [lps_go 72 _ _ _ 2 (by decide) rfl (by simp; omega) (by decide)]
  exact lps_cut 67 _ _ _ 1 (by decide) rfl (by simp; omega)
theorem dlong_AHC (x : Nat) (b r : List Nat) (hb : b = x :: r) (hk : fldC (x : Int) = some [65, 72, 67]) (hl : b.length ≤ 517) (h : 5 < b.length) : decP b = (2, pd0) := by
  subst hb
  rw [List.length_cons] at hl h
  rw [decP_st1 x r _ hk hl]
  rw [lps_go 65 _ _ _ 1 (by decide) rfl (by omega) (by decide)]
  rw [lps_go 72 _ _ _ 2 (by decide) rfl (by simp; omega) (by decide)]
  rw [lps_go 67 _ _ _ 1 (by decide) rfl (by simp; omega) (by decide)]
  unfold st1
  rw [if_neg (by simp [lps])]
  exact st2_long _ _ _ (by simp [lps]; omega)
set_option linter.unusedSimpArgs false in
theorem dfull_AHC (x : Nat) (b r : List Nat) (hb : b = x :: r) (hk : fldC (x : Int) = some [65, 72, 67]) (hl : b.length ≤ 517) (h : 5 ≤ b.length) (he : b.length = 5) : decP b = if 0 ≠ 0 then (0, pd0) else if chkD (pdOf x ⟨((vnum ((b.drop 1).take 1) : Nat) : Int), vnum ((b.drop 2).take 2), 0, 0, 0, ((vnum ((b.drop 4).take 1) : Nat) : Int), false⟩ 0 (b.drop 5)) ≠ 0 then (chkD (pdOf x ⟨((vnum ((b.drop 1).take 1) : Nat) : Int), vnum ((b.drop 2).take 2), 0, 0, 0, ((vnum ((b.drop 4).take 1) : Nat) : Int), false⟩ 0 (b.drop 5)), pd0) else (0, pdOf x ⟨((vnum ((b.drop 1).take 1) : Nat) : Int), vnum ((b.drop 2).take 2), 0, 0, 0, ((vnum ((b.drop 4).take 1) : Nat) : Int), false⟩ 0 (b.drop 5)) := by
  subst hb
  rw [List.length_cons] at hl h he
  rw [decP_st1 x r _ hk hl]
  rw [lps_go 65 _ _ _ 1 (by decide) rfl (by omega) (by decide)]
  rw [lps_go 72 _ _ _ 2 (by decide) rfl (by simp; omega) (by decide)]
  rw [lps_go 67 _ _ _ 1 (by decide) rfl (by simp; omega) (by decide)]
  unfold st1
  rw [if_neg (by simp [lps])]
  refine Eq.trans ?_ (st2_rem x ⟨((vnum (((x :: r).drop 1).take 1) : Nat) : Int), vnum (((x :: r).drop 2).take 2), 0, 0, 0, ((vnum (((x :: r).drop 4).take 1) : Nat) : Int), false⟩ 0 ((x :: r).drop 5) 0 (by have : (x :: r).drop 5 = [] := List.drop_of_length_le (by rw [List.length_cons]; omega); rw [this]; rfl))
  simp [lps, setN, nm0, ix, leF, List.idxOf_cons]
theorem dshort_M (x : Nat) (b r : List Nat) (hb : b = x :: r) (hk : fldC (x : Int) = some [77]) (hl : b.length ≤ 517) (h : b.length < 3) : decP b = (3, pd0) := by
  subst hb
  rw [List.length_cons] at hl h
  rw [decP_st1 x r _ hk hl]
  refine st1_three _ _ ?_
  exact lps_cut 77 _ _ _ 2 (by decide) rfl (by omega)
theorem dlong_M (x : Nat) (b r : List Nat) (hb : b = x :: r) (hk : fldC (x : Int) = some [77]) (hl : b.length ≤ 517) (h : 3 < b.length) : decP b = (2, pd0) := by
  subst hb
  rw [List.length_cons] at hl h
  rw [decP_st1 x r _ hk hl]
  rw [lps_go 77 _ _ _ 2 (by decide) rfl (by omega) (by decide)]
  unfold st1
  rw [if_neg (by simp [lps])]
  exact st2_long _ _ _ (by simp [lps]; omega)
set_option linter.unusedSimpArgs false in
theorem dfull_M (x : Nat) (b r : List Nat) (hb : b = x :: r) (hk : fldC (x : Int) = some [77]) (hl : b.length ≤ 517) (h : 3 ≤ b.length) (he : b.length = 3) : decP b = if 0 ≠ 0 then (0, pd0) else if chkD (pdOf x ⟨0, 0, 0, 0, ((vnum ((b.drop 1).take 2) : Nat) : Int), 0, false⟩ 0 (b.drop 3)) ≠ 0 then (chkD (pdOf x ⟨0, 0, 0, 0, ((vnum ((b.drop 1).take 2) : Nat) : Int), 0, false⟩ 0 (b.drop 3)), pd0) else (0, pdOf x ⟨0, 0, 0, 0, ((vnum ((b.drop 1).take 2) : Nat) : Int), 0, false⟩ 0 (b.drop 3)) := by
  subst hb
  rw [List.length_cons] at hl h he
  rw [decP_st1 x r _ hk hl]
  rw [lps_go 77 _ _ _ 2 (by decide) rfl (by omega) (by decide)]
  unfold st1
  rw [if_neg (by simp [lps])]
  refine Eq.trans ?_ (st2_rem x ⟨0, 0, 0, 0, ((vnum (((x :: r).drop 1).take 2) : Nat) : Int), 0, false⟩ 0 ((x :: r).drop 3) 0 (by have : (x :: r).drop 3 = [] := List.drop_of_length_le (by rw [List.length_cons]; omega); rw [this]; rfl))
  simp [lps, setN, nm0, ix, leF, List.idxOf_cons]
theorem dshort_HL (x : Nat) (b r : List Nat) (hb : b = x :: r) (hk : fldC (x : Int) = some [72, 76]) (hl : b.length ≤ 517) (h : b.length < 5) : decP b = (3, pd0) := by
  subst hb
  rw [List.length_cons] at hl h
  rw [decP_st1 x r _ hk hl]
  refine st1_three _ _ ?_
  by_cases q0 : r.length < 2
  · exact lps_cut 72 _ _ _ 2 (by decide) rfl q0
  rw [lps_go 72 _ _ _ 2 (by decide) rfl (by omega) (by decide)]
  exact lps_cut 76 _ _ _ 2 (by decide) rfl (by simp; omega)
theorem dlong_HL (x : Nat) (b r : List Nat) (hb : b = x :: r) (hk : fldC (x : Int) = some [72, 76]) (hl : b.length ≤ 517) (h : 5 < b.length) : decP b = (2, pd0) := by
  subst hb
  rw [List.length_cons] at hl h
  rw [decP_st1 x r _ hk hl]
  rw [lps_go 72 _ _ _ 2 (by decide) rfl (by omega) (by decide)]
  rw [lps_go 76 _ _ _ 2 (by decide) rfl (by simp; omega) (by decide)]
  unfold st1
  rw [if_neg (by simp [lps])]
  exact st2_long _ _ _ (by simp [lps]; omega)
set_option linter.unusedSimpArgs false in
theorem dfull_HL (x : Nat) (b r : List Nat) (hb : b = x :: r) (hk : fldC (x : Int) = some [72, 76]) (hl : b.length ≤ 517) (h : 5 ≤ b.length) (he : b.length = 5) : decP b = if 0 ≠ 0 then (0, pd0) else if chkD (pdOf x ⟨0, vnum ((b.drop 1).take 2), vnum ((b.drop 3).take 2), 0, 0, 0, false⟩ 0 (b.drop 5)) ≠ 0 then (chkD (pdOf x ⟨0, vnum ((b.drop 1).take 2), vnum ((b.drop 3).take 2), 0, 0, 0, false⟩ 0 (b.drop 5)), pd0) else (0, pdOf x ⟨0, vnum ((b.drop 1).take 2), vnum ((b.drop 3).take 2), 0, 0, 0, false⟩ 0 (b.drop 5)) := by
  subst hb
  rw [List.length_cons] at hl h he
  rw [decP_st1 x r _ hk hl]
  rw [lps_go 72 _ _ _ 2 (by decide) rfl (by omega) (by decide)]
  rw [lps_go 76 _ _ _ 2 (by decide) rfl (by simp; omega) (by decide)]
  unfold st1
  rw [if_neg (by simp [lps])]
  refine Eq.trans ?_ (st2_rem x ⟨0, vnum (((x :: r).drop 1).take 2), vnum (((x :: r).drop 3).take 2), 0, 0, 0, false⟩ 0 ((x :: r).drop 5) 0 (by have : (x :: r).drop 5 = [] := List.drop_of_length_le (by rw [List.length_cons]; omega); rw [this]; rfl))
  simp [lps, setN, nm0, ix, leF, List.idxOf_cons]
theorem dshort_HLT (x : Nat) (b r : List Nat) (hb : b = x :: r) (hk : fldC (x : Int) = some [72, 76, 84]) (hl : b.length ≤ 517) (h : b.length < 5) : decP b = (3, pd0) := by
  subst hb
  rw [List.length_cons] at hl h
  rw [decP_st1 x r _ hk hl]
  refine st1_three _ _ ?_
  by_cases q0 : r.length < 2
  · exact lps_cut 72 _ _ _ 2 (by decide) rfl q0
  rw [lps_go 72 _ _ _ 2 (by decide) rfl (by omega) (by decide)]
  exact lps_cut 76 _ _ _ 2 (by decide) rfl (by simp; omega)
set_option linter.unusedSimpArgs false in
theorem dfull_HLT (x : Nat) (b r : List Nat) (hb : b = x :: r) (hk : fldC (x : Int) = some [72, 76, 84]) (hl : b.length ≤ 517) (h : 5 ≤ b.length) : decP b = if (remE x 84 (b.drop 5)) ≠ 0 then ((remE x 84 (b.drop 5)), pd0) else if chkD (pdOf x ⟨0, vnum ((b.drop 1).take 2), vnum ((b.drop 3).take 2), 0, 0, 0, false⟩ 84 (b.drop 5)) ≠ 0 then (chkD (pdOf x ⟨0, vnum ((b.drop 1).take 2), vnum ((b.drop 3).take 2), 0, 0, 0, false⟩ 84 (b.drop 5)), pd0) else (0, pdOf x ⟨0, vnum ((b.drop 1).take 2), vnum ((b.drop 3).take 2), 0, 0, 0, false⟩ 84 (b.drop 5)) := by
  subst hb
  rw [List.length_cons] at hl h
  rw [decP_st1 x r _ hk hl]
  rw [lps_go 72 _ _ _ 2 (by decide) rfl (by omega) (by decide)]
  rw [lps_go 76 _ _ _ 2 (by decide) rfl (by simp; omega) (by decide)]
  rw [lps_rest' 84 _ _ (by decide)]
  unfold st1
  rw [if_neg (by simp [lps])]
  refine Eq.trans ?_ (st2_rem x ⟨0, vnum (((x :: r).drop 1).take 2), vnum (((x :: r).drop 3).take 2), 0, 0, 0, false⟩ 84 ((x :: r).drop 5) (remE x 84 ((x :: r).drop 5)) rfl)
  simp [lps, setN, nm0, ix, leF, List.idxOf_cons]
theorem dshort_H (x : Nat) (b r : List Nat) (hb : b = x :: r) (hk : fldC (x : Int) = some [72]) (hl : b.length ≤ 517) (h : b.length < 3) : decP b = (3, pd0) := by
  subst hb
  rw [List.length_cons] at hl h
  rw [decP_st1 x r _ hk hl]
  refine st1_three _ _ ?_
  exact lps_cut 72 _ _ _ 2 (by decide) rfl (by omega)
theorem dlong_H (x : Nat) (b r : List Nat) (hb : b = x :: r) (hk : fldC (x : Int) = some [72]) (hl : b.length ≤ 517) (h : 3 < b.length) : decP b = (2, pd0) := by
  subst hb
  rw [List.length_cons] at hl h
  rw [decP_st1 x r _ hk hl]
  rw [lps_go 72 _ _ _ 2 (by decide) rfl (by omega) (by decide)]
  unfold st1
  rw [if_neg (by simp [lps])]
  exact st2_long _ _ _ (by simp [lps]; omega)
set_option linter.unusedSimpArgs false in
theorem dfull_H (x : Nat) (b r : List Nat) (hb : b = x :: r) (hk : fldC (x : Int) = some [72]) (hl : b.length ≤ 517) (h : 3 ≤ b.length) (he : b.length = 3) : decP b = if 0 ≠ 0 then (0, pd0) else if chkD (pdOf x ⟨0, vnum ((b.drop 1).take 2), 0, 0, 0, 0, false⟩ 0 (b.drop 3)) ≠ 0 then (chkD (pdOf x ⟨0, vnum ((b.drop 1).take 2), 0, 0, 0, 0, false⟩ 0 (b.drop 3)), pd0) else (0, pdOf x ⟨0, vnum ((b.drop 1).take 2), 0, 0, 0, 0, false⟩ 0 (b.drop 3)) := by
  subst hb
  rw [List.length_cons] at hl h he
  rw [decP_st1 x r _ hk hl]
  rw [lps_go 72 _ _ _ 2 (by decide) rfl (by omega) (by decide)]
  unfold st1
  rw [if_neg (by simp [lps])]
  refine Eq.trans ?_ (st2_rem x ⟨0, vnum (((x :: r).drop 1).take 2), 0, 0, 0, 0, false⟩ 0 ((x :: r).drop 3) 0 (by have : (x :: r).drop 3 = [] := List.drop_of_length_le (by rw [List.length_cons]; omega); rw [this]; rfl))
  simp [lps, setN, nm0, ix, leF, List.idxOf_cons]
theorem dshort_HO (x : Nat) (b r : List Nat) (hb : b = x :: r) (hk : fldC (x : Int) = some [72, 79]) (hl : b.length ≤ 517) (h : b.length < 5) : decP b = (3, pd0) := by
  subst hb
  rw [List.length_cons] at hl h
  rw [decP_st1 x r _ hk hl]
  refine st1_three _ _ ?_
  by_cases q0 : r.length < 2
  · exact lps_cut 72 _ _ _ 2 (by decide) rfl q0
  rw [lps_go 72 _ _ _ 2 (by decide) rfl (by omega) (by decide)]
  exact lps_cut 79 _ _ _ 2 (by decide) rfl (by simp; omega)
theorem dlong_HO (x : Nat) (b r : List Nat) (hb : b = x :: r) (hk : fldC (x : Int) = some [72, 79]) (hl : b.length ≤ 517) (h : 5 < b.length) : decP b = (2, pd0) := by
  subst hb
  rw [List.length_cons] at hl h
  rw [decP_st1 x r _ hk hl]
  rw [lps_go 72 _ _ _ 2 (by decide) rfl (by omega) (by decide)]
  rw [lps_go 79 _ _ _ 2 (by decide) rfl (by simp; omega) (by decide)]
  unfold st1
  rw [if_neg (by simp [lps])]
  exact st2_long _ _ _ (by simp [lps]; omega)
set_option linter.unusedSimpArgs false in
theorem dfull_HO (x : Nat) (b r : List Nat) (hb : b = x :: r) (hk : fldC (x : Int) = some [72, 79]) (hl : b.length ≤ 517) (h : 5 ≤ b.length) (he : b.length = 5) : decP b = if 0 ≠ 0 then (0, pd0) else if chkD (pdOf x ⟨0, vnum ((b.drop 1).take 2), 0, ((vnum ((b.drop 3).take 2) : Nat) : Int), 0, 0, false⟩ 0 (b.drop 5)) ≠ 0 then (chkD (pdOf x ⟨0, vnum ((b.drop 1).take 2), 0, ((vnum ((b.drop 3).take 2) : Nat) : Int), 0, 0, false⟩ 0 (b.drop 5)), pd0) else (0, pdOf x ⟨0, vnum ((b.drop 1).take 2), 0, ((vnum ((b.drop 3).take 2) : Nat) : Int), 0, 0, false⟩ 0 (b.drop 5)) := by
  subst hb
  rw [List.length_cons] at hl h he
  rw [decP_st1 x r _ hk hl]
  rw [lps_go 72 _ _ _ 2 (by decide) rfl (by omega) (by decide)]
  rw [lps_go 79 _ _ _ 2 (by decide) rfl (by simp; omega) (by decide)]
  unfold st1
  rw [if_neg (by simp [lps])]
  refine Eq.trans ?_ (st2_rem x ⟨0, vnum (((x :: r).drop 1).take 2), 0, ((vnum (((x :: r).drop 3).take 2) : Nat) : Int), 0, 0, false⟩ 0 ((x :: r).drop 5) 0 (by have : (x :: r).drop 5 = [] := List.drop_of_length_le (by rw [List.length_cons]; omega); rw [this]; rfl))
  simp [lps, setN, nm0, ix, leF, List.idxOf_cons]
set_option linter.unusedSimpArgs false in
theorem dfull_V (x : Nat) (b r : List Nat) (hb : b = x :: r) (hk : fldC (x : Int) = some [86]) (hl : b.length ≤ 517) (h : 1 ≤ b.length) : decP b = if (remE x 86 (b.drop 1)) ≠ 0 then ((remE x 86 (b.drop 1)), pd0) else if chkD (pdOf x ⟨0, 0, 0, 0, 0, 0, false⟩ 86 (b.drop 1)) ≠ 0 then (chkD (pdOf x ⟨0, 0, 0, 0, 0, 0, false⟩ 86 (b.drop 1)), pd0) else (0, pdOf x ⟨0, 0, 0, 0, 0, 0, false⟩ 86 (b.drop 1)) := by
  subst hb
  rw [List.length_cons] at hl h
  rw [decP_st1 x r _ hk hl]
  rw [lps_rest' 86 _ _ (by decide)]
  unfold st1
  rw [if_neg (by simp [lps])]
  refine Eq.trans ?_ (st2_rem x ⟨0, 0, 0, 0, 0, 0, false⟩ 86 ((x :: r).drop 1) (remE x 86 ((x :: r).drop 1)) rfl)
  simp [lps, setN, nm0, ix, leF, List.idxOf_cons]
theorem dshort_HV (x : Nat) (b r : List Nat) (hb : b = x :: r) (hk : fldC (x : Int) = some [72, 86]) (hl : b.length ≤ 517) (h : b.length < 3) : decP b = (3, pd0) := by
  subst hb
  rw [List.length_cons] at hl h
  rw [decP_st1 x r _ hk hl]
  refine st1_three _ _ ?_
  exact lps_cut 72 _ _ _ 2 (by decide) rfl (by omega)
set_option linter.unusedSimpArgs false in
theorem dfull_HV (x : Nat) (b r : List Nat) (hb : b = x :: r) (hk : fldC (x : Int) = some [72, 86]) (hl : b.length ≤ 517) (h : 3 ≤ b.length) : decP b = if (remE x 86 (b.drop 3)) ≠ 0 then ((remE x 86 (b.drop 3)), pd0) else if chkD (pdOf x ⟨0, vnum ((b.drop 1).take 2), 0, 0, 0, 0, false⟩ 86 (b.drop 3)) ≠ 0 then (chkD (pdOf x ⟨0, vnum ((b.drop 1).take 2), 0, 0, 0, 0, false⟩ 86 (b.drop 3)), pd0) else (0, pdOf x ⟨0, vnum ((b.drop 1).take 2), 0, 0, 0, 0, false⟩ 86 (b.drop 3)) := by
  subst hb
  rw [List.length_cons] at hl h
  rw [decP_st1 x r _ hk hl]
  rw [lps_go 72 _ _ _ 2 (by decide) rfl (by omega) (by decide)]
  rw [lps_rest' 86 _ _ (by decide)]
  unfold st1
  rw [if_neg (by simp [lps])]
  refine Eq.trans ?_ (st2_rem x ⟨0, vnum (((x :: r).drop 1).take 2), 0, 0, 0, 0, false⟩ 86 ((x :: r).drop 3) (remE x 86 ((x :: r).drop 3)) rfl)
  simp [lps, setN, nm0, ix, leF, List.idxOf_cons]
theorem dshort_HOV (x : Nat) (b r : List Nat) (hb : b = x :: r) (hk : fldC (x : Int) = some [72, 79, 86]) (hl : b.length ≤ 517) (h : b.length < 5) : decP b = (3, pd0) := by
  subst hb
  rw [List.length_cons] at hl h
  rw [decP_st1 x r _ hk hl]
  refine st1_three _ _ ?_
  by_cases q0 : r.length < 2
  · exact lps_cut 72 _ _ _ 2 (by decide) rfl q0
  rw [lps_go 72 _ _ _ 2 (by decide) rfl (by omega) (by decide)]
  exact lps_cut 79 _ _ _ 2 (by decide) rfl (by simp; omega)
set_option linter.unusedSimpArgs false in
theorem dfull_HOV (x : Nat) (b r : List Nat) (hb : b = x :: r) (hk : fldC (x : Int) = some [72, 79, 86]) (hl : b.length ≤ 517) (h : 5 ≤ b.length) : decP b = if (remE x 86 (b.drop 5)) ≠ 0 then ((remE x 86 (b.drop 5)), pd0) else if chkD (pdOf x ⟨0, vnum ((b.drop 1).take 2), 0, ((vnum ((b.drop 3).take 2) : Nat) : Int), 0, 0, false⟩ 86 (b.drop 5)) ≠ 0 then (chkD (pdOf x ⟨0, vnum ((b.drop 1).take 2), 0, ((vnum ((b.drop 3).take 2) : Nat) : Int), 0, 0, false⟩ 86 (b.drop 5)), pd0) else (0, pdOf x ⟨0, vnum ((b.drop 1).take 2), 0, ((vnum ((b.drop 3).take 2) : Nat) : Int), 0, 0, false⟩ 86 (b.drop 5)) := by
  subst hb
  rw [List.length_cons] at hl h
  rw [decP_st1 x r _ hk hl]
  rw [lps_go 72 _ _ _ 2 (by decide) rfl (by omega) (by decide)]
  rw [lps_go 79 _ _ _ 2 (by decide) rfl (by simp; omega) (by decide)]
  rw [lps_rest' 86 _ _ (by decide)]
  unfold st1
  rw [if_neg (by simp [lps])]
  refine Eq.trans ?_ (st2_rem x ⟨0, vnum (((x :: r).drop 1).take 2), 0, ((vnum (((x :: r).drop 3).take 2) : Nat) : Int), 0, 0, false⟩ 86 ((x :: r).drop 5) (remE x 86 ((x :: r).drop 5)) rfl)
  simp [lps, setN, nm0, ix, leF, List.idxOf_cons]
theorem dshort_X (x : Nat) (b r : List Nat) (hb : b = x :: r) (hk : fldC (x : Int) = some [88]) (hl : b.length ≤ 517) (h : b.length < 2) : decP b = (3, pd0) := by
  subst hb
  rw [List.length_cons] at hl h
  rw [decP_st1 x r _ hk hl]
  refine st1_three _ _ ?_
  exact lps_cut 88 _ _ _ 1 (by decide) rfl (by omega)
theorem dlong_X (x : Nat) (b r : List Nat) (hb : b = x :: r) (hk : fldC (x : Int) = some [88]) (hl : b.length ≤ 517) (h : 2 < b.length) : decP b = (2, pd0) := by
  subst hb
  rw [List.length_cons] at hl h
  rw [decP_st1 x r _ hk hl]
  have hsx : si (ix 88) = 1 := rfl
  rw [lps, if_pos (by decide), hsx, if_neg (show ¬ r.length < 1 by omega), if_neg (by rintro ⟨_, _, h3⟩; omega)]
  unfold st1
  rw [if_neg (by simp [lps])]
  exact st2_long _ _ _ (by show 0 < (r.drop 1).length; simp; omega)
set_option linter.unusedSimpArgs false in
theorem dfull_X (x : Nat) (b r : List Nat) (hb : b = x :: r) (hk : fldC (x : Int) = some [88]) (hl : b.length ≤ 517) (h : 2 ≤ b.length) (he : b.length = 2) : decP b = if (if 1 < vnum ((b.drop 1).take 1) then (2 : Int) else 0) ≠ 0 then ((if 1 < vnum ((b.drop 1).take 1) then (2 : Int) else 0), pd0) else if chkD (pdOf x ⟨0, 0, 0, 0, 0, 0, (((vnum ((b.drop 1).take 1) : Nat) : Int) == 1)⟩ 0 (b.drop 2)) ≠ 0 then (chkD (pdOf x ⟨0, 0, 0, 0, 0, 0, (((vnum ((b.drop 1).take 1) : Nat) : Int) == 1)⟩ 0 (b.drop 2)), pd0) else (0, pdOf x ⟨0, 0, 0, 0, 0, 0, (((vnum ((b.drop 1).take 1) : Nat) : Int) == 1)⟩ 0 (b.drop 2)) := by
  subst hb
  rw [List.length_cons] at hl h he
  rw [decP_st1 x r _ hk hl]
  generalize hV0 : vnum (((x :: r).drop 1).take 1) = V0
  have hV1 : vnum (r.take 1) = V0 := hV0
  have hsx : si (ix 88) = 1 := rfl
  have hx6 : ix 88 = 6 := rfl
  have hr2 : (x :: r).drop 2 = [] := List.drop_of_length_le (by rw [List.length_cons]; omega)
  rw [lps, if_pos (by decide), hsx, if_neg (show ¬ r.length < 1 by omega), hV1, hr2]
  by_cases hv : 1 < V0
  · have e2 : (if 1 < V0 then (2 : Int) else 0) = 2 := if_pos hv
    rw [if_pos (show ix 88 = 6 ∧ 1 < V0 ∧ r.length = 1 from ⟨hx6, hv, by omega⟩), e2, if_pos (show (2 : Int) ≠ 0 by decide)]
    rfl
  · have e2 : (if 1 < V0 then (2 : Int) else 0) = 0 := if_neg hv
    rw [if_neg (by rintro ⟨_, h2, _⟩; exact hv h2), e2]
    have hr1 : r.drop 1 = [] := List.drop_of_length_le (by omega)
    rw [hr1]
    exact st2_rem x _ 0 [] 0 rfl
theorem dlong_n (x : Nat) (b r : List Nat) (hb : b = x :: r) (hk : fldC (x : Int) = some []) (hl : b.length ≤ 517) (h : 1 < b.length) : decP b = (2, pd0) := by
  subst hb
  rw [List.length_cons] at hl h
  rw [decP_st1 x r _ hk hl]
  unfold st1
  rw [if_neg (by simp [lps])]
  exact st2_long _ _ _ (by simp [lps]; omega)
set_option linter.unusedSimpArgs false in
theorem dfull_n (x : Nat) (b r : List Nat) (hb : b = x :: r) (hk : fldC (x : Int) = some []) (hl : b.length ≤ 517) (h : 1 ≤ b.length) (he : b.length = 1) : decP b = if 0 ≠ 0 then (0, pd0) else if chkD (pdOf x ⟨0, 0, 0, 0, 0, 0, false⟩ 0 (b.drop 1)) ≠ 0 then (chkD (pdOf x ⟨0, 0, 0, 0, 0, 0, false⟩ 0 (b.drop 1)), pd0) else (0, pdOf x ⟨0, 0, 0, 0, 0, 0, false⟩ 0 (b.drop 1)) := by
  subst hb
  rw [List.length_cons] at hl h he
  rw [decP_st1 x r _ hk hl]
  unfold st1
  rw [if_neg (by simp [lps])]
  refine Eq.trans ?_ (st2_rem x ⟨0, 0, 0, 0, 0, 0, false⟩ 0 ((x :: r).drop 1) 0 (by have : (x :: r).drop 1 = [] := List.drop_of_length_le (by rw [List.length_cons]; omega); rw [this]; rfl))
  simp [lps, setN, nm0, ix, leF, List.idxOf_cons]
theorem dshort_I (x : Nat) (b r : List Nat) (hb : b = x :: r) (hk : fldC (x : Int) = some [73]) (hl : b.length ≤ 517) (h : b.length < 2) : decP b = (3, pd0) := by
  subst hb
  rw [List.length_cons] at hl h
  rw [decP_st1 x r _ hk hl]
  have : r = [] := List.eq_nil_of_length_eq_zero (by omega)
  subst this
  rfl
set_option linter.unusedSimpArgs false in
theorem dfull_I (x : Nat) (b r : List Nat) (hb : b = x :: r) (hk : fldC (x : Int) = some [73]) (hl : b.length ≤ 517) (h : 2 ≤ b.length) : decP b = if (remE x 73 (b.drop 1)) ≠ 0 then ((remE x 73 (b.drop 1)), pd0) else if chkD (pdOf x ⟨0, 0, 0, 0, 0, 0, false⟩ 73 (b.drop 1)) ≠ 0 then (chkD (pdOf x ⟨0, 0, 0, 0, 0, 0, false⟩ 73 (b.drop 1)), pd0) else (0, pdOf x ⟨0, 0, 0, 0, 0, 0, false⟩ 73 (b.drop 1)) := by
  subst hb
  rw [List.length_cons] at hl h
  rw [decP_st1 x r _ hk hl]
  rw [lps_rest' 73 _ _ (by decide)]
  unfold st1
  rw [if_neg (by simp [lps])]
  refine Eq.trans ?_ (st2_rem x ⟨0, 0, 0, 0, 0, 0, false⟩ 73 ((x :: r).drop 1) (remE x 73 ((x :: r).drop 1)) rfl)
  simp [lps, setN, nm0, ix, leF, List.idxOf_cons]
end Go.Proofs.Ythnffdlnhfhabaa
