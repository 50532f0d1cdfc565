/- attpdu: the reference: Encode. attpdu: the reference: Encode. attpdu: the reference: Encode. -/
import Derived.Test.YthnffdlnhfhabaaAtX
namespace Go.Proofs.Ythnffdlnhfhabaa
open Go.RowKit

set_option linter.unusedSimpArgs false in
set_option linter.unusedVariables false in
set_option maxRecDepth 100000 in
set_option maxHeartbeats 4000000 in
theorem renc_AHC (ki : Int) (hk : fldC ki = some [65, 72, 67]) (ak : Nat) (ha la hi lo : Nat) (of : Int) (mt : Int) (co : Nat) (cm : Bool) (a1 a2 : Option Addr) (n c m d : Nat) (bs : List Nat) (its : List It) (w : World) (hval : BytesAt w (.slice a1 n c) bs) (hn : bs.length = n) (hnb : n ≤ 1000000) (hha : ha < 65536) (hla : la < 65536) (hhi : hi < 18446744073709551616) (hlo : lo < 18446744073709551616) (hak : ak < 65536) (hco : co < 65536) (hbs : bs = [])
    (hck : ∀ W, Below w.heap.size w W → Calls Try.prog 13 #[.agg #[.int .i64 ki, .int .i64 (ak : Nat), .int .u16 ha, .int .u16 la, .int .u64 hi, .int .u64 lo, .int .i64 of, .int .i64 mt, .int .i64 (co : Nat), .bool cm, .slice a1 n c, .slice a2 m d]] W fun e w' => e = .returned (.int .i64 0) ∧ Below W.heap.size W w') :
    Calls Try.prog 15 #[.agg #[.int .i64 ki, .int .i64 (ak : Nat), .int .u16 ha, .int .u16 la, .int .u64 hi, .int .u64 lo, .int .i64 of, .int .i64 mt, .int .i64 (co : Nat), .bool cm, .slice a1 n c, .slice a2 m d]] w fun e w' => ∃ v, e = .returned (.tuple #[v, .int .i64 0]) ∧ BytesAt w' v (encP ki ak ha la hi lo of mt co cm bs its) ∧ Below w.heap.size w w' := by
  obtain ⟨i0, hii, hz0, hz1, hz2⟩ := info_parts Try.info_u8
  have hf : ∀ W, Calls Try.prog 28 #[.int .i64 ki] W (fun e w' => e = .returned (.agg #[.bool true, .bool true, .bool true, .bool false, .bool false, .bool false, .bool false, .bool true, .bool false, .bool false, .bool false]) ∧ Below W.heap.size W w') := fun W => by
    have h := rfields_any ki W
    rw [hk] at h
    exact h
  obtain ⟨K, hKK⟩ := fldC_nat ki hk
  have hb0 : IntKind.u8.wrap ki = ((byt K 0 : Nat) : Int) := by rw [hKK]; exact byt0 K
  have hkt : ki.toNat = K := by rw [hKK]; rfl
  obtain ⟨R, hR⟩ : ∃ R, encP ki ak ha la hi lo of mt co cm bs its = R := ⟨_, rfl⟩
  have hres : R = [byt K 0] ++ putB ak 1 ++ putB ha 2 ++ putB co 1 ++ bs := by
    rw [← hR]
    unfold encP
    rw [hk]
    subst hbs
    simp [flB, ix, leF, fiB, gI, si, siF, List.idxOf_cons, hkt]
  rw [hR]
  have hRl : ∀ x ∈ R, x < 256 := by
    intro x hx
    have hv := hval.2.2 x
    have he := encB_lt hi lo x
    have hp := fun N j => putB_lt N j x
    rw [hres] at hx
    simp only [List.mem_append, List.mem_singleton] at hx
    rcases hx with (((h | h) | h) | h) | h
    all_goals first
    | (subst h; exact byt_lt _ _)
    | exact hv h
    | exact he h
    | exact hp _ _ h
  have hB := (Below.refl w.heap.size w).alloc (Nat.le_refl _) (.cells #[.int .i64 ki, .int .i64 (ak : Nat), .int .u16 ha, .int .u16 la, .int .u64 hi, .int .u64 lo, .int .i64 of, .int .i64 mt, .int .i64 (co : Nat), .bool cm, .slice a1 n c, .slice a2 m d] 29)
  have bP := Blk.new w 29 [.int .i64 ki, .int .i64 (ak : Nat), .int .u16 ha, .int .u16 la, .int .u64 hi, .int .u64 lo, .int .i64 of, .int .i64 mt, .int .i64 (co : Nat), .bool cm, .slice a1 n c, .slice a2 m d]
  have e1 : IntKind.u8.wrap (ak : Int) = ((byt ak 0 : Nat) : Int) := byt0 ak
  have HPH := Lib.hid (fun W => put_any ha 2 (by omega) (by omega) W)
  have e2 : IntKind.u8.wrap (co : Int) = ((byt co 0 : Nat) : Int) := byt0 co
  have b1 : (ha : Int) < 65536 := by omega
  have b2 : (la : Int) < 65536 := by omega
  have HRES := Lib.hid hres
  have HRL := Lib.hid hRl
  have HV := Lib.hid hval
  have HN := Lib.hid hn
  have HF := Lib.hid hf
  have HCK := Lib.hid hck
  clear hkt hKK hres hRl hval hn hf hck hR hk hhi hlo hha hla hbs
  go_enter Try.func15, Try.ntmps15
  go_upto_region 1 with fail
  generalize World.alloc _ _ = V at bP hB ⊢
  have HBP := Lib.hid bP
  have HB := Lib.hid hB
  have TP := bP.cells
  have hOpen := TP
  simp only [Cells, blk, List.cons_append, List.nil_append, and_true, Nat.reduceAdd, Nat.add_zero, Nat.zero_add] at hOpen
  obtain ⟨y0, y1, y2, y3, y4, y5, y6, y7, y8, y9, yA, yB⟩ := hOpen
  clear TP bP hB
  go_wp2_with fail
  refine (HCK.out _ HB.out).mono ?_
  rintro e w1 ⟨rfl, hB1⟩
  have HBP1 := Lib.hid (HBP.out.below hB1)
  have HB1 := Lib.hid (HB.out.trans (hB1.mono HB.out.size))
  have TP := HBP1.out.cells
  clear y0 y1 y2 y3 y4 y5 y6 y7 y8 y9 yA yB hB1 HB HBP HCK
  have hOpen := TP
  simp only [Cells, blk, List.cons_append, List.nil_append, and_true, Nat.reduceAdd, Nat.add_zero, Nat.zero_add] at hOpen
  obtain ⟨y0, y1, y2, y3, y4, y5, y6, y7, y8, y9, yA, yB⟩ := hOpen
  clear TP
  go_wp2_with fail
  refine (HF.out _).mono ?_
  rintro e w2 ⟨rfl, hB2⟩
  have bP := (HBP1.out.below hB2).alloc (.cells #[.bool true, .bool true, .bool true, .bool false, .bool false, .bool false, .bool false, .bool true, .bool false, .bool false, .bool false] 58)
  have bU := Blk.new w2 58 [.bool true, .bool true, .bool true, .bool false, .bool false, .bool false, .bool false, .bool true, .bool false, .bool false, .bool false]
  have hB2' := HB1.out.trans (hB2.mono HB1.out.size)
  have hB3 := hB2'.alloc hB2'.size (.cells #[.bool true, .bool true, .bool true, .bool false, .bool false, .bool false, .bool false, .bool true, .bool false, .bool false, .bool false] 58)
  clear y0 y1 y2 y3 y4 y5 y6 y7 y8 y9 yA yB hB2 hB2' HB1 HBP1 HF
  go_upto_region 5 with fail
  generalize World.alloc _ _ = Y at bP bU hB3 ⊢
  have TP := bP.cells
  have hOpen := TP
  simp only [Cells, blk, List.cons_append, List.nil_append, and_true, Nat.reduceAdd, Nat.add_zero, Nat.zero_add] at hOpen
  obtain ⟨y0, y1, y2, y3, y4, y5, y6, y7, y8, y9, yA, yB⟩ := hOpen
  have hlit := own_lit Y [.int .u8 (byt K 0 : Nat)] 1 5 rfl (by decide)
  have bP0 := bP.alloc (.cells #[.int .u8 (byt K 0 : Nat)] 5)
  have bU0 := bU.alloc (.cells #[.int .u8 (byt K 0 : Nat)] 5)
  have hB4 := hB3.alloc hB3.size (.cells #[.int .u8 (byt K 0 : Nat)] 5)
  have hYs := hB3.size
  clear TP bP bU hB3
  go_upto_region 6 with fail
  clear y0 y1 y2 y3 y4 y5 y6 y7 y8 y9 yA yB
  generalize World.alloc _ _ = W0 at hlit bP0 bU0 hB4 ⊢
  obtain ⟨v0, hv0⟩ : ∃ v : Value, v = .slice (some ⟨Y.heap.size, 0, none⟩) 1 1 := ⟨_, rfl⟩
  rw [← hv0] at hlit ⊢
  clear hv0
  have HO0 := Lib.hid (show OwnB w W0 v0 [byt K 0] from ⟨own_base hlit hYs, hB4⟩)
  have HBP0 := Lib.hid bP0
  have HBU0 := Lib.hid bU0
  clear hlit bP0 bU0 hB4 hYs
  have TP := HBP0.out.cells
  have TU := HBU0.out.cells
  have hOpen := TP
  simp only [Cells, blk, List.cons_append, List.nil_append, and_true, Nat.reduceAdd, Nat.add_zero, Nat.zero_add] at hOpen
  obtain ⟨y0, y1, y2, y3, y4, y5, y6, y7, y8, y9, yA, yB⟩ := hOpen
  have hOpen := TU
  simp only [Cells, blk, List.cons_append, List.nil_append, and_true, Nat.reduceAdd, Nat.add_zero, Nat.zero_add] at hOpen
  obtain ⟨u0, u1, u2, u3, u4, u5, u6, u7, u8, u9, uA⟩ := hOpen
  clear TP TU
  have hO := HO0.out
  have hown : W0.ownsRow w.heap.size 5 1 v0 (1) _ := own_len hO.1 (by simp [putB_len])
  have hBs := hO.2.size
  clear hO
  go_wp2_with (at_builtin; refine wpList_append_own _ rfl _ _ 26 rfl w.heap.size 5 i0 (.int .u8 0) 1 1 Try.underlying26 hii hz0 hz1 hz2 rfl (by decide) _ _ _ rfl (hown.alloc _) ⟨W0.heap.size, 0, none⟩ 1 1 [.int .u8 (byt ak 0 : Nat)] rfl rfl (cell_one_new _ _ _) (by simp [Value.oneCell']) (by unfold maxLen; omega) (by omega) (by simp; omega) ?_)
  intro v1 W1 hown' hg _
  have hal := (Below.refl W0.heap.size W0).alloc (Nat.le_refl _) (.cells #[.int .u8 (byt ak 0 : Nat)] 5)
  have hBP1 := (HBP0.out.below hal).kept hg ((HBP0.out.below hal).not_row (by decide) (hown.alloc _))
  have hBU1 := (HBU0.out.below hal).kept hg ((HBU0.out.below hal).not_row (by decide) (hown.alloc _))
  have hO1 : OwnB w W1 v1 (_ ++ putB ak 1) := (HO0.out.below hal).app hg (own_len' hown') rfl (by simp [putB_len]) rfl
  have HO1 := Lib.hid hO1
  have HBP1 := Lib.hid hBP1
  have HBU1 := Lib.hid hBU1
  clear hown hown' hg hBP1 hBU1 hO1 hBs hal y0 y1 y2 y3 y4 y5 y6 y7 y8 y9 yA yB u0 u1 u2 u3 u4 u5 u6 u7 u8 u9 uA
  have TP := HBP1.out.cells
  have TU := HBU1.out.cells
  have hOpen := TP
  simp only [Cells, blk, List.cons_append, List.nil_append, and_true, Nat.reduceAdd, Nat.add_zero, Nat.zero_add] at hOpen
  obtain ⟨y0, y1, y2, y3, y4, y5, y6, y7, y8, y9, yA, yB⟩ := hOpen
  have hOpen := TU
  simp only [Cells, blk, List.cons_append, List.nil_append, and_true, Nat.reduceAdd, Nat.add_zero, Nat.zero_add] at hOpen
  obtain ⟨u0, u1, u2, u3, u4, u5, u6, u7, u8, u9, uA⟩ := hOpen
  clear TP TU
  go_wp2_with fail
  refine (HPH.out _).mono ?_
  rintro e wb2 ⟨vb, rfl, hvb, hBb⟩
  have hO := HO1.out.below hBb
  have hown : wb2.ownsRow w.heap.size 5 1 v1 (1 + 1) _ := own_len hO.1 (by simp [putB_len])
  have hBs := hO.2.size
  have hsr := SR.of_own hvb (bcells_one _) (by unfold maxLen; omega)
  have HBPb := Lib.hid (HBP1.out.below hBb)
  have HBUb := Lib.hid (HBU1.out.below hBb)
  have HOb := Lib.hid hO
  clear hvb hBb hO y0 y1 y2 y3 y4 y5 y6 y7 y8 y9 yA yB u0 u1 u2 u3 u4 u5 u6 u7 u8 u9 uA
  go_wp2_with (at_builtin; refine wpList_append_all rfl _ _ 26 rfl w.heap.size 5 i0 (.int .u8 0) 1 1 Try.underlying26 hii hz0 hz1 hz2 rfl (by decide) _ _ _ rfl hown _ 2 _ rfl hsr (by unfold maxLen; omega) (by omega) hBs ?_)
  intro v2 W2 hown' hg _
  have hBP2 := HBPb.out.kept hg (HBPb.out.not_row (by decide) hown)
  have hBU2 := HBUb.out.kept hg (HBUb.out.not_row (by decide) hown)
  have hO2 := HOb.out.app hg (own_len' hown') rfl (by simp [putB_len]) (putB_len _ _)
  have HO2 := Lib.hid hO2
  have HBP2 := Lib.hid hBP2
  have HBU2 := Lib.hid hBU2
  clear hown hown' hg hBP2 hBU2 hO2 hsr hBs HOb HBPb HBUb
  have TP := HBP2.out.cells
  have TU := HBU2.out.cells
  have hOpen := TP
  simp only [Cells, blk, List.cons_append, List.nil_append, and_true, Nat.reduceAdd, Nat.add_zero, Nat.zero_add] at hOpen
  obtain ⟨y0, y1, y2, y3, y4, y5, y6, y7, y8, y9, yA, yB⟩ := hOpen
  have hOpen := TU
  simp only [Cells, blk, List.cons_append, List.nil_append, and_true, Nat.reduceAdd, Nat.add_zero, Nat.zero_add] at hOpen
  obtain ⟨u0, u1, u2, u3, u4, u5, u6, u7, u8, u9, uA⟩ := hOpen
  clear TP TU
  have hO := HO2.out
  have hown : W2.ownsRow w.heap.size 5 1 v2 (1 + 1 + 2) _ := own_len hO.1 (by simp [putB_len])
  have hBs := hO.2.size
  clear hO
  go_wp2_with (at_builtin; refine wpList_append_own _ rfl _ _ 26 rfl w.heap.size 5 i0 (.int .u8 0) 1 1 Try.underlying26 hii hz0 hz1 hz2 rfl (by decide) _ _ _ rfl (hown.alloc _) ⟨W2.heap.size, 0, none⟩ 1 1 [.int .u8 (byt co 0 : Nat)] rfl rfl (cell_one_new _ _ _) (by simp [Value.oneCell']) (by unfold maxLen; omega) (by omega) (by simp; omega) ?_)
  intro v3 W3 hown' hg _
  have hal := (Below.refl W2.heap.size W2).alloc (Nat.le_refl _) (.cells #[.int .u8 (byt co 0 : Nat)] 5)
  have hBP3 := (HBP2.out.below hal).kept hg ((HBP2.out.below hal).not_row (by decide) (hown.alloc _))
  have hBU3 := (HBU2.out.below hal).kept hg ((HBU2.out.below hal).not_row (by decide) (hown.alloc _))
  have hO3 : OwnB w W3 v3 (_ ++ putB co 1) := (HO2.out.below hal).app hg (own_len' hown') rfl (by simp [putB_len]) rfl
  have HO3 := Lib.hid hO3
  have HBP3 := Lib.hid hBP3
  have HBU3 := Lib.hid hBU3
  clear hown hown' hg hBP3 hBU3 hO3 hBs hal y0 y1 y2 y3 y4 y5 y6 y7 y8 y9 yA yB u0 u1 u2 u3 u4 u5 u6 u7 u8 u9 uA
  have TP := HBP3.out.cells
  have TU := HBU3.out.cells
  have hOpen := TP
  simp only [Cells, blk, List.cons_append, List.nil_append, and_true, Nat.reduceAdd, Nat.add_zero, Nat.zero_add] at hOpen
  obtain ⟨y0, y1, y2, y3, y4, y5, y6, y7, y8, y9, yA, yB⟩ := hOpen
  have hOpen := TU
  simp only [Cells, blk, List.cons_append, List.nil_append, and_true, Nat.reduceAdd, Nat.add_zero, Nat.zero_add] at hOpen
  obtain ⟨u0, u1, u2, u3, u4, u5, u6, u7, u8, u9, uA⟩ := hOpen
  clear TP TU
  have hO := HO3.out
  have hown : W3.ownsRow w.heap.size 5 1 v3 (1 + 1 + 2 + 1) _ := own_len hO.1 (by simp [putB_len])
  have hBs := hO.2.size
  have hsr := (HV.out.below hO.2).sr HN.out
  clear hO
  go_wp2_with (at_builtin; refine wpList_append_all rfl _ _ 26 rfl w.heap.size 5 i0 (.int .u8 0) 1 1 Try.underlying26 hii hz0 hz1 hz2 rfl (by decide) _ _ _ rfl hown _ n _ rfl hsr (by unfold maxLen; omega) (by omega) hBs ?_)
  intro vf wf hown' hg _
  have hOf := HO3.out.app hg (own_len' hown') rfl (by simp [putB_len]) HN.out
  have hRf := HRES.out
  
  have hby := hOf.bytes (by rw [← hRf]; exact HRL.out) (by simp [putB_len, HN.out]; omega)
  rw [← hRf] at hby
  have HFIN := Lib.hid (And.intro hby hOf.2)
  clear hown hown' hg hOf hRf hby hsr hBs y0 y1 y2 y3 y4 y5 y6 y7 y8 y9 yA yB u0 u1 u2 u3 u4 u5 u6 u7 u8 u9 uA
  go_wp2
  go_ret2
  exact ⟨_, rfl, HFIN.out.1, HFIN.out.2⟩
set_option linter.unusedSimpArgs false in
set_option linter.unusedVariables false in
set_option maxRecDepth 100000 in
set_option maxHeartbeats 4000000 in
theorem renc_M (ki : Int) (hk : fldC ki = some [77]) (ak : Int) (ha la hi lo : Nat) (of : Int) (mt : Nat) (co : Int) (cm : Bool) (a1 a2 : Option Addr) (n c m d : Nat) (bs : List Nat) (its : List It) (w : World) (hval : BytesAt w (.slice a1 n c) bs) (hn : bs.length = n) (hnb : n ≤ 1000000) (hha : ha < 65536) (hla : la < 65536) (hhi : hi < 18446744073709551616) (hlo : lo < 18446744073709551616) (hmt : mt < 65536) (hbs : bs = [])
    (hck : ∀ W, Below w.heap.size w W → Calls Try.prog 13 #[.agg #[.int .i64 ki, .int .i64 ak, .int .u16 ha, .int .u16 la, .int .u64 hi, .int .u64 lo, .int .i64 of, .int .i64 (mt : Nat), .int .i64 co, .bool cm, .slice a1 n c, .slice a2 m d]] W fun e w' => e = .returned (.int .i64 0) ∧ Below W.heap.size W w') :
    Calls Try.prog 15 #[.agg #[.int .i64 ki, .int .i64 ak, .int .u16 ha, .int .u16 la, .int .u64 hi, .int .u64 lo, .int .i64 of, .int .i64 (mt : Nat), .int .i64 co, .bool cm, .slice a1 n c, .slice a2 m d]] w fun e w' => ∃ v, e = .returned (.tuple #[v, .int .i64 0]) ∧ BytesAt w' v (encP ki ak ha la hi lo of mt co cm bs its) ∧ Below w.heap.size w w' := by
  obtain ⟨i0, hii, hz0, hz1, hz2⟩ := info_parts Try.info_u8
  have hf : ∀ W, Calls Try.prog 28 #[.int .i64 ki] W (fun e w' => e = .returned (.agg #[.bool true, .bool false, .bool false, .bool false, .bool false, .bool false, .bool true, .bool false, .bool false, .bool false, .bool false]) ∧ Below W.heap.size W w') := fun W => by
    have h := rfields_any ki W
    rw [hk] at h
    exact h
  obtain ⟨K, hKK⟩ := fldC_nat ki hk
  have hb0 : IntKind.u8.wrap ki = ((byt K 0 : Nat) : Int) := by rw [hKK]; exact byt0 K
  have hkt : ki.toNat = K := by rw [hKK]; rfl
  obtain ⟨R, hR⟩ : ∃ R, encP ki ak ha la hi lo of mt co cm bs its = R := ⟨_, rfl⟩
  have hres : R = [byt K 0] ++ putB mt 2 ++ bs := by
    rw [← hR]
    unfold encP
    rw [hk]
    subst hbs
    simp [flB, ix, leF, fiB, gI, si, siF, List.idxOf_cons, hkt]
  rw [hR]
  have hRl : ∀ x ∈ R, x < 256 := by
    intro x hx
    have hv := hval.2.2 x
    have he := encB_lt hi lo x
    have hp := fun N j => putB_lt N j x
    rw [hres] at hx
    simp only [List.mem_append, List.mem_singleton] at hx
    rcases hx with (h | h) | h
    all_goals first
    | (subst h; exact byt_lt _ _)
    | exact hv h
    | exact he h
    | exact hp _ _ h
  have hB := (Below.refl w.heap.size w).alloc (Nat.le_refl _) (.cells #[.int .i64 ki, .int .i64 ak, .int .u16 ha, .int .u16 la, .int .u64 hi, .int .u64 lo, .int .i64 of, .int .i64 (mt : Nat), .int .i64 co, .bool cm, .slice a1 n c, .slice a2 m d] 29)
  have bP := Blk.new w 29 [.int .i64 ki, .int .i64 ak, .int .u16 ha, .int .u16 la, .int .u64 hi, .int .u64 lo, .int .i64 of, .int .i64 (mt : Nat), .int .i64 co, .bool cm, .slice a1 n c, .slice a2 m d]
  have HPM := Lib.hid (fun W => put_any mt 2 (by omega) (by omega) W)
  have qM : (mt : Int) < 65536 := by omega
  have b1 : (ha : Int) < 65536 := by omega
  have b2 : (la : Int) < 65536 := by omega
  have HRES := Lib.hid hres
  have HRL := Lib.hid hRl
  have HV := Lib.hid hval
  have HN := Lib.hid hn
  have HF := Lib.hid hf
  have HCK := Lib.hid hck
  clear hkt hKK hres hRl hval hn hf hck hR hk hhi hlo hha hla hbs
  go_enter Try.func15, Try.ntmps15
  go_upto_region 1 with fail
  generalize World.alloc _ _ = V at bP hB ⊢
  have HBP := Lib.hid bP
  have HB := Lib.hid hB
  have TP := bP.cells
  have hOpen := TP
  simp only [Cells, blk, List.cons_append, List.nil_append, and_true, Nat.reduceAdd, Nat.add_zero, Nat.zero_add] at hOpen
  obtain ⟨y0, y1, y2, y3, y4, y5, y6, y7, y8, y9, yA, yB⟩ := hOpen
  clear TP bP hB
  go_wp2_with fail
  refine (HCK.out _ HB.out).mono ?_
  rintro e w1 ⟨rfl, hB1⟩
  have HBP1 := Lib.hid (HBP.out.below hB1)
  have HB1 := Lib.hid (HB.out.trans (hB1.mono HB.out.size))
  have TP := HBP1.out.cells
  clear y0 y1 y2 y3 y4 y5 y6 y7 y8 y9 yA yB hB1 HB HBP HCK
  have hOpen := TP
  simp only [Cells, blk, List.cons_append, List.nil_append, and_true, Nat.reduceAdd, Nat.add_zero, Nat.zero_add] at hOpen
  obtain ⟨y0, y1, y2, y3, y4, y5, y6, y7, y8, y9, yA, yB⟩ := hOpen
  clear TP
  go_wp2_with fail
  refine (HF.out _).mono ?_
  rintro e w2 ⟨rfl, hB2⟩
  have bP := (HBP1.out.below hB2).alloc (.cells #[.bool true, .bool false, .bool false, .bool false, .bool false, .bool false, .bool true, .bool false, .bool false, .bool false, .bool false] 58)
  have bU := Blk.new w2 58 [.bool true, .bool false, .bool false, .bool false, .bool false, .bool false, .bool true, .bool false, .bool false, .bool false, .bool false]
  have hB2' := HB1.out.trans (hB2.mono HB1.out.size)
  have hB3 := hB2'.alloc hB2'.size (.cells #[.bool true, .bool false, .bool false, .bool false, .bool false, .bool false, .bool true, .bool false, .bool false, .bool false, .bool false] 58)
  clear y0 y1 y2 y3 y4 y5 y6 y7 y8 y9 yA yB hB2 hB2' HB1 HBP1 HF
  go_upto_region 5 with fail
  generalize World.alloc _ _ = Y at bP bU hB3 ⊢
  have TP := bP.cells
  have hOpen := TP
  simp only [Cells, blk, List.cons_append, List.nil_append, and_true, Nat.reduceAdd, Nat.add_zero, Nat.zero_add] at hOpen
  obtain ⟨y0, y1, y2, y3, y4, y5, y6, y7, y8, y9, yA, yB⟩ := hOpen
  have hlit := own_lit Y [.int .u8 (byt K 0 : Nat)] 1 5 rfl (by decide)
  have bP0 := bP.alloc (.cells #[.int .u8 (byt K 0 : Nat)] 5)
  have bU0 := bU.alloc (.cells #[.int .u8 (byt K 0 : Nat)] 5)
  have hB4 := hB3.alloc hB3.size (.cells #[.int .u8 (byt K 0 : Nat)] 5)
  have hYs := hB3.size
  clear TP bP bU hB3
  go_upto_region 6 with fail
  clear y0 y1 y2 y3 y4 y5 y6 y7 y8 y9 yA yB
  generalize World.alloc _ _ = W0 at hlit bP0 bU0 hB4 ⊢
  obtain ⟨v0, hv0⟩ : ∃ v : Value, v = .slice (some ⟨Y.heap.size, 0, none⟩) 1 1 := ⟨_, rfl⟩
  rw [← hv0] at hlit ⊢
  clear hv0
  have HO0 := Lib.hid (show OwnB w W0 v0 [byt K 0] from ⟨own_base hlit hYs, hB4⟩)
  have HBP0 := Lib.hid bP0
  have HBU0 := Lib.hid bU0
  clear hlit bP0 bU0 hB4 hYs
  have TP := HBP0.out.cells
  have TU := HBU0.out.cells
  have hOpen := TP
  simp only [Cells, blk, List.cons_append, List.nil_append, and_true, Nat.reduceAdd, Nat.add_zero, Nat.zero_add] at hOpen
  obtain ⟨y0, y1, y2, y3, y4, y5, y6, y7, y8, y9, yA, yB⟩ := hOpen
  have hOpen := TU
  simp only [Cells, blk, List.cons_append, List.nil_append, and_true, Nat.reduceAdd, Nat.add_zero, Nat.zero_add] at hOpen
  obtain ⟨u0, u1, u2, u3, u4, u5, u6, u7, u8, u9, uA⟩ := hOpen
  clear TP TU
  go_wp2_with fail
  refine (HPM.out _).mono ?_
  rintro e wb1 ⟨vb, rfl, hvb, hBb⟩
  have hO := HO0.out.below hBb
  have hown : wb1.ownsRow w.heap.size 5 1 v0 (1) _ := own_len hO.1 (by simp [putB_len])
  have hBs := hO.2.size
  have hsr := SR.of_own hvb (bcells_one _) (by unfold maxLen; omega)
  have HBPb := Lib.hid (HBP0.out.below hBb)
  have HBUb := Lib.hid (HBU0.out.below hBb)
  have HOb := Lib.hid hO
  clear hvb hBb hO y0 y1 y2 y3 y4 y5 y6 y7 y8 y9 yA yB u0 u1 u2 u3 u4 u5 u6 u7 u8 u9 uA
  go_wp2_with (at_builtin; refine wpList_append_all rfl _ _ 26 rfl w.heap.size 5 i0 (.int .u8 0) 1 1 Try.underlying26 hii hz0 hz1 hz2 rfl (by decide) _ _ _ rfl hown _ 2 _ rfl hsr (by unfold maxLen; omega) (by omega) hBs ?_)
  intro v1 W1 hown' hg _
  have hBP1 := HBPb.out.kept hg (HBPb.out.not_row (by decide) hown)
  have hBU1 := HBUb.out.kept hg (HBUb.out.not_row (by decide) hown)
  have hO1 := HOb.out.app hg (own_len' hown') rfl (by simp [putB_len]) (putB_len _ _)
  have HO1 := Lib.hid hO1
  have HBP1 := Lib.hid hBP1
  have HBU1 := Lib.hid hBU1
  clear hown hown' hg hBP1 hBU1 hO1 hsr hBs HOb HBPb HBUb
  have TP := HBP1.out.cells
  have TU := HBU1.out.cells
  have hOpen := TP
  simp only [Cells, blk, List.cons_append, List.nil_append, and_true, Nat.reduceAdd, Nat.add_zero, Nat.zero_add] at hOpen
  obtain ⟨y0, y1, y2, y3, y4, y5, y6, y7, y8, y9, yA, yB⟩ := hOpen
  have hOpen := TU
  simp only [Cells, blk, List.cons_append, List.nil_append, and_true, Nat.reduceAdd, Nat.add_zero, Nat.zero_add] at hOpen
  obtain ⟨u0, u1, u2, u3, u4, u5, u6, u7, u8, u9, uA⟩ := hOpen
  clear TP TU
  have hO := HO1.out
  have hown : W1.ownsRow w.heap.size 5 1 v1 (1 + 2) _ := own_len hO.1 (by simp [putB_len])
  have hBs := hO.2.size
  have hsr := (HV.out.below hO.2).sr HN.out
  clear hO
  go_wp2_with (at_builtin; refine wpList_append_all rfl _ _ 26 rfl w.heap.size 5 i0 (.int .u8 0) 1 1 Try.underlying26 hii hz0 hz1 hz2 rfl (by decide) _ _ _ rfl hown _ n _ rfl hsr (by unfold maxLen; omega) (by omega) hBs ?_)
  intro vf wf hown' hg _
  have hOf := HO1.out.app hg (own_len' hown') rfl (by simp [putB_len]) HN.out
  have hRf := HRES.out
  
  have hby := hOf.bytes (by rw [← hRf]; exact HRL.out) (by simp [putB_len, HN.out]; omega)
  rw [← hRf] at hby
  have HFIN := Lib.hid (And.intro hby hOf.2)
  clear hown hown' hg hOf hRf hby hsr hBs y0 y1 y2 y3 y4 y5 y6 y7 y8 y9 yA yB u0 u1 u2 u3 u4 u5 u6 u7 u8 u9 uA
  go_wp2
  go_ret2
  exact ⟨_, rfl, HFIN.out.1, HFIN.out.2⟩
set_option linter.unusedSimpArgs false in
set_option linter.unusedVariables false in
set_option maxRecDepth 100000 in
set_option maxHeartbeats 4000000 in
theorem renc_HL (ki : Int) (hk : fldC ki = some [72, 76]) (ak : Int) (ha la hi lo : Nat) (of : Int) (mt : Int) (co : Int) (cm : Bool) (a1 a2 : Option Addr) (n c m d : Nat) (bs : List Nat) (its : List It) (w : World) (hval : BytesAt w (.slice a1 n c) bs) (hn : bs.length = n) (hnb : n ≤ 1000000) (hha : ha < 65536) (hla : la < 65536) (hhi : hi < 18446744073709551616) (hlo : lo < 18446744073709551616) (hbs : bs = [])
    (hck : ∀ W, Below w.heap.size w W → Calls Try.prog 13 #[.agg #[.int .i64 ki, .int .i64 ak, .int .u16 ha, .int .u16 la, .int .u64 hi, .int .u64 lo, .int .i64 of, .int .i64 mt, .int .i64 co, .bool cm, .slice a1 n c, .slice a2 m d]] W fun e w' => e = .returned (.int .i64 0) ∧ Below W.heap.size W w') :
    Calls Try.prog 15 #[.agg #[.int .i64 ki, .int .i64 ak, .int .u16 ha, .int .u16 la, .int .u64 hi, .int .u64 lo, .int .i64 of, .int .i64 mt, .int .i64 co, .bool cm, .slice a1 n c, .slice a2 m d]] w fun e w' => ∃ v, e = .returned (.tuple #[v, .int .i64 0]) ∧ BytesAt w' v (encP ki ak ha la hi lo of mt co cm bs its) ∧ Below w.heap.size w w' := by
  obtain ⟨i0, hii, hz0, hz1, hz2⟩ := info_parts Try.info_u8
  have hf : ∀ W, Calls Try.prog 28 #[.int .i64 ki] W (fun e w' => e = .returned (.agg #[.bool true, .bool false, .bool true, .bool true, .bool false, .bool false, .bool false, .bool false, .bool false, .bool false, .bool false]) ∧ Below W.heap.size W w') := fun W => by
    have h := rfields_any ki W
    rw [hk] at h
    exact h
  obtain ⟨K, hKK⟩ := fldC_nat ki hk
  have hb0 : IntKind.u8.wrap ki = ((byt K 0 : Nat) : Int) := by rw [hKK]; exact byt0 K
  have hkt : ki.toNat = K := by rw [hKK]; rfl
  obtain ⟨R, hR⟩ : ∃ R, encP ki ak ha la hi lo of mt co cm bs its = R := ⟨_, rfl⟩
  have hres : R = [byt K 0] ++ putB ha 2 ++ putB la 2 ++ bs := by
    rw [← hR]
    unfold encP
    rw [hk]
    subst hbs
    simp [flB, ix, leF, fiB, gI, si, siF, List.idxOf_cons, hkt]
  rw [hR]
  have hRl : ∀ x ∈ R, x < 256 := by
    intro x hx
    have hv := hval.2.2 x
    have he := encB_lt hi lo x
    have hp := fun N j => putB_lt N j x
    rw [hres] at hx
    simp only [List.mem_append, List.mem_singleton] at hx
    rcases hx with ((h | h) | h) | h
    all_goals first
    | (subst h; exact byt_lt _ _)
    | exact hv h
    | exact he h
    | exact hp _ _ h
  have hB := (Below.refl w.heap.size w).alloc (Nat.le_refl _) (.cells #[.int .i64 ki, .int .i64 ak, .int .u16 ha, .int .u16 la, .int .u64 hi, .int .u64 lo, .int .i64 of, .int .i64 mt, .int .i64 co, .bool cm, .slice a1 n c, .slice a2 m d] 29)
  have bP := Blk.new w 29 [.int .i64 ki, .int .i64 ak, .int .u16 ha, .int .u16 la, .int .u64 hi, .int .u64 lo, .int .i64 of, .int .i64 mt, .int .i64 co, .bool cm, .slice a1 n c, .slice a2 m d]
  have HPH := Lib.hid (fun W => put_any ha 2 (by omega) (by omega) W)
  have HPL := Lib.hid (fun W => put_any la 2 (by omega) (by omega) W)
  have b1 : (ha : Int) < 65536 := by omega
  have b2 : (la : Int) < 65536 := by omega
  have HRES := Lib.hid hres
  have HRL := Lib.hid hRl
  have HV := Lib.hid hval
  have HN := Lib.hid hn
  have HF := Lib.hid hf
  have HCK := Lib.hid hck
  clear hkt hKK hres hRl hval hn hf hck hR hk hhi hlo hha hla hbs
  go_enter Try.func15, Try.ntmps15
  go_upto_region 1 with fail
  generalize World.alloc _ _ = V at bP hB ⊢
  have HBP := Lib.hid bP
  have HB := Lib.hid hB
  have TP := bP.cells
  have hOpen := TP
  simp only [Cells, blk, List.cons_append, List.nil_append, and_true, Nat.reduceAdd, Nat.add_zero, Nat.zero_add] at hOpen
  obtain ⟨y0, y1, y2, y3, y4, y5, y6, y7, y8, y9, yA, yB⟩ := hOpen
  clear TP bP hB
  go_wp2_with fail
  refine (HCK.out _ HB.out).mono ?_
  rintro e w1 ⟨rfl, hB1⟩
  have HBP1 := Lib.hid (HBP.out.below hB1)
  have HB1 := Lib.hid (HB.out.trans (hB1.mono HB.out.size))
  have TP := HBP1.out.cells
  clear y0 y1 y2 y3 y4 y5 y6 y7 y8 y9 yA yB hB1 HB HBP HCK
  have hOpen := TP
  simp only [Cells, blk, List.cons_append, List.nil_append, and_true, Nat.reduceAdd, Nat.add_zero, Nat.zero_add] at hOpen
  obtain ⟨y0, y1, y2, y3, y4, y5, y6, y7, y8, y9, yA, yB⟩ := hOpen
  clear TP
  go_wp2_with fail
  refine (HF.out _).mono ?_
  rintro e w2 ⟨rfl, hB2⟩
  have bP := (HBP1.out.below hB2).alloc (.cells #[.bool true, .bool false, .bool true, .bool true, .bool false, .bool false, .bool false, .bool false, .bool false, .bool false, .bool false] 58)
  have bU := Blk.new w2 58 [.bool true, .bool false, .bool true, .bool true, .bool false, .bool false, .bool false, .bool false, .bool false, .bool false, .bool false]
  have hB2' := HB1.out.trans (hB2.mono HB1.out.size)
  have hB3 := hB2'.alloc hB2'.size (.cells #[.bool true, .bool false, .bool true, .bool true, .bool false, .bool false, .bool false, .bool false, .bool false, .bool false, .bool false] 58)
  clear y0 y1 y2 y3 y4 y5 y6 y7 y8 y9 yA yB hB2 hB2' HB1 HBP1 HF
  go_upto_region 5 with fail
  generalize World.alloc _ _ = Y at bP bU hB3 ⊢
  have TP := bP.cells
  have hOpen := TP
  simp only [Cells, blk, List.cons_append, List.nil_append, and_true, Nat.reduceAdd, Nat.add_zero, Nat.zero_add] at hOpen
  obtain ⟨y0, y1, y2, y3, y4, y5, y6, y7, y8, y9, yA, yB⟩ := hOpen
  have hlit := own_lit Y [.int .u8 (byt K 0 : Nat)] 1 5 rfl (by decide)
  have bP0 := bP.alloc (.cells #[.int .u8 (byt K 0 : Nat)] 5)
  have bU0 := bU.alloc (.cells #[.int .u8 (byt K 0 : Nat)] 5)
  have hB4 := hB3.alloc hB3.size (.cells #[.int .u8 (byt K 0 : Nat)] 5)
  have hYs := hB3.size
  clear TP bP bU hB3
  go_upto_region 6 with fail
  clear y0 y1 y2 y3 y4 y5 y6 y7 y8 y9 yA yB
  generalize World.alloc _ _ = W0 at hlit bP0 bU0 hB4 ⊢
  obtain ⟨v0, hv0⟩ : ∃ v : Value, v = .slice (some ⟨Y.heap.size, 0, none⟩) 1 1 := ⟨_, rfl⟩
  rw [← hv0] at hlit ⊢
  clear hv0
  have HO0 := Lib.hid (show OwnB w W0 v0 [byt K 0] from ⟨own_base hlit hYs, hB4⟩)
  have HBP0 := Lib.hid bP0
  have HBU0 := Lib.hid bU0
  clear hlit bP0 bU0 hB4 hYs
  have TP := HBP0.out.cells
  have TU := HBU0.out.cells
  have hOpen := TP
  simp only [Cells, blk, List.cons_append, List.nil_append, and_true, Nat.reduceAdd, Nat.add_zero, Nat.zero_add] at hOpen
  obtain ⟨y0, y1, y2, y3, y4, y5, y6, y7, y8, y9, yA, yB⟩ := hOpen
  have hOpen := TU
  simp only [Cells, blk, List.cons_append, List.nil_append, and_true, Nat.reduceAdd, Nat.add_zero, Nat.zero_add] at hOpen
  obtain ⟨u0, u1, u2, u3, u4, u5, u6, u7, u8, u9, uA⟩ := hOpen
  clear TP TU
  go_wp2_with fail
  refine (HPH.out _).mono ?_
  rintro e wb1 ⟨vb, rfl, hvb, hBb⟩
  have hO := HO0.out.below hBb
  have hown : wb1.ownsRow w.heap.size 5 1 v0 (1) _ := own_len hO.1 (by simp [putB_len])
  have hBs := hO.2.size
  have hsr := SR.of_own hvb (bcells_one _) (by unfold maxLen; omega)
  have HBPb := Lib.hid (HBP0.out.below hBb)
  have HBUb := Lib.hid (HBU0.out.below hBb)
  have HOb := Lib.hid hO
  clear hvb hBb hO y0 y1 y2 y3 y4 y5 y6 y7 y8 y9 yA yB u0 u1 u2 u3 u4 u5 u6 u7 u8 u9 uA
  go_wp2_with (at_builtin; refine wpList_append_all rfl _ _ 26 rfl w.heap.size 5 i0 (.int .u8 0) 1 1 Try.underlying26 hii hz0 hz1 hz2 rfl (by decide) _ _ _ rfl hown _ 2 _ rfl hsr (by unfold maxLen; omega) (by omega) hBs ?_)
  intro v1 W1 hown' hg _
  have hBP1 := HBPb.out.kept hg (HBPb.out.not_row (by decide) hown)
  have hBU1 := HBUb.out.kept hg (HBUb.out.not_row (by decide) hown)
  have hO1 := HOb.out.app hg (own_len' hown') rfl (by simp [putB_len]) (putB_len _ _)
  have HO1 := Lib.hid hO1
  have HBP1 := Lib.hid hBP1
  have HBU1 := Lib.hid hBU1
  clear hown hown' hg hBP1 hBU1 hO1 hsr hBs HOb HBPb HBUb
  have TP := HBP1.out.cells
  have TU := HBU1.out.cells
  have hOpen := TP
  simp only [Cells, blk, List.cons_append, List.nil_append, and_true, Nat.reduceAdd, Nat.add_zero, Nat.zero_add] at hOpen
  obtain ⟨y0, y1, y2, y3, y4, y5, y6, y7, y8, y9, yA, yB⟩ := hOpen
  have hOpen := TU
  simp only [Cells, blk, List.cons_append, List.nil_append, and_true, Nat.reduceAdd, Nat.add_zero, Nat.zero_add] at hOpen
  obtain ⟨u0, u1, u2, u3, u4, u5, u6, u7, u8, u9, uA⟩ := hOpen
  clear TP TU
  go_wp2_with fail
  refine (HPL.out _).mono ?_
  rintro e wb2 ⟨vb, rfl, hvb, hBb⟩
  have hO := HO1.out.below hBb
  have hown : wb2.ownsRow w.heap.size 5 1 v1 (1 + 2) _ := own_len hO.1 (by simp [putB_len])
  have hBs := hO.2.size
  have hsr := SR.of_own hvb (bcells_one _) (by unfold maxLen; omega)
  have HBPb := Lib.hid (HBP1.out.below hBb)
  have HBUb := Lib.hid (HBU1.out.below hBb)
  have HOb := Lib.hid hO
  clear hvb hBb hO y0 y1 y2 y3 y4 y5 y6 y7 y8 y9 yA yB u0 u1 u2 u3 u4 u5 u6 u7 u8 u9 uA
  go_wp2_with (at_builtin; refine wpList_append_all rfl _ _ 26 rfl w.heap.size 5 i0 (.int .u8 0) 1 1 Try.underlying26 hii hz0 hz1 hz2 rfl (by decide) _ _ _ rfl hown _ 2 _ rfl hsr (by unfold maxLen; omega) (by omega) hBs ?_)
  intro v2 W2 hown' hg _
  have hBP2 := HBPb.out.kept hg (HBPb.out.not_row (by decide) hown)
  have hBU2 := HBUb.out.kept hg (HBUb.out.not_row (by decide) hown)
  have hO2 := HOb.out.app hg (own_len' hown') rfl (by simp [putB_len]) (putB_len _ _)
  have HO2 := Lib.hid hO2
  have HBP2 := Lib.hid hBP2
  have HBU2 := Lib.hid hBU2
  clear hown hown' hg hBP2 hBU2 hO2 hsr hBs HOb HBPb HBUb
  have TP := HBP2.out.cells
  have TU := HBU2.out.cells
  have hOpen := TP
  simp only [Cells, blk, List.cons_append, List.nil_append, and_true, Nat.reduceAdd, Nat.add_zero, Nat.zero_add] at hOpen
  obtain ⟨y0, y1, y2, y3, y4, y5, y6, y7, y8, y9, yA, yB⟩ := hOpen
  have hOpen := TU
  simp only [Cells, blk, List.cons_append, List.nil_append, and_true, Nat.reduceAdd, Nat.add_zero, Nat.zero_add] at hOpen
  obtain ⟨u0, u1, u2, u3, u4, u5, u6, u7, u8, u9, uA⟩ := hOpen
  clear TP TU
  have hO := HO2.out
  have hown : W2.ownsRow w.heap.size 5 1 v2 (1 + 2 + 2) _ := own_len hO.1 (by simp [putB_len])
  have hBs := hO.2.size
  have hsr := (HV.out.below hO.2).sr HN.out
  clear hO
  go_wp2_with (at_builtin; refine wpList_append_all rfl _ _ 26 rfl w.heap.size 5 i0 (.int .u8 0) 1 1 Try.underlying26 hii hz0 hz1 hz2 rfl (by decide) _ _ _ rfl hown _ n _ rfl hsr (by unfold maxLen; omega) (by omega) hBs ?_)
  intro vf wf hown' hg _
  have hOf := HO2.out.app hg (own_len' hown') rfl (by simp [putB_len]) HN.out
  have hRf := HRES.out
  
  have hby := hOf.bytes (by rw [← hRf]; exact HRL.out) (by simp [putB_len, HN.out]; omega)
  rw [← hRf] at hby
  have HFIN := Lib.hid (And.intro hby hOf.2)
  clear hown hown' hg hOf hRf hby hsr hBs y0 y1 y2 y3 y4 y5 y6 y7 y8 y9 yA yB u0 u1 u2 u3 u4 u5 u6 u7 u8 u9 uA
  go_wp2
  go_ret2
  exact ⟨_, rfl, HFIN.out.1, HFIN.out.2⟩
set_option linter.unusedSimpArgs false in
set_option linter.unusedVariables false in
set_option maxRecDepth 100000 in
set_option maxHeartbeats 4000000 in
theorem renc_HLT (ki : Int) (hk : fldC ki = some [72, 76, 84]) (ak : Int) (ha la hi lo : Nat) (of : Int) (mt : Int) (co : Int) (cm : Bool) (a1 a2 : Option Addr) (n c m d : Nat) (bs : List Nat) (its : List It) (w : World) (hval : BytesAt w (.slice a1 n c) bs) (hn : bs.length = n) (hnb : n ≤ 1000000) (hha : ha < 65536) (hla : la < 65536) (hhi : hi < 18446744073709551616) (hlo : lo < 18446744073709551616) (hbs : bs = [])
    (hck : ∀ W, Below w.heap.size w W → Calls Try.prog 13 #[.agg #[.int .i64 ki, .int .i64 ak, .int .u16 ha, .int .u16 la, .int .u64 hi, .int .u64 lo, .int .i64 of, .int .i64 mt, .int .i64 co, .bool cm, .slice a1 n c, .slice a2 m d]] W fun e w' => e = .returned (.int .i64 0) ∧ Below W.heap.size W w') :
    Calls Try.prog 15 #[.agg #[.int .i64 ki, .int .i64 ak, .int .u16 ha, .int .u16 la, .int .u64 hi, .int .u64 lo, .int .i64 of, .int .i64 mt, .int .i64 co, .bool cm, .slice a1 n c, .slice a2 m d]] w fun e w' => ∃ v, e = .returned (.tuple #[v, .int .i64 0]) ∧ BytesAt w' v (encP ki ak ha la hi lo of mt co cm bs its) ∧ Below w.heap.size w w' := by
  obtain ⟨i0, hii, hz0, hz1, hz2⟩ := info_parts Try.info_u8
  have hf : ∀ W, Calls Try.prog 28 #[.int .i64 ki] W (fun e w' => e = .returned (.agg #[.bool true, .bool false, .bool true, .bool true, .bool true, .bool false, .bool false, .bool false, .bool false, .bool false, .bool false]) ∧ Below W.heap.size W w') := fun W => by
    have h := rfields_any ki W
    rw [hk] at h
    exact h
  obtain ⟨K, hKK⟩ := fldC_nat ki hk
  have hb0 : IntKind.u8.wrap ki = ((byt K 0 : Nat) : Int) := by rw [hKK]; exact byt0 K
  have hkt : ki.toNat = K := by rw [hKK]; rfl
  obtain ⟨R, hR⟩ : ∃ R, encP ki ak ha la hi lo of mt co cm bs its = R := ⟨_, rfl⟩
  have hres : R = [byt K 0] ++ putB ha 2 ++ putB la 2 ++ encB hi lo ++ bs := by
    rw [← hR]
    unfold encP
    rw [hk]
    subst hbs
    simp [flB, ix, leF, fiB, gI, si, siF, List.idxOf_cons, hkt]
  rw [hR]
  have hRl : ∀ x ∈ R, x < 256 := by
    intro x hx
    have hv := hval.2.2 x
    have he := encB_lt hi lo x
    have hp := fun N j => putB_lt N j x
    rw [hres] at hx
    simp only [List.mem_append, List.mem_singleton] at hx
    rcases hx with (((h | h) | h) | h) | h
    all_goals first
    | (subst h; exact byt_lt _ _)
    | exact hv h
    | exact he h
    | exact hp _ _ h
  have hB := (Below.refl w.heap.size w).alloc (Nat.le_refl _) (.cells #[.int .i64 ki, .int .i64 ak, .int .u16 ha, .int .u16 la, .int .u64 hi, .int .u64 lo, .int .i64 of, .int .i64 mt, .int .i64 co, .bool cm, .slice a1 n c, .slice a2 m d] 29)
  have bP := Blk.new w 29 [.int .i64 ki, .int .i64 ak, .int .u16 ha, .int .u16 la, .int .u64 hi, .int .u64 lo, .int .i64 of, .int .i64 mt, .int .i64 co, .bool cm, .slice a1 n c, .slice a2 m d]
  have HPH := Lib.hid (fun W => put_any ha 2 (by omega) (by omega) W)
  have HPL := Lib.hid (fun W => put_any la 2 (by omega) (by omega) W)
  have HPT := Lib.hid (fun W => rencode_any hi lo hhi hlo W)
  have hel := encB_16 hi lo
  have b1 : (ha : Int) < 65536 := by omega
  have b2 : (la : Int) < 65536 := by omega
  have HRES := Lib.hid hres
  have HRL := Lib.hid hRl
  have HV := Lib.hid hval
  have HN := Lib.hid hn
  have HF := Lib.hid hf
  have HCK := Lib.hid hck
  clear hkt hKK hres hRl hval hn hf hck hR hk hhi hlo hha hla hbs
  go_enter Try.func15, Try.ntmps15
  go_upto_region 1 with fail
  generalize World.alloc _ _ = V at bP hB ⊢
  have HBP := Lib.hid bP
  have HB := Lib.hid hB
  have TP := bP.cells
  have hOpen := TP
  simp only [Cells, blk, List.cons_append, List.nil_append, and_true, Nat.reduceAdd, Nat.add_zero, Nat.zero_add] at hOpen
  obtain ⟨y0, y1, y2, y3, y4, y5, y6, y7, y8, y9, yA, yB⟩ := hOpen
  clear TP bP hB
  go_wp2_with fail
  refine (HCK.out _ HB.out).mono ?_
  rintro e w1 ⟨rfl, hB1⟩
  have HBP1 := Lib.hid (HBP.out.below hB1)
  have HB1 := Lib.hid (HB.out.trans (hB1.mono HB.out.size))
  have TP := HBP1.out.cells
  clear y0 y1 y2 y3 y4 y5 y6 y7 y8 y9 yA yB hB1 HB HBP HCK
  have hOpen := TP
  simp only [Cells, blk, List.cons_append, List.nil_append, and_true, Nat.reduceAdd, Nat.add_zero, Nat.zero_add] at hOpen
  obtain ⟨y0, y1, y2, y3, y4, y5, y6, y7, y8, y9, yA, yB⟩ := hOpen
  clear TP
  go_wp2_with fail
  refine (HF.out _).mono ?_
  rintro e w2 ⟨rfl, hB2⟩
  have bP := (HBP1.out.below hB2).alloc (.cells #[.bool true, .bool false, .bool true, .bool true, .bool true, .bool false, .bool false, .bool false, .bool false, .bool false, .bool false] 58)
  have bU := Blk.new w2 58 [.bool true, .bool false, .bool true, .bool true, .bool true, .bool false, .bool false, .bool false, .bool false, .bool false, .bool false]
  have hB2' := HB1.out.trans (hB2.mono HB1.out.size)
  have hB3 := hB2'.alloc hB2'.size (.cells #[.bool true, .bool false, .bool true, .bool true, .bool true, .bool false, .bool false, .bool false, .bool false, .bool false, .bool false] 58)
  clear y0 y1 y2 y3 y4 y5 y6 y7 y8 y9 yA yB hB2 hB2' HB1 HBP1 HF
  go_upto_region 5 with fail
  generalize World.alloc _ _ = Y at bP bU hB3 ⊢
  have TP := bP.cells
  have hOpen := TP
  simp only [Cells, blk, List.cons_append, List.nil_append, and_true, Nat.reduceAdd, Nat.add_zero, Nat.zero_add] at hOpen
  obtain ⟨y0, y1, y2, y3, y4, y5, y6, y7, y8, y9, yA, yB⟩ := hOpen
  have hlit := own_lit Y [.int .u8 (byt K 0 : Nat)] 1 5 rfl (by decide)
  have bP0 := bP.alloc (.cells #[.int .u8 (byt K 0 : Nat)] 5)
  have bU0 := bU.alloc (.cells #[.int .u8 (byt K 0 : Nat)] 5)
  have hB4 := hB3.alloc hB3.size (.cells #[.int .u8 (byt K 0 : Nat)] 5)
  have hYs := hB3.size
  clear TP bP bU hB3
  go_upto_region 6 with fail
  clear y0 y1 y2 y3 y4 y5 y6 y7 y8 y9 yA yB
  generalize World.alloc _ _ = W0 at hlit bP0 bU0 hB4 ⊢
  obtain ⟨v0, hv0⟩ : ∃ v : Value, v = .slice (some ⟨Y.heap.size, 0, none⟩) 1 1 := ⟨_, rfl⟩
  rw [← hv0] at hlit ⊢
  clear hv0
  have HO0 := Lib.hid (show OwnB w W0 v0 [byt K 0] from ⟨own_base hlit hYs, hB4⟩)
  have HBP0 := Lib.hid bP0
  have HBU0 := Lib.hid bU0
  clear hlit bP0 bU0 hB4 hYs
  have TP := HBP0.out.cells
  have TU := HBU0.out.cells
  have hOpen := TP
  simp only [Cells, blk, List.cons_append, List.nil_append, and_true, Nat.reduceAdd, Nat.add_zero, Nat.zero_add] at hOpen
  obtain ⟨y0, y1, y2, y3, y4, y5, y6, y7, y8, y9, yA, yB⟩ := hOpen
  have hOpen := TU
  simp only [Cells, blk, List.cons_append, List.nil_append, and_true, Nat.reduceAdd, Nat.add_zero, Nat.zero_add] at hOpen
  obtain ⟨u0, u1, u2, u3, u4, u5, u6, u7, u8, u9, uA⟩ := hOpen
  clear TP TU
  go_wp2_with fail
  refine (HPH.out _).mono ?_
  rintro e wb1 ⟨vb, rfl, hvb, hBb⟩
  have hO := HO0.out.below hBb
  have hown : wb1.ownsRow w.heap.size 5 1 v0 (1) _ := own_len hO.1 (by simp [putB_len])
  have hBs := hO.2.size
  have hsr := SR.of_own hvb (bcells_one _) (by unfold maxLen; omega)
  have HBPb := Lib.hid (HBP0.out.below hBb)
  have HBUb := Lib.hid (HBU0.out.below hBb)
  have HOb := Lib.hid hO
  clear hvb hBb hO y0 y1 y2 y3 y4 y5 y6 y7 y8 y9 yA yB u0 u1 u2 u3 u4 u5 u6 u7 u8 u9 uA
  go_wp2_with (at_builtin; refine wpList_append_all rfl _ _ 26 rfl w.heap.size 5 i0 (.int .u8 0) 1 1 Try.underlying26 hii hz0 hz1 hz2 rfl (by decide) _ _ _ rfl hown _ 2 _ rfl hsr (by unfold maxLen; omega) (by omega) hBs ?_)
  intro v1 W1 hown' hg _
  have hBP1 := HBPb.out.kept hg (HBPb.out.not_row (by decide) hown)
  have hBU1 := HBUb.out.kept hg (HBUb.out.not_row (by decide) hown)
  have hO1 := HOb.out.app hg (own_len' hown') rfl (by simp [putB_len]) (putB_len _ _)
  have HO1 := Lib.hid hO1
  have HBP1 := Lib.hid hBP1
  have HBU1 := Lib.hid hBU1
  clear hown hown' hg hBP1 hBU1 hO1 hsr hBs HOb HBPb HBUb
  have TP := HBP1.out.cells
  have TU := HBU1.out.cells
  have hOpen := TP
  simp only [Cells, blk, List.cons_append, List.nil_append, and_true, Nat.reduceAdd, Nat.add_zero, Nat.zero_add] at hOpen
  obtain ⟨y0, y1, y2, y3, y4, y5, y6, y7, y8, y9, yA, yB⟩ := hOpen
  have hOpen := TU
  simp only [Cells, blk, List.cons_append, List.nil_append, and_true, Nat.reduceAdd, Nat.add_zero, Nat.zero_add] at hOpen
  obtain ⟨u0, u1, u2, u3, u4, u5, u6, u7, u8, u9, uA⟩ := hOpen
  clear TP TU
  go_wp2_with fail
  refine (HPL.out _).mono ?_
  rintro e wb2 ⟨vb, rfl, hvb, hBb⟩
  have hO := HO1.out.below hBb
  have hown : wb2.ownsRow w.heap.size 5 1 v1 (1 + 2) _ := own_len hO.1 (by simp [putB_len])
  have hBs := hO.2.size
  have hsr := SR.of_own hvb (bcells_one _) (by unfold maxLen; omega)
  have HBPb := Lib.hid (HBP1.out.below hBb)
  have HBUb := Lib.hid (HBU1.out.below hBb)
  have HOb := Lib.hid hO
  clear hvb hBb hO y0 y1 y2 y3 y4 y5 y6 y7 y8 y9 yA yB u0 u1 u2 u3 u4 u5 u6 u7 u8 u9 uA
  go_wp2_with (at_builtin; refine wpList_append_all rfl _ _ 26 rfl w.heap.size 5 i0 (.int .u8 0) 1 1 Try.underlying26 hii hz0 hz1 hz2 rfl (by decide) _ _ _ rfl hown _ 2 _ rfl hsr (by unfold maxLen; omega) (by omega) hBs ?_)
  intro v2 W2 hown' hg _
  have hBP2 := HBPb.out.kept hg (HBPb.out.not_row (by decide) hown)
  have hBU2 := HBUb.out.kept hg (HBUb.out.not_row (by decide) hown)
  have hO2 := HOb.out.app hg (own_len' hown') rfl (by simp [putB_len]) (putB_len _ _)
  have HO2 := Lib.hid hO2
  have HBP2 := Lib.hid hBP2
  have HBU2 := Lib.hid hBU2
  clear hown hown' hg hBP2 hBU2 hO2 hsr hBs HOb HBPb HBUb
  have TP := HBP2.out.cells
  have TU := HBU2.out.cells
  have hOpen := TP
  simp only [Cells, blk, List.cons_append, List.nil_append, and_true, Nat.reduceAdd, Nat.add_zero, Nat.zero_add] at hOpen
  obtain ⟨y0, y1, y2, y3, y4, y5, y6, y7, y8, y9, yA, yB⟩ := hOpen
  have hOpen := TU
  simp only [Cells, blk, List.cons_append, List.nil_append, and_true, Nat.reduceAdd, Nat.add_zero, Nat.zero_add] at hOpen
  obtain ⟨u0, u1, u2, u3, u4, u5, u6, u7, u8, u9, uA⟩ := hOpen
  clear TP TU
  go_wp2_with fail
  refine (HPT.out _).mono ?_
  rintro e wb3 ⟨vb, rfl, hvb, hBb⟩
  have hO := HO2.out.below hBb
  have hown : wb3.ownsRow w.heap.size 5 1 v2 (1 + 2 + 2) _ := own_len hO.1 (by simp [putB_len])
  have hBs := hO.2.size
  obtain ⟨EX, hEX⟩ : ∃ X, encB hi lo = X := ⟨_, rfl⟩
  rw [hEX] at hvb hel
  obtain ⟨EL, hEL⟩ : ∃ L, EX.length = L := ⟨_, rfl⟩
  have hsr := hvb.sr hEL
  rw [hEL] at hel
  have HEX := Lib.hid hEX
  have HEL := Lib.hid hEL
  have HBPb := Lib.hid (HBP2.out.below hBb)
  have HBUb := Lib.hid (HBU2.out.below hBb)
  have HOb := Lib.hid hO
  clear hvb hBb hO y0 y1 y2 y3 y4 y5 y6 y7 y8 y9 yA yB u0 u1 u2 u3 u4 u5 u6 u7 u8 u9 uA hEX hEL
  go_wp2_with (at_builtin; refine wpList_append_all rfl _ _ 26 rfl w.heap.size 5 i0 (.int .u8 0) 1 1 Try.underlying26 hii hz0 hz1 hz2 rfl (by decide) _ _ _ rfl hown _ EL _ rfl hsr (by unfold maxLen; omega) (by omega) hBs ?_)
  intro v3 W3 hown' hg _
  have hBP3 := HBPb.out.kept hg (HBPb.out.not_row (by decide) hown)
  have hBU3 := HBUb.out.kept hg (HBUb.out.not_row (by decide) hown)
  have hO3 := HOb.out.app hg (own_len' hown') rfl (by simp [putB_len]) HEL.out
  have HO3 := Lib.hid hO3
  have HBP3 := Lib.hid hBP3
  have HBU3 := Lib.hid hBU3
  clear hown hown' hg hBP3 hBU3 hO3 hsr hBs HOb HBPb HBUb
  have TP := HBP3.out.cells
  have TU := HBU3.out.cells
  have hOpen := TP
  simp only [Cells, blk, List.cons_append, List.nil_append, and_true, Nat.reduceAdd, Nat.add_zero, Nat.zero_add] at hOpen
  obtain ⟨y0, y1, y2, y3, y4, y5, y6, y7, y8, y9, yA, yB⟩ := hOpen
  have hOpen := TU
  simp only [Cells, blk, List.cons_append, List.nil_append, and_true, Nat.reduceAdd, Nat.add_zero, Nat.zero_add] at hOpen
  obtain ⟨u0, u1, u2, u3, u4, u5, u6, u7, u8, u9, uA⟩ := hOpen
  clear TP TU
  have hO := HO3.out
  have hown : W3.ownsRow w.heap.size 5 1 v3 (1 + 2 + 2 + EL) _ := own_len hO.1 (by simp [putB_len, HEL.out]; omega)
  have hBs := hO.2.size
  have hsr := (HV.out.below hO.2).sr HN.out
  clear hO
  go_wp2_with (at_builtin; refine wpList_append_all rfl _ _ 26 rfl w.heap.size 5 i0 (.int .u8 0) 1 1 Try.underlying26 hii hz0 hz1 hz2 rfl (by decide) _ _ _ rfl hown _ n _ rfl hsr (by unfold maxLen; omega) (by omega) hBs ?_)
  intro vf wf hown' hg _
  have hOf := HO3.out.app hg (own_len' hown') rfl (by simp [putB_len, HEL.out]; omega) HN.out
  have hRf := HRES.out
  rw [HEX.out] at hRf
  have hby := hOf.bytes (by rw [← hRf]; exact HRL.out) (by simp [putB_len, HN.out, HEL.out]; omega)
  rw [← hRf] at hby
  have HFIN := Lib.hid (And.intro hby hOf.2)
  clear hown hown' hg hOf hRf hby hsr hBs y0 y1 y2 y3 y4 y5 y6 y7 y8 y9 yA yB u0 u1 u2 u3 u4 u5 u6 u7 u8 u9 uA
  go_wp2
  go_ret2
  exact ⟨_, rfl, HFIN.out.1, HFIN.out.2⟩
end Go.Proofs.Ythnffdlnhfhabaa
namespace Go.Proofs.Ythnffdlnhfhabaa
open Go.RowKit

set_option linter.unusedSimpArgs false in
set_option linter.unusedVariables false in
set_option maxRecDepth 100000 in
set_option maxHeartbeats 4000000 in
theorem renc_H (ki : Int) (hk : fldC ki = some [72]) (ak : Int) (ha la hi lo : Nat) (of : Int) (mt : Int) (co : Int) (cm : Bool) (a1 a2 : Option Addr) (n c m d : Nat) (bs : List Nat) (its : List It) (w : World) (hval : BytesAt w (.slice a1 n c) bs) (hn : bs.length = n) (hnb : n ≤ 1000000) (hha : ha < 65536) (hla : la < 65536) (hhi : hi < 18446744073709551616) (hlo : lo < 18446744073709551616) (hbs : bs = [])
    (hck : ∀ W, Below w.heap.size w W → Calls Try.prog 13 #[.agg #[.int .i64 ki, .int .i64 ak, .int .u16 ha, .int .u16 la, .int .u64 hi, .int .u64 lo, .int .i64 of, .int .i64 mt, .int .i64 co, .bool cm, .slice a1 n c, .slice a2 m d]] W fun e w' => e = .returned (.int .i64 0) ∧ Below W.heap.size W w') :
    Calls Try.prog 15 #[.agg #[.int .i64 ki, .int .i64 ak, .int .u16 ha, .int .u16 la, .int .u64 hi, .int .u64 lo, .int .i64 of, .int .i64 mt, .int .i64 co, .bool cm, .slice a1 n c, .slice a2 m d]] w fun e w' => ∃ v, e = .returned (.tuple #[v, .int .i64 0]) ∧ BytesAt w' v (encP ki ak ha la hi lo of mt co cm bs its) ∧ Below w.heap.size w w' := by
  obtain ⟨i0, hii, hz0, hz1, hz2⟩ := info_parts Try.info_u8
  have hf : ∀ W, Calls Try.prog 28 #[.int .i64 ki] W (fun e w' => e = .returned (.agg #[.bool true, .bool false, .bool true, .bool false, .bool false, .bool false, .bool false, .bool false, .bool false, .bool false, .bool false]) ∧ Below W.heap.size W w') := fun W => by
    have h := rfields_any ki W
    rw [hk] at h
    exact h
  obtain ⟨K, hKK⟩ := fldC_nat ki hk
  have hb0 : IntKind.u8.wrap ki = ((byt K 0 : Nat) : Int) := by rw [hKK]; exact byt0 K
  have hkt : ki.toNat = K := by rw [hKK]; rfl
  obtain ⟨R, hR⟩ : ∃ R, encP ki ak ha la hi lo of mt co cm bs its = R := ⟨_, rfl⟩
  have hres : R = [byt K 0] ++ putB ha 2 ++ bs := by
    rw [← hR]
    unfold encP
    rw [hk]
    subst hbs
    simp [flB, ix, leF, fiB, gI, si, siF, List.idxOf_cons, hkt]
  rw [hR]
  have hRl : ∀ x ∈ R, x < 256 := by
    intro x hx
    have hv := hval.2.2 x
    have he := encB_lt hi lo x
    have hp := fun N j => putB_lt N j x
    rw [hres] at hx
    simp only [List.mem_append, List.mem_singleton] at hx
    rcases hx with (h | h) | h
    all_goals first
    | (subst h; exact byt_lt _ _)
    | exact hv h
    | exact he h
    | exact hp _ _ h
  have hB := (Below.refl w.heap.size w).alloc (Nat.le_refl _) (.cells #[.int .i64 ki, .int .i64 ak, .int .u16 ha, .int .u16 la, .int .u64 hi, .int .u64 lo, .int .i64 of, .int .i64 mt, .int .i64 co, .bool cm, .slice a1 n c, .slice a2 m d] 29)
  have bP := Blk.new w 29 [.int .i64 ki, .int .i64 ak, .int .u16 ha, .int .u16 la, .int .u64 hi, .int .u64 lo, .int .i64 of, .int .i64 mt, .int .i64 co, .bool cm, .slice a1 n c, .slice a2 m d]
  have HPH := Lib.hid (fun W => put_any ha 2 (by omega) (by omega) W)
  have b1 : (ha : Int) < 65536 := by omega
  have b2 : (la : Int) < 65536 := by omega
  have HRES := Lib.hid hres
  have HRL := Lib.hid hRl
  have HV := Lib.hid hval
  have HN := Lib.hid hn
  have HF := Lib.hid hf
  have HCK := Lib.hid hck
  clear hkt hKK hres hRl hval hn hf hck hR hk hhi hlo hha hla hbs
  go_enter Try.func15, Try.ntmps15
  go_upto_region 1 with fail
  generalize World.alloc _ _ = V at bP hB ⊢
  have HBP := Lib.hid bP
  have HB := Lib.hid hB
  have TP := bP.cells
  have hOpen := TP
  simp only [Cells, blk, List.cons_append, List.nil_append, and_true, Nat.reduceAdd, Nat.add_zero, Nat.zero_add] at hOpen
  obtain ⟨y0, y1, y2, y3, y4, y5, y6, y7, y8, y9, yA, yB⟩ := hOpen
  clear TP bP hB
  go_wp2_with fail
  refine (HCK.out _ HB.out).mono ?_
  rintro e w1 ⟨rfl, hB1⟩
  have HBP1 := Lib.hid (HBP.out.below hB1)
  have HB1 := Lib.hid (HB.out.trans (hB1.mono HB.out.size))
  have TP := HBP1.out.cells
  clear y0 y1 y2 y3 y4 y5 y6 y7 y8 y9 yA yB hB1 HB HBP HCK
  have hOpen := TP
  simp only [Cells, blk, List.cons_append, List.nil_append, and_true, Nat.reduceAdd, Nat.add_zero, Nat.zero_add] at hOpen
  obtain ⟨y0, y1, y2, y3, y4, y5, y6, y7, y8, y9, yA, yB⟩ := hOpen
  clear TP
  go_wp2_with fail
  refine (HF.out _).mono ?_
  rintro e w2 ⟨rfl, hB2⟩
  have bP := (HBP1.out.below hB2).alloc (.cells #[.bool true, .bool false, .bool true, .bool false, .bool false, .bool false, .bool false, .bool false, .bool false, .bool false, .bool false] 58)
  have bU := Blk.new w2 58 [.bool true, .bool false, .bool true, .bool false, .bool false, .bool false, .bool false, .bool false, .bool false, .bool false, .bool false]
  have hB2' := HB1.out.trans (hB2.mono HB1.out.size)
  have hB3 := hB2'.alloc hB2'.size (.cells #[.bool true, .bool false, .bool true, .bool false, .bool false, .bool false, .bool false, .bool false, .bool false, .bool false, .bool false] 58)
  clear y0 y1 y2 y3 y4 y5 y6 y7 y8 y9 yA yB hB2 hB2' HB1 HBP1 HF
  go_upto_region 5 with fail
  generalize World.alloc _ _ = Y at bP bU hB3 ⊢
  have TP := bP.cells
  have hOpen := TP
  simp only [Cells, blk, List.cons_append, List.nil_append, and_true, Nat.reduceAdd, Nat.add_zero, Nat.zero_add] at hOpen
  obtain ⟨y0, y1, y2, y3, y4, y5, y6, y7, y8, y9, yA, yB⟩ := hOpen
  have hlit := own_lit Y [.int .u8 (byt K 0 : Nat)] 1 5 rfl (by decide)
  have bP0 := bP.alloc (.cells #[.int .u8 (byt K 0 : Nat)] 5)
  have bU0 := bU.alloc (.cells #[.int .u8 (byt K 0 : Nat)] 5)
  have hB4 := hB3.alloc hB3.size (.cells #[.int .u8 (byt K 0 : Nat)] 5)
  have hYs := hB3.size
  clear TP bP bU hB3
  go_upto_region 6 with fail
  clear y0 y1 y2 y3 y4 y5 y6 y7 y8 y9 yA yB
  generalize World.alloc _ _ = W0 at hlit bP0 bU0 hB4 ⊢
  obtain ⟨v0, hv0⟩ : ∃ v : Value, v = .slice (some ⟨Y.heap.size, 0, none⟩) 1 1 := ⟨_, rfl⟩
  rw [← hv0] at hlit ⊢
  clear hv0
  have HO0 := Lib.hid (show OwnB w W0 v0 [byt K 0] from ⟨own_base hlit hYs, hB4⟩)
  have HBP0 := Lib.hid bP0
  have HBU0 := Lib.hid bU0
  clear hlit bP0 bU0 hB4 hYs
  have TP := HBP0.out.cells
  have TU := HBU0.out.cells
  have hOpen := TP
  simp only [Cells, blk, List.cons_append, List.nil_append, and_true, Nat.reduceAdd, Nat.add_zero, Nat.zero_add] at hOpen
  obtain ⟨y0, y1, y2, y3, y4, y5, y6, y7, y8, y9, yA, yB⟩ := hOpen
  have hOpen := TU
  simp only [Cells, blk, List.cons_append, List.nil_append, and_true, Nat.reduceAdd, Nat.add_zero, Nat.zero_add] at hOpen
  obtain ⟨u0, u1, u2, u3, u4, u5, u6, u7, u8, u9, uA⟩ := hOpen
  clear TP TU
  go_wp2_with fail
  refine (HPH.out _).mono ?_
  rintro e wb1 ⟨vb, rfl, hvb, hBb⟩
  have hO := HO0.out.below hBb
  have hown : wb1.ownsRow w.heap.size 5 1 v0 (1) _ := own_len hO.1 (by simp [putB_len])
  have hBs := hO.2.size
  have hsr := SR.of_own hvb (bcells_one _) (by unfold maxLen; omega)
  have HBPb := Lib.hid (HBP0.out.below hBb)
  have HBUb := Lib.hid (HBU0.out.below hBb)
  have HOb := Lib.hid hO
  clear hvb hBb hO y0 y1 y2 y3 y4 y5 y6 y7 y8 y9 yA yB u0 u1 u2 u3 u4 u5 u6 u7 u8 u9 uA
  go_wp2_with (at_builtin; refine wpList_append_all rfl _ _ 26 rfl w.heap.size 5 i0 (.int .u8 0) 1 1 Try.underlying26 hii hz0 hz1 hz2 rfl (by decide) _ _ _ rfl hown _ 2 _ rfl hsr (by unfold maxLen; omega) (by omega) hBs ?_)
  intro v1 W1 hown' hg _
  have hBP1 := HBPb.out.kept hg (HBPb.out.not_row (by decide) hown)
  have hBU1 := HBUb.out.kept hg (HBUb.out.not_row (by decide) hown)
  have hO1 := HOb.out.app hg (own_len' hown') rfl (by simp [putB_len]) (putB_len _ _)
  have HO1 := Lib.hid hO1
  have HBP1 := Lib.hid hBP1
  have HBU1 := Lib.hid hBU1
  clear hown hown' hg hBP1 hBU1 hO1 hsr hBs HOb HBPb HBUb
  have TP := HBP1.out.cells
  have TU := HBU1.out.cells
  have hOpen := TP
  simp only [Cells, blk, List.cons_append, List.nil_append, and_true, Nat.reduceAdd, Nat.add_zero, Nat.zero_add] at hOpen
  obtain ⟨y0, y1, y2, y3, y4, y5, y6, y7, y8, y9, yA, yB⟩ := hOpen
  have hOpen := TU
  simp only [Cells, blk, List.cons_append, List.nil_append, and_true, Nat.reduceAdd, Nat.add_zero, Nat.zero_add] at hOpen
  obtain ⟨u0, u1, u2, u3, u4, u5, u6, u7, u8, u9, uA⟩ := hOpen
  clear TP TU
  have hO := HO1.out
  have hown : W1.ownsRow w.heap.size 5 1 v1 (1 + 2) _ := own_len hO.1 (by simp [putB_len])
  have hBs := hO.2.size
  have hsr := (HV.out.below hO.2).sr HN.out
  clear hO
  go_wp2_with (at_builtin; refine wpList_append_all rfl _ _ 26 rfl w.heap.size 5 i0 (.int .u8 0) 1 1 Try.underlying26 hii hz0 hz1 hz2 rfl (by decide) _ _ _ rfl hown _ n _ rfl hsr (by unfold maxLen; omega) (by omega) hBs ?_)
  intro vf wf hown' hg _
  have hOf := HO1.out.app hg (own_len' hown') rfl (by simp [putB_len]) HN.out
  have hRf := HRES.out
  
  have hby := hOf.bytes (by rw [← hRf]; exact HRL.out) (by simp [putB_len, HN.out]; omega)
  rw [← hRf] at hby
  have HFIN := Lib.hid (And.intro hby hOf.2)
  clear hown hown' hg hOf hRf hby hsr hBs y0 y1 y2 y3 y4 y5 y6 y7 y8 y9 yA yB u0 u1 u2 u3 u4 u5 u6 u7 u8 u9 uA
  go_wp2
  go_ret2
  exact ⟨_, rfl, HFIN.out.1, HFIN.out.2⟩
set_option linter.unusedSimpArgs false in
set_option linter.unusedVariables false in
set_option maxRecDepth 100000 in
set_option maxHeartbeats 4000000 in
theorem renc_HO (ki : Int) (hk : fldC ki = some [72, 79]) (ak : Int) (ha la hi lo : Nat) (of : Nat) (mt : Int) (co : Int) (cm : Bool) (a1 a2 : Option Addr) (n c m d : Nat) (bs : List Nat) (its : List It) (w : World) (hval : BytesAt w (.slice a1 n c) bs) (hn : bs.length = n) (hnb : n ≤ 1000000) (hha : ha < 65536) (hla : la < 65536) (hhi : hi < 18446744073709551616) (hlo : lo < 18446744073709551616) (hof : of < 65536) (hbs : bs = [])
    (hck : ∀ W, Below w.heap.size w W → Calls Try.prog 13 #[.agg #[.int .i64 ki, .int .i64 ak, .int .u16 ha, .int .u16 la, .int .u64 hi, .int .u64 lo, .int .i64 (of : Nat), .int .i64 mt, .int .i64 co, .bool cm, .slice a1 n c, .slice a2 m d]] W fun e w' => e = .returned (.int .i64 0) ∧ Below W.heap.size W w') :
    Calls Try.prog 15 #[.agg #[.int .i64 ki, .int .i64 ak, .int .u16 ha, .int .u16 la, .int .u64 hi, .int .u64 lo, .int .i64 (of : Nat), .int .i64 mt, .int .i64 co, .bool cm, .slice a1 n c, .slice a2 m d]] w fun e w' => ∃ v, e = .returned (.tuple #[v, .int .i64 0]) ∧ BytesAt w' v (encP ki ak ha la hi lo of mt co cm bs its) ∧ Below w.heap.size w w' := by
  obtain ⟨i0, hii, hz0, hz1, hz2⟩ := info_parts Try.info_u8
  have hf : ∀ W, Calls Try.prog 28 #[.int .i64 ki] W (fun e w' => e = .returned (.agg #[.bool true, .bool false, .bool true, .bool false, .bool false, .bool true, .bool false, .bool false, .bool false, .bool false, .bool false]) ∧ Below W.heap.size W w') := fun W => by
    have h := rfields_any ki W
    rw [hk] at h
    exact h
  obtain ⟨K, hKK⟩ := fldC_nat ki hk
  have hb0 : IntKind.u8.wrap ki = ((byt K 0 : Nat) : Int) := by rw [hKK]; exact byt0 K
  have hkt : ki.toNat = K := by rw [hKK]; rfl
  obtain ⟨R, hR⟩ : ∃ R, encP ki ak ha la hi lo of mt co cm bs its = R := ⟨_, rfl⟩
  have hres : R = [byt K 0] ++ putB ha 2 ++ putB of 2 ++ bs := by
    rw [← hR]
    unfold encP
    rw [hk]
    subst hbs
    simp [flB, ix, leF, fiB, gI, si, siF, List.idxOf_cons, hkt]
  rw [hR]
  have hRl : ∀ x ∈ R, x < 256 := by
    intro x hx
    have hv := hval.2.2 x
    have he := encB_lt hi lo x
    have hp := fun N j => putB_lt N j x
    rw [hres] at hx
    simp only [List.mem_append, List.mem_singleton] at hx
    rcases hx with ((h | h) | h) | h
    all_goals first
    | (subst h; exact byt_lt _ _)
    | exact hv h
    | exact he h
    | exact hp _ _ h
  have hB := (Below.refl w.heap.size w).alloc (Nat.le_refl _) (.cells #[.int .i64 ki, .int .i64 ak, .int .u16 ha, .int .u16 la, .int .u64 hi, .int .u64 lo, .int .i64 (of : Nat), .int .i64 mt, .int .i64 co, .bool cm, .slice a1 n c, .slice a2 m d] 29)
  have bP := Blk.new w 29 [.int .i64 ki, .int .i64 ak, .int .u16 ha, .int .u16 la, .int .u64 hi, .int .u64 lo, .int .i64 (of : Nat), .int .i64 mt, .int .i64 co, .bool cm, .slice a1 n c, .slice a2 m d]
  have HPH := Lib.hid (fun W => put_any ha 2 (by omega) (by omega) W)
  have HPO := Lib.hid (fun W => put_any of 2 (by omega) (by omega) W)
  have qO : (of : Int) < 65536 := by omega
  have b1 : (ha : Int) < 65536 := by omega
  have b2 : (la : Int) < 65536 := by omega
  have HRES := Lib.hid hres
  have HRL := Lib.hid hRl
  have HV := Lib.hid hval
  have HN := Lib.hid hn
  have HF := Lib.hid hf
  have HCK := Lib.hid hck
  clear hkt hKK hres hRl hval hn hf hck hR hk hhi hlo hha hla hbs
  go_enter Try.func15, Try.ntmps15
  go_upto_region 1 with fail
  generalize World.alloc _ _ = V at bP hB ⊢
  have HBP := Lib.hid bP
  have HB := Lib.hid hB
  have TP := bP.cells
  have hOpen := TP
  simp only [Cells, blk, List.cons_append, List.nil_append, and_true, Nat.reduceAdd, Nat.add_zero, Nat.zero_add] at hOpen
  obtain ⟨y0, y1, y2, y3, y4, y5, y6, y7, y8, y9, yA, yB⟩ := hOpen
  clear TP bP hB
  go_wp2_with fail
  refine (HCK.out _ HB.out).mono ?_
  rintro e w1 ⟨rfl, hB1⟩
  have HBP1 := Lib.hid (HBP.out.below hB1)
  have HB1 := Lib.hid (HB.out.trans (hB1.mono HB.out.size))
  have TP := HBP1.out.cells
  clear y0 y1 y2 y3 y4 y5 y6 y7 y8 y9 yA yB hB1 HB HBP HCK
  have hOpen := TP
  simp only [Cells, blk, List.cons_append, List.nil_append, and_true, Nat.reduceAdd, Nat.add_zero, Nat.zero_add] at hOpen
  obtain ⟨y0, y1, y2, y3, y4, y5, y6, y7, y8, y9, yA, yB⟩ := hOpen
  clear TP
  go_wp2_with fail
  refine (HF.out _).mono ?_
  rintro e w2 ⟨rfl, hB2⟩
  have bP := (HBP1.out.below hB2).alloc (.cells #[.bool true, .bool false, .bool true, .bool false, .bool false, .bool true, .bool false, .bool false, .bool false, .bool false, .bool false] 58)
  have bU := Blk.new w2 58 [.bool true, .bool false, .bool true, .bool false, .bool false, .bool true, .bool false, .bool false, .bool false, .bool false, .bool false]
  have hB2' := HB1.out.trans (hB2.mono HB1.out.size)
  have hB3 := hB2'.alloc hB2'.size (.cells #[.bool true, .bool false, .bool true, .bool false, .bool false, .bool true, .bool false, .bool false, .bool false, .bool false, .bool false] 58)
  clear y0 y1 y2 y3 y4 y5 y6 y7 y8 y9 yA yB hB2 hB2' HB1 HBP1 HF
  go_upto_region 5 with fail
  generalize World.alloc _ _ = Y at bP bU hB3 ⊢
  have TP := bP.cells
  have hOpen := TP
  simp only [Cells, blk, List.cons_append, List.nil_append, and_true, Nat.reduceAdd, Nat.add_zero, Nat.zero_add] at hOpen
  obtain ⟨y0, y1, y2, y3, y4, y5, y6, y7, y8, y9, yA, yB⟩ := hOpen
  have hlit := own_lit Y [.int .u8 (byt K 0 : Nat)] 1 5 rfl (by decide)
  have bP0 := bP.alloc (.cells #[.int .u8 (byt K 0 : Nat)] 5)
  have bU0 := bU.alloc (.cells #[.int .u8 (byt K 0 : Nat)] 5)
  have hB4 := hB3.alloc hB3.size (.cells #[.int .u8 (byt K 0 : Nat)] 5)
  have hYs := hB3.size
  clear TP bP bU hB3
  go_upto_region 6 with fail
  clear y0 y1 y2 y3 y4 y5 y6 y7 y8 y9 yA yB
  generalize World.alloc _ _ = W0 at hlit bP0 bU0 hB4 ⊢
  obtain ⟨v0, hv0⟩ : ∃ v : Value, v = .slice (some ⟨Y.heap.size, 0, none⟩) 1 1 := ⟨_, rfl⟩
  rw [← hv0] at hlit ⊢
  clear hv0
  have HO0 := Lib.hid (show OwnB w W0 v0 [byt K 0] from ⟨own_base hlit hYs, hB4⟩)
  have HBP0 := Lib.hid bP0
  have HBU0 := Lib.hid bU0
  clear hlit bP0 bU0 hB4 hYs
  have TP := HBP0.out.cells
  have TU := HBU0.out.cells
  have hOpen := TP
  simp only [Cells, blk, List.cons_append, List.nil_append, and_true, Nat.reduceAdd, Nat.add_zero, Nat.zero_add] at hOpen
  obtain ⟨y0, y1, y2, y3, y4, y5, y6, y7, y8, y9, yA, yB⟩ := hOpen
  have hOpen := TU
  simp only [Cells, blk, List.cons_append, List.nil_append, and_true, Nat.reduceAdd, Nat.add_zero, Nat.zero_add] at hOpen
  obtain ⟨u0, u1, u2, u3, u4, u5, u6, u7, u8, u9, uA⟩ := hOpen
  clear TP TU
  go_wp2_with fail
  refine (HPH.out _).mono ?_
  rintro e wb1 ⟨vb, rfl, hvb, hBb⟩
  have hO := HO0.out.below hBb
  have hown : wb1.ownsRow w.heap.size 5 1 v0 (1) _ := own_len hO.1 (by simp [putB_len])
  have hBs := hO.2.size
  have hsr := SR.of_own hvb (bcells_one _) (by unfold maxLen; omega)
  have HBPb := Lib.hid (HBP0.out.below hBb)
  have HBUb := Lib.hid (HBU0.out.below hBb)
  have HOb := Lib.hid hO
  clear hvb hBb hO y0 y1 y2 y3 y4 y5 y6 y7 y8 y9 yA yB u0 u1 u2 u3 u4 u5 u6 u7 u8 u9 uA
  go_wp2_with (at_builtin; refine wpList_append_all rfl _ _ 26 rfl w.heap.size 5 i0 (.int .u8 0) 1 1 Try.underlying26 hii hz0 hz1 hz2 rfl (by decide) _ _ _ rfl hown _ 2 _ rfl hsr (by unfold maxLen; omega) (by omega) hBs ?_)
  intro v1 W1 hown' hg _
  have hBP1 := HBPb.out.kept hg (HBPb.out.not_row (by decide) hown)
  have hBU1 := HBUb.out.kept hg (HBUb.out.not_row (by decide) hown)
  have hO1 := HOb.out.app hg (own_len' hown') rfl (by simp [putB_len]) (putB_len _ _)
  have HO1 := Lib.hid hO1
  have HBP1 := Lib.hid hBP1
  have HBU1 := Lib.hid hBU1
  clear hown hown' hg hBP1 hBU1 hO1 hsr hBs HOb HBPb HBUb
  have TP := HBP1.out.cells
  have TU := HBU1.out.cells
  have hOpen := TP
  simp only [Cells, blk, List.cons_append, List.nil_append, and_true, Nat.reduceAdd, Nat.add_zero, Nat.zero_add] at hOpen
  obtain ⟨y0, y1, y2, y3, y4, y5, y6, y7, y8, y9, yA, yB⟩ := hOpen
  have hOpen := TU
  simp only [Cells, blk, List.cons_append, List.nil_append, and_true, Nat.reduceAdd, Nat.add_zero, Nat.zero_add] at hOpen
  obtain ⟨u0, u1, u2, u3, u4, u5, u6, u7, u8, u9, uA⟩ := hOpen
  clear TP TU
  go_wp2_with fail
  refine (HPO.out _).mono ?_
  rintro e wb2 ⟨vb, rfl, hvb, hBb⟩
  have hO := HO1.out.below hBb
  have hown : wb2.ownsRow w.heap.size 5 1 v1 (1 + 2) _ := own_len hO.1 (by simp [putB_len])
  have hBs := hO.2.size
  have hsr := SR.of_own hvb (bcells_one _) (by unfold maxLen; omega)
  have HBPb := Lib.hid (HBP1.out.below hBb)
  have HBUb := Lib.hid (HBU1.out.below hBb)
  have HOb := Lib.hid hO
  clear hvb hBb hO y0 y1 y2 y3 y4 y5 y6 y7 y8 y9 yA yB u0 u1 u2 u3 u4 u5 u6 u7 u8 u9 uA
  go_wp2_with (at_builtin; refine wpList_append_all rfl _ _ 26 rfl w.heap.size 5 i0 (.int .u8 0) 1 1 Try.underlying26 hii hz0 hz1 hz2 rfl (by decide) _ _ _ rfl hown _ 2 _ rfl hsr (by unfold maxLen; omega) (by omega) hBs ?_)
  intro v2 W2 hown' hg _
  have hBP2 := HBPb.out.kept hg (HBPb.out.not_row (by decide) hown)
  have hBU2 := HBUb.out.kept hg (HBUb.out.not_row (by decide) hown)
  have hO2 := HOb.out.app hg (own_len' hown') rfl (by simp [putB_len]) (putB_len _ _)
  have HO2 := Lib.hid hO2
  have HBP2 := Lib.hid hBP2
  have HBU2 := Lib.hid hBU2
  clear hown hown' hg hBP2 hBU2 hO2 hsr hBs HOb HBPb HBUb
  have TP := HBP2.out.cells
  have TU := HBU2.out.cells
  have hOpen := TP
  simp only [Cells, blk, List.cons_append, List.nil_append, and_true, Nat.reduceAdd, Nat.add_zero, Nat.zero_add] at hOpen
  obtain ⟨y0, y1, y2, y3, y4, y5, y6, y7, y8, y9, yA, yB⟩ := hOpen
  have hOpen := TU
  simp only [Cells, blk, List.cons_append, List.nil_append, and_true, Nat.reduceAdd, Nat.add_zero, Nat.zero_add] at hOpen
  obtain ⟨u0, u1, u2, u3, u4, u5, u6, u7, u8, u9, uA⟩ := hOpen
  clear TP TU
  have hO := HO2.out
  have hown : W2.ownsRow w.heap.size 5 1 v2 (1 + 2 + 2) _ := own_len hO.1 (by simp [putB_len])
  have hBs := hO.2.size
  have hsr := (HV.out.below hO.2).sr HN.out
  clear hO
  go_wp2_with (at_builtin; refine wpList_append_all rfl _ _ 26 rfl w.heap.size 5 i0 (.int .u8 0) 1 1 Try.underlying26 hii hz0 hz1 hz2 rfl (by decide) _ _ _ rfl hown _ n _ rfl hsr (by unfold maxLen; omega) (by omega) hBs ?_)
  intro vf wf hown' hg _
  have hOf := HO2.out.app hg (own_len' hown') rfl (by simp [putB_len]) HN.out
  have hRf := HRES.out
  
  have hby := hOf.bytes (by rw [← hRf]; exact HRL.out) (by simp [putB_len, HN.out]; omega)
  rw [← hRf] at hby
  have HFIN := Lib.hid (And.intro hby hOf.2)
  clear hown hown' hg hOf hRf hby hsr hBs y0 y1 y2 y3 y4 y5 y6 y7 y8 y9 yA yB u0 u1 u2 u3 u4 u5 u6 u7 u8 u9 uA
  go_wp2
  go_ret2
  exact ⟨_, rfl, HFIN.out.1, HFIN.out.2⟩
set_option linter.unusedSimpArgs false in
set_option linter.unusedVariables false in
set_option maxRecDepth 100000 in
set_option maxHeartbeats 4000000 in
theorem renc_V (ki : Int) (hk : fldC ki = some [86]) (ak : Int) (ha la hi lo : Nat) (of : Int) (mt : Int) (co : Int) (cm : Bool) (a1 a2 : Option Addr) (n c m d : Nat) (bs : List Nat) (its : List It) (w : World) (hval : BytesAt w (.slice a1 n c) bs) (hn : bs.length = n) (hnb : n ≤ 1000000) (hha : ha < 65536) (hla : la < 65536) (hhi : hi < 18446744073709551616) (hlo : lo < 18446744073709551616)
    (hck : ∀ W, Below w.heap.size w W → Calls Try.prog 13 #[.agg #[.int .i64 ki, .int .i64 ak, .int .u16 ha, .int .u16 la, .int .u64 hi, .int .u64 lo, .int .i64 of, .int .i64 mt, .int .i64 co, .bool cm, .slice a1 n c, .slice a2 m d]] W fun e w' => e = .returned (.int .i64 0) ∧ Below W.heap.size W w') :
    Calls Try.prog 15 #[.agg #[.int .i64 ki, .int .i64 ak, .int .u16 ha, .int .u16 la, .int .u64 hi, .int .u64 lo, .int .i64 of, .int .i64 mt, .int .i64 co, .bool cm, .slice a1 n c, .slice a2 m d]] w fun e w' => ∃ v, e = .returned (.tuple #[v, .int .i64 0]) ∧ BytesAt w' v (encP ki ak ha la hi lo of mt co cm bs its) ∧ Below w.heap.size w w' := by
  obtain ⟨i0, hii, hz0, hz1, hz2⟩ := info_parts Try.info_u8
  have hf : ∀ W, Calls Try.prog 28 #[.int .i64 ki] W (fun e w' => e = .returned (.agg #[.bool true, .bool false, .bool false, .bool false, .bool false, .bool false, .bool false, .bool false, .bool false, .bool true, .bool false]) ∧ Below W.heap.size W w') := fun W => by
    have h := rfields_any ki W
    rw [hk] at h
    exact h
  obtain ⟨K, hKK⟩ := fldC_nat ki hk
  have hb0 : IntKind.u8.wrap ki = ((byt K 0 : Nat) : Int) := by rw [hKK]; exact byt0 K
  have hkt : ki.toNat = K := by rw [hKK]; rfl
  obtain ⟨R, hR⟩ : ∃ R, encP ki ak ha la hi lo of mt co cm bs its = R := ⟨_, rfl⟩
  have hres : R = [byt K 0] ++ bs := by
    rw [← hR]
    unfold encP
    rw [hk]
    
    simp [flB, ix, leF, fiB, gI, si, siF, List.idxOf_cons, hkt]
  rw [hR]
  have hRl : ∀ x ∈ R, x < 256 := by
    intro x hx
    have hv := hval.2.2 x
    have he := encB_lt hi lo x
    have hp := fun N j => putB_lt N j x
    rw [hres] at hx
    simp only [List.mem_append, List.mem_singleton] at hx
    rcases hx with h | h
    all_goals first
    | (subst h; exact byt_lt _ _)
    | exact hv h
    | exact he h
    | exact hp _ _ h
  have hB := (Below.refl w.heap.size w).alloc (Nat.le_refl _) (.cells #[.int .i64 ki, .int .i64 ak, .int .u16 ha, .int .u16 la, .int .u64 hi, .int .u64 lo, .int .i64 of, .int .i64 mt, .int .i64 co, .bool cm, .slice a1 n c, .slice a2 m d] 29)
  have bP := Blk.new w 29 [.int .i64 ki, .int .i64 ak, .int .u16 ha, .int .u16 la, .int .u64 hi, .int .u64 lo, .int .i64 of, .int .i64 mt, .int .i64 co, .bool cm, .slice a1 n c, .slice a2 m d]
  have b1 : (ha : Int) < 65536 := by omega
  have b2 : (la : Int) < 65536 := by omega
  have HRES := Lib.hid hres
  have HRL := Lib.hid hRl
  have HV := Lib.hid hval
  have HN := Lib.hid hn
  have HF := Lib.hid hf
  have HCK := Lib.hid hck
  clear hkt hKK hres hRl hval hn hf hck hR hk hhi hlo hha hla
  go_enter Try.func15, Try.ntmps15
  go_upto_region 1 with fail
  generalize World.alloc _ _ = V at bP hB ⊢
  have HBP := Lib.hid bP
  have HB := Lib.hid hB
  have TP := bP.cells
  have hOpen := TP
  simp only [Cells, blk, List.cons_append, List.nil_append, and_true, Nat.reduceAdd, Nat.add_zero, Nat.zero_add] at hOpen
  obtain ⟨y0, y1, y2, y3, y4, y5, y6, y7, y8, y9, yA, yB⟩ := hOpen
  clear TP bP hB
  go_wp2_with fail
  refine (HCK.out _ HB.out).mono ?_
  rintro e w1 ⟨rfl, hB1⟩
  have HBP1 := Lib.hid (HBP.out.below hB1)
  have HB1 := Lib.hid (HB.out.trans (hB1.mono HB.out.size))
  have TP := HBP1.out.cells
  clear y0 y1 y2 y3 y4 y5 y6 y7 y8 y9 yA yB hB1 HB HBP HCK
  have hOpen := TP
  simp only [Cells, blk, List.cons_append, List.nil_append, and_true, Nat.reduceAdd, Nat.add_zero, Nat.zero_add] at hOpen
  obtain ⟨y0, y1, y2, y3, y4, y5, y6, y7, y8, y9, yA, yB⟩ := hOpen
  clear TP
  go_wp2_with fail
  refine (HF.out _).mono ?_
  rintro e w2 ⟨rfl, hB2⟩
  have bP := (HBP1.out.below hB2).alloc (.cells #[.bool true, .bool false, .bool false, .bool false, .bool false, .bool false, .bool false, .bool false, .bool false, .bool true, .bool false] 58)
  have bU := Blk.new w2 58 [.bool true, .bool false, .bool false, .bool false, .bool false, .bool false, .bool false, .bool false, .bool false, .bool true, .bool false]
  have hB2' := HB1.out.trans (hB2.mono HB1.out.size)
  have hB3 := hB2'.alloc hB2'.size (.cells #[.bool true, .bool false, .bool false, .bool false, .bool false, .bool false, .bool false, .bool false, .bool false, .bool true, .bool false] 58)
  clear y0 y1 y2 y3 y4 y5 y6 y7 y8 y9 yA yB hB2 hB2' HB1 HBP1 HF
  go_upto_region 5 with fail
  generalize World.alloc _ _ = Y at bP bU hB3 ⊢
  have TP := bP.cells
  have hOpen := TP
  simp only [Cells, blk, List.cons_append, List.nil_append, and_true, Nat.reduceAdd, Nat.add_zero, Nat.zero_add] at hOpen
  obtain ⟨y0, y1, y2, y3, y4, y5, y6, y7, y8, y9, yA, yB⟩ := hOpen
  have hlit := own_lit Y [.int .u8 (byt K 0 : Nat)] 1 5 rfl (by decide)
  have bP0 := bP.alloc (.cells #[.int .u8 (byt K 0 : Nat)] 5)
  have bU0 := bU.alloc (.cells #[.int .u8 (byt K 0 : Nat)] 5)
  have hB4 := hB3.alloc hB3.size (.cells #[.int .u8 (byt K 0 : Nat)] 5)
  have hYs := hB3.size
  clear TP bP bU hB3
  go_upto_region 6 with fail
  clear y0 y1 y2 y3 y4 y5 y6 y7 y8 y9 yA yB
  generalize World.alloc _ _ = W0 at hlit bP0 bU0 hB4 ⊢
  obtain ⟨v0, hv0⟩ : ∃ v : Value, v = .slice (some ⟨Y.heap.size, 0, none⟩) 1 1 := ⟨_, rfl⟩
  rw [← hv0] at hlit ⊢
  clear hv0
  have HO0 := Lib.hid (show OwnB w W0 v0 [byt K 0] from ⟨own_base hlit hYs, hB4⟩)
  have HBP0 := Lib.hid bP0
  have HBU0 := Lib.hid bU0
  clear hlit bP0 bU0 hB4 hYs
  have TP := HBP0.out.cells
  have TU := HBU0.out.cells
  have hOpen := TP
  simp only [Cells, blk, List.cons_append, List.nil_append, and_true, Nat.reduceAdd, Nat.add_zero, Nat.zero_add] at hOpen
  obtain ⟨y0, y1, y2, y3, y4, y5, y6, y7, y8, y9, yA, yB⟩ := hOpen
  have hOpen := TU
  simp only [Cells, blk, List.cons_append, List.nil_append, and_true, Nat.reduceAdd, Nat.add_zero, Nat.zero_add] at hOpen
  obtain ⟨u0, u1, u2, u3, u4, u5, u6, u7, u8, u9, uA⟩ := hOpen
  clear TP TU
  have hO := HO0.out
  have hown : W0.ownsRow w.heap.size 5 1 v0 (1) _ := own_len hO.1 (by simp [putB_len])
  have hBs := hO.2.size
  have hsr := (HV.out.below hO.2).sr HN.out
  clear hO
  go_wp2_with (at_builtin; refine wpList_append_all rfl _ _ 26 rfl w.heap.size 5 i0 (.int .u8 0) 1 1 Try.underlying26 hii hz0 hz1 hz2 rfl (by decide) _ _ _ rfl hown _ n _ rfl hsr (by unfold maxLen; omega) (by omega) hBs ?_)
  intro vf wf hown' hg _
  have hOf := HO0.out.app hg (own_len' hown') rfl (by simp [putB_len]) HN.out
  have hRf := HRES.out
  
  have hby := hOf.bytes (by rw [← hRf]; exact HRL.out) (by simp [putB_len, HN.out]; omega)
  rw [← hRf] at hby
  have HFIN := Lib.hid (And.intro hby hOf.2)
  clear hown hown' hg hOf hRf hby hsr hBs y0 y1 y2 y3 y4 y5 y6 y7 y8 y9 yA yB u0 u1 u2 u3 u4 u5 u6 u7 u8 u9 uA
  go_wp2
  go_ret2
  exact ⟨_, rfl, HFIN.out.1, HFIN.out.2⟩
set_option linter.unusedSimpArgs false in
set_option linter.unusedVariables false in
set_option maxRecDepth 100000 in
set_option maxHeartbeats 4000000 in
theorem renc_HV (ki : Int) (hk : fldC ki = some [72, 86]) (ak : Int) (ha la hi lo : Nat) (of : Int) (mt : Int) (co : Int) (cm : Bool) (a1 a2 : Option Addr) (n c m d : Nat) (bs : List Nat) (its : List It) (w : World) (hval : BytesAt w (.slice a1 n c) bs) (hn : bs.length = n) (hnb : n ≤ 1000000) (hha : ha < 65536) (hla : la < 65536) (hhi : hi < 18446744073709551616) (hlo : lo < 18446744073709551616)
    (hck : ∀ W, Below w.heap.size w W → Calls Try.prog 13 #[.agg #[.int .i64 ki, .int .i64 ak, .int .u16 ha, .int .u16 la, .int .u64 hi, .int .u64 lo, .int .i64 of, .int .i64 mt, .int .i64 co, .bool cm, .slice a1 n c, .slice a2 m d]] W fun e w' => e = .returned (.int .i64 0) ∧ Below W.heap.size W w') :
    Calls Try.prog 15 #[.agg #[.int .i64 ki, .int .i64 ak, .int .u16 ha, .int .u16 la, .int .u64 hi, .int .u64 lo, .int .i64 of, .int .i64 mt, .int .i64 co, .bool cm, .slice a1 n c, .slice a2 m d]] w fun e w' => ∃ v, e = .returned (.tuple #[v, .int .i64 0]) ∧ BytesAt w' v (encP ki ak ha la hi lo of mt co cm bs its) ∧ Below w.heap.size w w' := by
  obtain ⟨i0, hii, hz0, hz1, hz2⟩ := info_parts Try.info_u8
  have hf : ∀ W, Calls Try.prog 28 #[.int .i64 ki] W (fun e w' => e = .returned (.agg #[.bool true, .bool false, .bool true, .bool false, .bool false, .bool false, .bool false, .bool false, .bool false, .bool true, .bool false]) ∧ Below W.heap.size W w') := fun W => by
    have h := rfields_any ki W
    rw [hk] at h
    exact h
  obtain ⟨K, hKK⟩ := fldC_nat ki hk
  have hb0 : IntKind.u8.wrap ki = ((byt K 0 : Nat) : Int) := by rw [hKK]; exact byt0 K
  have hkt : ki.toNat = K := by rw [hKK]; rfl
  obtain ⟨R, hR⟩ : ∃ R, encP ki ak ha la hi lo of mt co cm bs its = R := ⟨_, rfl⟩
  have hres : R = [byt K 0] ++ putB ha 2 ++ bs := by
    rw [← hR]
    unfold encP
    rw [hk]
    
    simp [flB, ix, leF, fiB, gI, si, siF, List.idxOf_cons, hkt]
  rw [hR]
  have hRl : ∀ x ∈ R, x < 256 := by
    intro x hx
    have hv := hval.2.2 x
    have he := encB_lt hi lo x
    have hp := fun N j => putB_lt N j x
    rw [hres] at hx
    simp only [List.mem_append, List.mem_singleton] at hx
    rcases hx with (h | h) | h
    all_goals first
    | (subst h; exact byt_lt _ _)
    | exact hv h
    | exact he h
    | exact hp _ _ h
  have hB := (Below.refl w.heap.size w).alloc (Nat.le_refl _) (.cells #[.int .i64 ki, .int .i64 ak, .int .u16 ha, .int .u16 la, .int .u64 hi, .int .u64 lo, .int .i64 of, .int .i64 mt, .int .i64 co, .bool cm, .slice a1 n c, .slice a2 m d] 29)
  have bP := Blk.new w 29 [.int .i64 ki, .int .i64 ak, .int .u16 ha, .int .u16 la, .int .u64 hi, .int .u64 lo, .int .i64 of, .int .i64 mt, .int .i64 co, .bool cm, .slice a1 n c, .slice a2 m d]
  have HPH := Lib.hid (fun W => put_any ha 2 (by omega) (by omega) W)
  have b1 : (ha : Int) < 65536 := by omega
  have b2 : (la : Int) < 65536 := by omega
  have HRES := Lib.hid hres
  have HRL := Lib.hid hRl
  have HV := Lib.hid hval
  have HN := Lib.hid hn
  have HF := Lib.hid hf
  have HCK := Lib.hid hck
  clear hkt hKK hres hRl hval hn hf hck hR hk hhi hlo hha hla
  go_enter Try.func15, Try.ntmps15
  go_upto_region 1 with fail
  generalize World.alloc _ _ = V at bP hB ⊢
  have HBP := Lib.hid bP
  have HB := Lib.hid hB
  have TP := bP.cells
  have hOpen := TP
  simp only [Cells, blk, List.cons_append, List.nil_append, and_true, Nat.reduceAdd, Nat.add_zero, Nat.zero_add] at hOpen
  obtain ⟨y0, y1, y2, y3, y4, y5, y6, y7, y8, y9, yA, yB⟩ := hOpen
  clear TP bP hB
  go_wp2_with fail
  refine (HCK.out _ HB.out).mono ?_
  rintro e w1 ⟨rfl, hB1⟩
  have HBP1 := Lib.hid (HBP.out.below hB1)
  have HB1 := Lib.hid (HB.out.trans (hB1.mono HB.out.size))
  have TP := HBP1.out.cells
  clear y0 y1 y2 y3 y4 y5 y6 y7 y8 y9 yA yB hB1 HB HBP HCK
  have hOpen := TP
  simp only [Cells, blk, List.cons_append, List.nil_append, and_true, Nat.reduceAdd, Nat.add_zero, Nat.zero_add] at hOpen
  obtain ⟨y0, y1, y2, y3, y4, y5, y6, y7, y8, y9, yA, yB⟩ := hOpen
  clear TP
  go_wp2_with fail
  refine (HF.out _).mono ?_
  rintro e w2 ⟨rfl, hB2⟩
  have bP := (HBP1.out.below hB2).alloc (.cells #[.bool true, .bool false, .bool true, .bool false, .bool false, .bool false, .bool false, .bool false, .bool false, .bool true, .bool false] 58)
  have bU := Blk.new w2 58 [.bool true, .bool false, .bool true, .bool false, .bool false, .bool false, .bool false, .bool false, .bool false, .bool true, .bool false]
  have hB2' := HB1.out.trans (hB2.mono HB1.out.size)
  have hB3 := hB2'.alloc hB2'.size (.cells #[.bool true, .bool false, .bool true, .bool false, .bool false, .bool false, .bool false, .bool false, .bool false, .bool true, .bool false] 58)
  clear y0 y1 y2 y3 y4 y5 y6 y7 y8 y9 yA yB hB2 hB2' HB1 HBP1 HF
  go_upto_region 5 with fail
  generalize World.alloc _ _ = Y at bP bU hB3 ⊢
  have TP := bP.cells
  have hOpen := TP
  simp only [Cells, blk, List.cons_append, List.nil_append, and_true, Nat.reduceAdd, Nat.add_zero, Nat.zero_add] at hOpen
  obtain ⟨y0, y1, y2, y3, y4, y5, y6, y7, y8, y9, yA, yB⟩ := hOpen
  have hlit := own_lit Y [.int .u8 (byt K 0 : Nat)] 1 5 rfl (by decide)
  have bP0 := bP.alloc (.cells #[.int .u8 (byt K 0 : Nat)] 5)
  have bU0 := bU.alloc (.cells #[.int .u8 (byt K 0 : Nat)] 5)
  have hB4 := hB3.alloc hB3.size (.cells #[.int .u8 (byt K 0 : Nat)] 5)
  have hYs := hB3.size
  clear TP bP bU hB3
  go_upto_region 6 with fail
  clear y0 y1 y2 y3 y4 y5 y6 y7 y8 y9 yA yB
  generalize World.alloc _ _ = W0 at hlit bP0 bU0 hB4 ⊢
  obtain ⟨v0, hv0⟩ : ∃ v : Value, v = .slice (some ⟨Y.heap.size, 0, none⟩) 1 1 := ⟨_, rfl⟩
  rw [← hv0] at hlit ⊢
  clear hv0
  have HO0 := Lib.hid (show OwnB w W0 v0 [byt K 0] from ⟨own_base hlit hYs, hB4⟩)
  have HBP0 := Lib.hid bP0
  have HBU0 := Lib.hid bU0
  clear hlit bP0 bU0 hB4 hYs
  have TP := HBP0.out.cells
  have TU := HBU0.out.cells
  have hOpen := TP
  simp only [Cells, blk, List.cons_append, List.nil_append, and_true, Nat.reduceAdd, Nat.add_zero, Nat.zero_add] at hOpen
  obtain ⟨y0, y1, y2, y3, y4, y5, y6, y7, y8, y9, yA, yB⟩ := hOpen
  have hOpen := TU
  simp only [Cells, blk, List.cons_append, List.nil_append, and_true, Nat.reduceAdd, Nat.add_zero, Nat.zero_add] at hOpen
  obtain ⟨u0, u1, u2, u3, u4, u5, u6, u7, u8, u9, uA⟩ := hOpen
  clear TP TU
  go_wp2_with fail
  refine (HPH.out _).mono ?_
  rintro e wb1 ⟨vb, rfl, hvb, hBb⟩
  have hO := HO0.out.below hBb
  have hown : wb1.ownsRow w.heap.size 5 1 v0 (1) _ := own_len hO.1 (by simp [putB_len])
  have hBs := hO.2.size
  have hsr := SR.of_own hvb (bcells_one _) (by unfold maxLen; omega)
  have HBPb := Lib.hid (HBP0.out.below hBb)
  have HBUb := Lib.hid (HBU0.out.below hBb)
  have HOb := Lib.hid hO
  clear hvb hBb hO y0 y1 y2 y3 y4 y5 y6 y7 y8 y9 yA yB u0 u1 u2 u3 u4 u5 u6 u7 u8 u9 uA
  go_wp2_with (at_builtin; refine wpList_append_all rfl _ _ 26 rfl w.heap.size 5 i0 (.int .u8 0) 1 1 Try.underlying26 hii hz0 hz1 hz2 rfl (by decide) _ _ _ rfl hown _ 2 _ rfl hsr (by unfold maxLen; omega) (by omega) hBs ?_)
  intro v1 W1 hown' hg _
  have hBP1 := HBPb.out.kept hg (HBPb.out.not_row (by decide) hown)
  have hBU1 := HBUb.out.kept hg (HBUb.out.not_row (by decide) hown)
  have hO1 := HOb.out.app hg (own_len' hown') rfl (by simp [putB_len]) (putB_len _ _)
  have HO1 := Lib.hid hO1
  have HBP1 := Lib.hid hBP1
  have HBU1 := Lib.hid hBU1
  clear hown hown' hg hBP1 hBU1 hO1 hsr hBs HOb HBPb HBUb
  have TP := HBP1.out.cells
  have TU := HBU1.out.cells
  have hOpen := TP
  simp only [Cells, blk, List.cons_append, List.nil_append, and_true, Nat.reduceAdd, Nat.add_zero, Nat.zero_add] at hOpen
  obtain ⟨y0, y1, y2, y3, y4, y5, y6, y7, y8, y9, yA, yB⟩ := hOpen
  have hOpen := TU
  simp only [Cells, blk, List.cons_append, List.nil_append, and_true, Nat.reduceAdd, Nat.add_zero, Nat.zero_add] at hOpen
  obtain ⟨u0, u1, u2, u3, u4, u5, u6, u7, u8, u9, uA⟩ := hOpen
  clear TP TU
  have hO := HO1.out
  have hown : W1.ownsRow w.heap.size 5 1 v1 (1 + 2) _ := own_len hO.1 (by simp [putB_len])
  have hBs := hO.2.size
  have hsr := (HV.out.below hO.2).sr HN.out
  clear hO
  go_wp2_with (at_builtin; refine wpList_append_all rfl _ _ 26 rfl w.heap.size 5 i0 (.int .u8 0) 1 1 Try.underlying26 hii hz0 hz1 hz2 rfl (by decide) _ _ _ rfl hown _ n _ rfl hsr (by unfold maxLen; omega) (by omega) hBs ?_)
  intro vf wf hown' hg _
  have hOf := HO1.out.app hg (own_len' hown') rfl (by simp [putB_len]) HN.out
  have hRf := HRES.out
  
  have hby := hOf.bytes (by rw [← hRf]; exact HRL.out) (by simp [putB_len, HN.out]; omega)
  rw [← hRf] at hby
  have HFIN := Lib.hid (And.intro hby hOf.2)
  clear hown hown' hg hOf hRf hby hsr hBs y0 y1 y2 y3 y4 y5 y6 y7 y8 y9 yA yB u0 u1 u2 u3 u4 u5 u6 u7 u8 u9 uA
  go_wp2
  go_ret2
  exact ⟨_, rfl, HFIN.out.1, HFIN.out.2⟩
end Go.Proofs.Ythnffdlnhfhabaa
namespace Go.Proofs.Ythnffdlnhfhabaa
open Go.RowKit

set_option linter.unusedSimpArgs false in
set_option linter.unusedVariables false in
set_option maxRecDepth 100000 in
set_option maxHeartbeats 4000000 in
theorem renc_HOV (ki : Int) (hk : fldC ki = some [72, 79, 86]) (ak : Int) (ha la hi lo : Nat) (of : Nat) (mt : Int) (co : Int) (cm : Bool) (a1 a2 : Option Addr) (n c m d : Nat) (bs : List Nat) (its : List It) (w : World) (hval : BytesAt w (.slice a1 n c) bs) (hn : bs.length = n) (hnb : n ≤ 1000000) (hha : ha < 65536) (hla : la < 65536) (hhi : hi < 18446744073709551616) (hlo : lo < 18446744073709551616) (hof : of < 65536)
    (hck : ∀ W, Below w.heap.size w W → Calls Try.prog 13 #[.agg #[.int .i64 ki, .int .i64 ak, .int .u16 ha, .int .u16 la, .int .u64 hi, .int .u64 lo, .int .i64 (of : Nat), .int .i64 mt, .int .i64 co, .bool cm, .slice a1 n c, .slice a2 m d]] W fun e w' => e = .returned (.int .i64 0) ∧ Below W.heap.size W w') :
    Calls Try.prog 15 #[.agg #[.int .i64 ki, .int .i64 ak, .int .u16 ha, .int .u16 la, .int .u64 hi, .int .u64 lo, .int .i64 (of : Nat), .int .i64 mt, .int .i64 co, .bool cm, .slice a1 n c, .slice a2 m d]] w fun e w' => ∃ v, e = .returned (.tuple #[v, .int .i64 0]) ∧ BytesAt w' v (encP ki ak ha la hi lo of mt co cm bs its) ∧ Below w.heap.size w w' := by
  obtain ⟨i0, hii, hz0, hz1, hz2⟩ := info_parts Try.info_u8
  have hf : ∀ W, Calls Try.prog 28 #[.int .i64 ki] W (fun e w' => e = .returned (.agg #[.bool true, .bool false, .bool true, .bool false, .bool false, .bool true, .bool false, .bool false, .bool false, .bool true, .bool false]) ∧ Below W.heap.size W w') := fun W => by
    have h := rfields_any ki W
    rw [hk] at h
    exact h
  obtain ⟨K, hKK⟩ := fldC_nat ki hk
  have hb0 : IntKind.u8.wrap ki = ((byt K 0 : Nat) : Int) := by rw [hKK]; exact byt0 K
  have hkt : ki.toNat = K := by rw [hKK]; rfl
  obtain ⟨R, hR⟩ : ∃ R, encP ki ak ha la hi lo of mt co cm bs its = R := ⟨_, rfl⟩
  have hres : R = [byt K 0] ++ putB ha 2 ++ putB of 2 ++ bs := by
    rw [← hR]
    unfold encP
    rw [hk]
    
    simp [flB, ix, leF, fiB, gI, si, siF, List.idxOf_cons, hkt]
  rw [hR]
  have hRl : ∀ x ∈ R, x < 256 := by
    intro x hx
    have hv := hval.2.2 x
    have he := encB_lt hi lo x
    have hp := fun N j => putB_lt N j x
    rw [hres] at hx
    simp only [List.mem_append, List.mem_singleton] at hx
    rcases hx with ((h | h) | h) | h
    all_goals first
    | (subst h; exact byt_lt _ _)
    | exact hv h
    | exact he h
    | exact hp _ _ h
  have hB := (Below.refl w.heap.size w).alloc (Nat.le_refl _) (.cells #[.int .i64 ki, .int .i64 ak, .int .u16 ha, .int .u16 la, .int .u64 hi, .int .u64 lo, .int .i64 (of : Nat), .int .i64 mt, .int .i64 co, .bool cm, .slice a1 n c, .slice a2 m d] 29)
  have bP := Blk.new w 29 [.int .i64 ki, .int .i64 ak, .int .u16 ha, .int .u16 la, .int .u64 hi, .int .u64 lo, .int .i64 (of : Nat), .int .i64 mt, .int .i64 co, .bool cm, .slice a1 n c, .slice a2 m d]
  have HPH := Lib.hid (fun W => put_any ha 2 (by omega) (by omega) W)
  have HPO := Lib.hid (fun W => put_any of 2 (by omega) (by omega) W)
  have qO : (of : Int) < 65536 := by omega
  have b1 : (ha : Int) < 65536 := by omega
  have b2 : (la : Int) < 65536 := by omega
  have HRES := Lib.hid hres
  have HRL := Lib.hid hRl
  have HV := Lib.hid hval
  have HN := Lib.hid hn
  have HF := Lib.hid hf
  have HCK := Lib.hid hck
  clear hkt hKK hres hRl hval hn hf hck hR hk hhi hlo hha hla
  go_enter Try.func15, Try.ntmps15
  go_upto_region 1 with fail
  generalize World.alloc _ _ = V at bP hB ⊢
  have HBP := Lib.hid bP
  have HB := Lib.hid hB
  have TP := bP.cells
  have hOpen := TP
  simp only [Cells, blk, List.cons_append, List.nil_append, and_true, Nat.reduceAdd, Nat.add_zero, Nat.zero_add] at hOpen
  obtain ⟨y0, y1, y2, y3, y4, y5, y6, y7, y8, y9, yA, yB⟩ := hOpen
  clear TP bP hB
  go_wp2_with fail
  refine (HCK.out _ HB.out).mono ?_
  rintro e w1 ⟨rfl, hB1⟩
  have HBP1 := Lib.hid (HBP.out.below hB1)
  have HB1 := Lib.hid (HB.out.trans (hB1.mono HB.out.size))
  have TP := HBP1.out.cells
  clear y0 y1 y2 y3 y4 y5 y6 y7 y8 y9 yA yB hB1 HB HBP HCK
  have hOpen := TP
  simp only [Cells, blk, List.cons_append, List.nil_append, and_true, Nat.reduceAdd, Nat.add_zero, Nat.zero_add] at hOpen
  obtain ⟨y0, y1, y2, y3, y4, y5, y6, y7, y8, y9, yA, yB⟩ := hOpen
  clear TP
  go_wp2_with fail
  refine (HF.out _).mono ?_
  rintro e w2 ⟨rfl, hB2⟩
  have bP := (HBP1.out.below hB2).alloc (.cells #[.bool true, .bool false, .bool true, .bool false, .bool false, .bool true, .bool false, .bool false, .bool false, .bool true, .bool false] 58)
  have bU := Blk.new w2 58 [.bool true, .bool false, .bool true, .bool false, .bool false, .bool true, .bool false, .bool false, .bool false, .bool true, .bool false]
  have hB2' := HB1.out.trans (hB2.mono HB1.out.size)
  have hB3 := hB2'.alloc hB2'.size (.cells #[.bool true, .bool false, .bool true, .bool false, .bool false, .bool true, .bool false, .bool false, .bool false, .bool true, .bool false] 58)
  clear y0 y1 y2 y3 y4 y5 y6 y7 y8 y9 yA yB hB2 hB2' HB1 HBP1 HF
  go_upto_region 5 with fail
  generalize World.alloc _ _ = Y at bP bU hB3 ⊢
  have TP := bP.cells
  have hOpen := TP
  simp only [Cells, blk, List.cons_append, List.nil_append, and_true, Nat.reduceAdd, Nat.add_zero, Nat.zero_add] at hOpen
  obtain ⟨y0, y1, y2, y3, y4, y5, y6, y7, y8, y9, yA, yB⟩ := hOpen
  have hlit := own_lit Y [.int .u8 (byt K 0 : Nat)] 1 5 rfl (by decide)
  have bP0 := bP.alloc (.cells #[.int .u8 (byt K 0 : Nat)] 5)
  have bU0 := bU.alloc (.cells #[.int .u8 (byt K 0 : Nat)] 5)
  have hB4 := hB3.alloc hB3.size (.cells #[.int .u8 (byt K 0 : Nat)] 5)
  have hYs := hB3.size
  clear TP bP bU hB3
  go_upto_region 6 with fail
  clear y0 y1 y2 y3 y4 y5 y6 y7 y8 y9 yA yB
  generalize World.alloc _ _ = W0 at hlit bP0 bU0 hB4 ⊢
  obtain ⟨v0, hv0⟩ : ∃ v : Value, v = .slice (some ⟨Y.heap.size, 0, none⟩) 1 1 := ⟨_, rfl⟩
  rw [← hv0] at hlit ⊢
  clear hv0
  have HO0 := Lib.hid (show OwnB w W0 v0 [byt K 0] from ⟨own_base hlit hYs, hB4⟩)
  have HBP0 := Lib.hid bP0
  have HBU0 := Lib.hid bU0
  clear hlit bP0 bU0 hB4 hYs
  have TP := HBP0.out.cells
  have TU := HBU0.out.cells
  have hOpen := TP
  simp only [Cells, blk, List.cons_append, List.nil_append, and_true, Nat.reduceAdd, Nat.add_zero, Nat.zero_add] at hOpen
  obtain ⟨y0, y1, y2, y3, y4, y5, y6, y7, y8, y9, yA, yB⟩ := hOpen
  have hOpen := TU
  simp only [Cells, blk, List.cons_append, List.nil_append, and_true, Nat.reduceAdd, Nat.add_zero, Nat.zero_add] at hOpen
  obtain ⟨u0, u1, u2, u3, u4, u5, u6, u7, u8, u9, uA⟩ := hOpen
  clear TP TU
  go_wp2_with fail
  refine (HPH.out _).mono ?_
  rintro e wb1 ⟨vb, rfl, hvb, hBb⟩
  have hO := HO0.out.below hBb
  have hown : wb1.ownsRow w.heap.size 5 1 v0 (1) _ := own_len hO.1 (by simp [putB_len])
  have hBs := hO.2.size
  have hsr := SR.of_own hvb (bcells_one _) (by unfold maxLen; omega)
  have HBPb := Lib.hid (HBP0.out.below hBb)
  have HBUb := Lib.hid (HBU0.out.below hBb)
  have HOb := Lib.hid hO
  clear hvb hBb hO y0 y1 y2 y3 y4 y5 y6 y7 y8 y9 yA yB u0 u1 u2 u3 u4 u5 u6 u7 u8 u9 uA
  go_wp2_with (at_builtin; refine wpList_append_all rfl _ _ 26 rfl w.heap.size 5 i0 (.int .u8 0) 1 1 Try.underlying26 hii hz0 hz1 hz2 rfl (by decide) _ _ _ rfl hown _ 2 _ rfl hsr (by unfold maxLen; omega) (by omega) hBs ?_)
  intro v1 W1 hown' hg _
  have hBP1 := HBPb.out.kept hg (HBPb.out.not_row (by decide) hown)
  have hBU1 := HBUb.out.kept hg (HBUb.out.not_row (by decide) hown)
  have hO1 := HOb.out.app hg (own_len' hown') rfl (by simp [putB_len]) (putB_len _ _)
  have HO1 := Lib.hid hO1
  have HBP1 := Lib.hid hBP1
  have HBU1 := Lib.hid hBU1
  clear hown hown' hg hBP1 hBU1 hO1 hsr hBs HOb HBPb HBUb
  have TP := HBP1.out.cells
  have TU := HBU1.out.cells
  have hOpen := TP
  simp only [Cells, blk, List.cons_append, List.nil_append, and_true, Nat.reduceAdd, Nat.add_zero, Nat.zero_add] at hOpen
  obtain ⟨y0, y1, y2, y3, y4, y5, y6, y7, y8, y9, yA, yB⟩ := hOpen
  have hOpen := TU
  simp only [Cells, blk, List.cons_append, List.nil_append, and_true, Nat.reduceAdd, Nat.add_zero, Nat.zero_add] at hOpen
  obtain ⟨u0, u1, u2, u3, u4, u5, u6, u7, u8, u9, uA⟩ := hOpen
  clear TP TU
  go_wp2_with fail
  refine (HPO.out _).mono ?_
  rintro e wb2 ⟨vb, rfl, hvb, hBb⟩
  have hO := HO1.out.below hBb
  have hown : wb2.ownsRow w.heap.size 5 1 v1 (1 + 2) _ := own_len hO.1 (by simp [putB_len])
  have hBs := hO.2.size
  have hsr := SR.of_own hvb (bcells_one _) (by unfold maxLen; omega)
  have HBPb := Lib.hid (HBP1.out.below hBb)
  have HBUb := Lib.hid (HBU1.out.below hBb)
  have HOb := Lib.hid hO
  clear hvb hBb hO y0 y1 y2 y3 y4 y5 y6 y7 y8 y9 yA yB u0 u1 u2 u3 u4 u5 u6 u7 u8 u9 uA
  go_wp2_with (at_builtin; refine wpList_append_all rfl _ _ 26 rfl w.heap.size 5 i0 (.int .u8 0) 1 1 Try.underlying26 hii hz0 hz1 hz2 rfl (by decide) _ _ _ rfl hown _ 2 _ rfl hsr (by unfold maxLen; omega) (by omega) hBs ?_)
  intro v2 W2 hown' hg _
  have hBP2 := HBPb.out.kept hg (HBPb.out.not_row (by decide) hown)
  have hBU2 := HBUb.out.kept hg (HBUb.out.not_row (by decide) hown)
  have hO2 := HOb.out.app hg (own_len' hown') rfl (by simp [putB_len]) (putB_len _ _)
  have HO2 := Lib.hid hO2
  have HBP2 := Lib.hid hBP2
  have HBU2 := Lib.hid hBU2
  clear hown hown' hg hBP2 hBU2 hO2 hsr hBs HOb HBPb HBUb
  have TP := HBP2.out.cells
  have TU := HBU2.out.cells
  have hOpen := TP
  simp only [Cells, blk, List.cons_append, List.nil_append, and_true, Nat.reduceAdd, Nat.add_zero, Nat.zero_add] at hOpen
  obtain ⟨y0, y1, y2, y3, y4, y5, y6, y7, y8, y9, yA, yB⟩ := hOpen
  have hOpen := TU
  simp only [Cells, blk, List.cons_append, List.nil_append, and_true, Nat.reduceAdd, Nat.add_zero, Nat.zero_add] at hOpen
  obtain ⟨u0, u1, u2, u3, u4, u5, u6, u7, u8, u9, uA⟩ := hOpen
  clear TP TU
  have hO := HO2.out
  have hown : W2.ownsRow w.heap.size 5 1 v2 (1 + 2 + 2) _ := own_len hO.1 (by simp [putB_len])
  have hBs := hO.2.size
  have hsr := (HV.out.below hO.2).sr HN.out
  clear hO
  go_wp2_with (at_builtin; refine wpList_append_all rfl _ _ 26 rfl w.heap.size 5 i0 (.int .u8 0) 1 1 Try.underlying26 hii hz0 hz1 hz2 rfl (by decide) _ _ _ rfl hown _ n _ rfl hsr (by unfold maxLen; omega) (by omega) hBs ?_)
  intro vf wf hown' hg _
  have hOf := HO2.out.app hg (own_len' hown') rfl (by simp [putB_len]) HN.out
  have hRf := HRES.out
  
  have hby := hOf.bytes (by rw [← hRf]; exact HRL.out) (by simp [putB_len, HN.out]; omega)
  rw [← hRf] at hby
  have HFIN := Lib.hid (And.intro hby hOf.2)
  clear hown hown' hg hOf hRf hby hsr hBs y0 y1 y2 y3 y4 y5 y6 y7 y8 y9 yA yB u0 u1 u2 u3 u4 u5 u6 u7 u8 u9 uA
  go_wp2
  go_ret2
  exact ⟨_, rfl, HFIN.out.1, HFIN.out.2⟩
set_option linter.unusedSimpArgs false in
set_option linter.unusedVariables false in
set_option maxRecDepth 100000 in
set_option maxHeartbeats 4000000 in
theorem renc_X (ki : Int) (hk : fldC ki = some [88]) (ak : Int) (ha la hi lo : Nat) (of : Int) (mt : Int) (co : Int) (cm : Bool) (a1 a2 : Option Addr) (n c m d : Nat) (bs : List Nat) (its : List It) (w : World) (hval : BytesAt w (.slice a1 n c) bs) (hn : bs.length = n) (hnb : n ≤ 1000000) (hha : ha < 65536) (hla : la < 65536) (hhi : hi < 18446744073709551616) (hlo : lo < 18446744073709551616) (hbs : bs = [])
    (hck : ∀ W, Below w.heap.size w W → Calls Try.prog 13 #[.agg #[.int .i64 ki, .int .i64 ak, .int .u16 ha, .int .u16 la, .int .u64 hi, .int .u64 lo, .int .i64 of, .int .i64 mt, .int .i64 co, .bool cm, .slice a1 n c, .slice a2 m d]] W fun e w' => e = .returned (.int .i64 0) ∧ Below W.heap.size W w') :
    Calls Try.prog 15 #[.agg #[.int .i64 ki, .int .i64 ak, .int .u16 ha, .int .u16 la, .int .u64 hi, .int .u64 lo, .int .i64 of, .int .i64 mt, .int .i64 co, .bool cm, .slice a1 n c, .slice a2 m d]] w fun e w' => ∃ v, e = .returned (.tuple #[v, .int .i64 0]) ∧ BytesAt w' v (encP ki ak ha la hi lo of mt co cm bs its) ∧ Below w.heap.size w w' := by
  obtain ⟨i0, hii, hz0, hz1, hz2⟩ := info_parts Try.info_u8
  have hf : ∀ W, Calls Try.prog 28 #[.int .i64 ki] W (fun e w' => e = .returned (.agg #[.bool true, .bool false, .bool false, .bool false, .bool false, .bool false, .bool false, .bool false, .bool true, .bool false, .bool false]) ∧ Below W.heap.size W w') := fun W => by
    have h := rfields_any ki W
    rw [hk] at h
    exact h
  obtain ⟨K, hKK⟩ := fldC_nat ki hk
  have hb0 : IntKind.u8.wrap ki = ((byt K 0 : Nat) : Int) := by rw [hKK]; exact byt0 K
  have hkt : ki.toNat = K := by rw [hKK]; rfl
  obtain ⟨R, hR⟩ : ∃ R, encP ki ak ha la hi lo of mt co cm bs its = R := ⟨_, rfl⟩
  have hres : R = [byt K 0] ++ putB (bitI cm).toNat 1 ++ bs := by
    rw [← hR]
    unfold encP
    rw [hk]
    subst hbs
    simp [flB, ix, leF, fiB, gI, si, siF, List.idxOf_cons, hkt]
  rw [hR]
  have hRl : ∀ x ∈ R, x < 256 := by
    intro x hx
    have hv := hval.2.2 x
    have he := encB_lt hi lo x
    have hp := fun N j => putB_lt N j x
    rw [hres] at hx
    simp only [List.mem_append, List.mem_singleton] at hx
    rcases hx with (h | h) | h
    all_goals first
    | (subst h; exact byt_lt _ _)
    | exact hv h
    | exact he h
    | exact hp _ _ h
  have hB := (Below.refl w.heap.size w).alloc (Nat.le_refl _) (.cells #[.int .i64 ki, .int .i64 ak, .int .u16 ha, .int .u16 la, .int .u64 hi, .int .u64 lo, .int .i64 of, .int .i64 mt, .int .i64 co, .bool cm, .slice a1 n c, .slice a2 m d] 29)
  have bP := Blk.new w 29 [.int .i64 ki, .int .i64 ak, .int .u16 ha, .int .u16 la, .int .u64 hi, .int .u64 lo, .int .i64 of, .int .i64 mt, .int .i64 co, .bool cm, .slice a1 n c, .slice a2 m d]
  have b1 : (ha : Int) < 65536 := by omega
  have b2 : (la : Int) < 65536 := by omega
  have HRES := Lib.hid hres
  have HRL := Lib.hid hRl
  have HV := Lib.hid hval
  have HN := Lib.hid hn
  have HF := Lib.hid hf
  have HCK := Lib.hid hck
  clear hkt hKK hres hRl hval hn hf hck hR hk hhi hlo hha hla hbs
  go_enter Try.func15, Try.ntmps15
  go_upto_region 1 with fail
  generalize World.alloc _ _ = V at bP hB ⊢
  have HBP := Lib.hid bP
  have HB := Lib.hid hB
  have TP := bP.cells
  have hOpen := TP
  simp only [Cells, blk, List.cons_append, List.nil_append, and_true, Nat.reduceAdd, Nat.add_zero, Nat.zero_add] at hOpen
  obtain ⟨y0, y1, y2, y3, y4, y5, y6, y7, y8, y9, yA, yB⟩ := hOpen
  clear TP bP hB
  go_wp2_with fail
  refine (HCK.out _ HB.out).mono ?_
  rintro e w1 ⟨rfl, hB1⟩
  have HBP1 := Lib.hid (HBP.out.below hB1)
  have HB1 := Lib.hid (HB.out.trans (hB1.mono HB.out.size))
  have TP := HBP1.out.cells
  clear y0 y1 y2 y3 y4 y5 y6 y7 y8 y9 yA yB hB1 HB HBP HCK
  have hOpen := TP
  simp only [Cells, blk, List.cons_append, List.nil_append, and_true, Nat.reduceAdd, Nat.add_zero, Nat.zero_add] at hOpen
  obtain ⟨y0, y1, y2, y3, y4, y5, y6, y7, y8, y9, yA, yB⟩ := hOpen
  clear TP
  go_wp2_with fail
  refine (HF.out _).mono ?_
  rintro e w2 ⟨rfl, hB2⟩
  have bP := (HBP1.out.below hB2).alloc (.cells #[.bool true, .bool false, .bool false, .bool false, .bool false, .bool false, .bool false, .bool false, .bool true, .bool false, .bool false] 58)
  have bU := Blk.new w2 58 [.bool true, .bool false, .bool false, .bool false, .bool false, .bool false, .bool false, .bool false, .bool true, .bool false, .bool false]
  have hB2' := HB1.out.trans (hB2.mono HB1.out.size)
  have hB3 := hB2'.alloc hB2'.size (.cells #[.bool true, .bool false, .bool false, .bool false, .bool false, .bool false, .bool false, .bool false, .bool true, .bool false, .bool false] 58)
  clear y0 y1 y2 y3 y4 y5 y6 y7 y8 y9 yA yB hB2 hB2' HB1 HBP1 HF
  go_upto_region 5 with fail
  generalize World.alloc _ _ = Y at bP bU hB3 ⊢
  have TP := bP.cells
  have hOpen := TP
  simp only [Cells, blk, List.cons_append, List.nil_append, and_true, Nat.reduceAdd, Nat.add_zero, Nat.zero_add] at hOpen
  obtain ⟨y0, y1, y2, y3, y4, y5, y6, y7, y8, y9, yA, yB⟩ := hOpen
  have hlit := own_lit Y [.int .u8 (byt K 0 : Nat)] 1 5 rfl (by decide)
  have bP0 := bP.alloc (.cells #[.int .u8 (byt K 0 : Nat)] 5)
  have bU0 := bU.alloc (.cells #[.int .u8 (byt K 0 : Nat)] 5)
  have hB4 := hB3.alloc hB3.size (.cells #[.int .u8 (byt K 0 : Nat)] 5)
  have hYs := hB3.size
  clear TP bP bU hB3
  go_upto_region 6 with fail
  clear y0 y1 y2 y3 y4 y5 y6 y7 y8 y9 yA yB
  generalize World.alloc _ _ = W0 at hlit bP0 bU0 hB4 ⊢
  obtain ⟨v0, hv0⟩ : ∃ v : Value, v = .slice (some ⟨Y.heap.size, 0, none⟩) 1 1 := ⟨_, rfl⟩
  rw [← hv0] at hlit ⊢
  clear hv0
  have HO0 := Lib.hid (show OwnB w W0 v0 [byt K 0] from ⟨own_base hlit hYs, hB4⟩)
  have HBP0 := Lib.hid bP0
  have HBU0 := Lib.hid bU0
  clear hlit bP0 bU0 hB4 hYs
  cases cm
  · have TP := HBP0.out.cells
    have TU := HBU0.out.cells
    have hOpen := TP
    simp only [Cells, blk, List.cons_append, List.nil_append, and_true, Nat.reduceAdd, Nat.add_zero, Nat.zero_add] at hOpen
    obtain ⟨y0, y1, y2, y3, y4, y5, y6, y7, y8, y9, yA, yB⟩ := hOpen
    have hOpen := TU
    simp only [Cells, blk, List.cons_append, List.nil_append, and_true, Nat.reduceAdd, Nat.add_zero, Nat.zero_add] at hOpen
    obtain ⟨u0, u1, u2, u3, u4, u5, u6, u7, u8, u9, uA⟩ := hOpen
    clear TP TU
    have hO := HO0.out
    have hown : W0.ownsRow w.heap.size 5 1 v0 (1) _ := own_len hO.1 (by simp [putB_len])
    have hBs := hO.2.size
    clear hO
    go_wp2_with (at_builtin; refine wpList_append_own _ rfl _ _ 26 rfl w.heap.size 5 i0 (.int .u8 0) 1 1 Try.underlying26 hii hz0 hz1 hz2 rfl (by decide) _ _ _ rfl (hown.alloc _) ⟨W0.heap.size, 0, none⟩ 1 1 [.int .u8 0] rfl rfl (cell_one_new _ _ _) (by simp [Value.oneCell']) (by unfold maxLen; omega) (by omega) (by simp; omega) ?_)
    intro v1 W1 hown' hg _
    have hal := (Below.refl W0.heap.size W0).alloc (Nat.le_refl _) (.cells #[.int .u8 0] 5)
    have hBP1 := (HBP0.out.below hal).kept hg ((HBP0.out.below hal).not_row (by decide) (hown.alloc _))
    have hBU1 := (HBU0.out.below hal).kept hg ((HBU0.out.below hal).not_row (by decide) (hown.alloc _))
    have hO1 : OwnB w W1 v1 (_ ++ putB (bitI false).toNat 1) := (HO0.out.below hal).app hg (own_len' hown') rfl (by simp [putB_len]) rfl
    have HO1 := Lib.hid hO1
    have HBP1 := Lib.hid hBP1
    have HBU1 := Lib.hid hBU1
    clear hown hown' hg hBP1 hBU1 hO1 hBs hal y0 y1 y2 y3 y4 y5 y6 y7 y8 y9 yA yB u0 u1 u2 u3 u4 u5 u6 u7 u8 u9 uA
    have TP := HBP1.out.cells
    have TU := HBU1.out.cells
    have hOpen := TP
    simp only [Cells, blk, List.cons_append, List.nil_append, and_true, Nat.reduceAdd, Nat.add_zero, Nat.zero_add] at hOpen
    obtain ⟨y0, y1, y2, y3, y4, y5, y6, y7, y8, y9, yA, yB⟩ := hOpen
    have hOpen := TU
    simp only [Cells, blk, List.cons_append, List.nil_append, and_true, Nat.reduceAdd, Nat.add_zero, Nat.zero_add] at hOpen
    obtain ⟨u0, u1, u2, u3, u4, u5, u6, u7, u8, u9, uA⟩ := hOpen
    clear TP TU
    have hO := HO1.out
    have hown : W1.ownsRow w.heap.size 5 1 v1 (1 + 1) _ := own_len hO.1 (by simp [putB_len])
    have hBs := hO.2.size
    have hsr := (HV.out.below hO.2).sr HN.out
    clear hO
    go_wp2_with (at_builtin; refine wpList_append_all rfl _ _ 26 rfl w.heap.size 5 i0 (.int .u8 0) 1 1 Try.underlying26 hii hz0 hz1 hz2 rfl (by decide) _ _ _ rfl hown _ n _ rfl hsr (by unfold maxLen; omega) (by omega) hBs ?_)
    intro vf wf hown' hg _
    have hOf := HO1.out.app hg (own_len' hown') rfl (by simp [putB_len]) HN.out
    have hRf := HRES.out
  
    have hby := hOf.bytes (by rw [← hRf]; exact HRL.out) (by simp [putB_len, HN.out]; omega)
    rw [← hRf] at hby
    have HFIN := Lib.hid (And.intro hby hOf.2)
    clear hown hown' hg hOf hRf hby hsr hBs y0 y1 y2 y3 y4 y5 y6 y7 y8 y9 yA yB u0 u1 u2 u3 u4 u5 u6 u7 u8 u9 uA
    go_wp2
    go_ret2
    exact ⟨_, rfl, HFIN.out.1, HFIN.out.2⟩
  · have TP := HBP0.out.cells
    have TU := HBU0.out.cells
    have hOpen := TP
    simp only [Cells, blk, List.cons_append, List.nil_append, and_true, Nat.reduceAdd, Nat.add_zero, Nat.zero_add] at hOpen
    obtain ⟨y0, y1, y2, y3, y4, y5, y6, y7, y8, y9, yA, yB⟩ := hOpen
    have hOpen := TU
    simp only [Cells, blk, List.cons_append, List.nil_append, and_true, Nat.reduceAdd, Nat.add_zero, Nat.zero_add] at hOpen
    obtain ⟨u0, u1, u2, u3, u4, u5, u6, u7, u8, u9, uA⟩ := hOpen
    clear TP TU
    have hO := HO0.out
    have hown : W0.ownsRow w.heap.size 5 1 v0 (1) _ := own_len hO.1 (by simp [putB_len])
    have hBs := hO.2.size
    clear hO
    go_wp2_with (at_builtin; refine wpList_append_own _ rfl _ _ 26 rfl w.heap.size 5 i0 (.int .u8 0) 1 1 Try.underlying26 hii hz0 hz1 hz2 rfl (by decide) _ _ _ rfl (hown.alloc _) ⟨W0.heap.size, 0, none⟩ 1 1 [.int .u8 1] rfl rfl (cell_one_new _ _ _) (by simp [Value.oneCell']) (by unfold maxLen; omega) (by omega) (by simp; omega) ?_)
    intro v1 W1 hown' hg _
    have hal := (Below.refl W0.heap.size W0).alloc (Nat.le_refl _) (.cells #[.int .u8 1] 5)
    have hBP1 := (HBP0.out.below hal).kept hg ((HBP0.out.below hal).not_row (by decide) (hown.alloc _))
    have hBU1 := (HBU0.out.below hal).kept hg ((HBU0.out.below hal).not_row (by decide) (hown.alloc _))
    have hO1 : OwnB w W1 v1 (_ ++ putB (bitI true).toNat 1) := (HO0.out.below hal).app hg (own_len' hown') rfl (by simp [putB_len]) rfl
    have HO1 := Lib.hid hO1
    have HBP1 := Lib.hid hBP1
    have HBU1 := Lib.hid hBU1
    clear hown hown' hg hBP1 hBU1 hO1 hBs hal y0 y1 y2 y3 y4 y5 y6 y7 y8 y9 yA yB u0 u1 u2 u3 u4 u5 u6 u7 u8 u9 uA
    have TP := HBP1.out.cells
    have TU := HBU1.out.cells
    have hOpen := TP
    simp only [Cells, blk, List.cons_append, List.nil_append, and_true, Nat.reduceAdd, Nat.add_zero, Nat.zero_add] at hOpen
    obtain ⟨y0, y1, y2, y3, y4, y5, y6, y7, y8, y9, yA, yB⟩ := hOpen
    have hOpen := TU
    simp only [Cells, blk, List.cons_append, List.nil_append, and_true, Nat.reduceAdd, Nat.add_zero, Nat.zero_add] at hOpen
    obtain ⟨u0, u1, u2, u3, u4, u5, u6, u7, u8, u9, uA⟩ := hOpen
    clear TP TU
    have hO := HO1.out
    have hown : W1.ownsRow w.heap.size 5 1 v1 (1 + 1) _ := own_len hO.1 (by simp [putB_len])
    have hBs := hO.2.size
    have hsr := (HV.out.below hO.2).sr HN.out
    clear hO
    go_wp2_with (at_builtin; refine wpList_append_all rfl _ _ 26 rfl w.heap.size 5 i0 (.int .u8 0) 1 1 Try.underlying26 hii hz0 hz1 hz2 rfl (by decide) _ _ _ rfl hown _ n _ rfl hsr (by unfold maxLen; omega) (by omega) hBs ?_)
    intro vf wf hown' hg _
    have hOf := HO1.out.app hg (own_len' hown') rfl (by simp [putB_len]) HN.out
    have hRf := HRES.out
  
    have hby := hOf.bytes (by rw [← hRf]; exact HRL.out) (by simp [putB_len, HN.out]; omega)
    rw [← hRf] at hby
    have HFIN := Lib.hid (And.intro hby hOf.2)
    clear hown hown' hg hOf hRf hby hsr hBs y0 y1 y2 y3 y4 y5 y6 y7 y8 y9 yA yB u0 u1 u2 u3 u4 u5 u6 u7 u8 u9 uA
    go_wp2
    go_ret2
    exact ⟨_, rfl, HFIN.out.1, HFIN.out.2⟩
set_option linter.unusedSimpArgs false in
set_option linter.unusedVariables false in
set_option maxRecDepth 100000 in
set_option maxHeartbeats 4000000 in
theorem renc_n (ki : Int) (hk : fldC ki = some []) (ak : Int) (ha la hi lo : Nat) (of : Int) (mt : Int) (co : Int) (cm : Bool) (a1 a2 : Option Addr) (n c m d : Nat) (bs : List Nat) (its : List It) (w : World) (hval : BytesAt w (.slice a1 n c) bs) (hn : bs.length = n) (hnb : n ≤ 1000000) (hha : ha < 65536) (hla : la < 65536) (hhi : hi < 18446744073709551616) (hlo : lo < 18446744073709551616) (hbs : bs = [])
    (hck : ∀ W, Below w.heap.size w W → Calls Try.prog 13 #[.agg #[.int .i64 ki, .int .i64 ak, .int .u16 ha, .int .u16 la, .int .u64 hi, .int .u64 lo, .int .i64 of, .int .i64 mt, .int .i64 co, .bool cm, .slice a1 n c, .slice a2 m d]] W fun e w' => e = .returned (.int .i64 0) ∧ Below W.heap.size W w') :
    Calls Try.prog 15 #[.agg #[.int .i64 ki, .int .i64 ak, .int .u16 ha, .int .u16 la, .int .u64 hi, .int .u64 lo, .int .i64 of, .int .i64 mt, .int .i64 co, .bool cm, .slice a1 n c, .slice a2 m d]] w fun e w' => ∃ v, e = .returned (.tuple #[v, .int .i64 0]) ∧ BytesAt w' v (encP ki ak ha la hi lo of mt co cm bs its) ∧ Below w.heap.size w w' := by
  obtain ⟨i0, hii, hz0, hz1, hz2⟩ := info_parts Try.info_u8
  have hf : ∀ W, Calls Try.prog 28 #[.int .i64 ki] W (fun e w' => e = .returned (.agg #[.bool true, .bool false, .bool false, .bool false, .bool false, .bool false, .bool false, .bool false, .bool false, .bool false, .bool false]) ∧ Below W.heap.size W w') := fun W => by
    have h := rfields_any ki W
    rw [hk] at h
    exact h
  obtain ⟨K, hKK⟩ := fldC_nat ki hk
  have hb0 : IntKind.u8.wrap ki = ((byt K 0 : Nat) : Int) := by rw [hKK]; exact byt0 K
  have hkt : ki.toNat = K := by rw [hKK]; rfl
  obtain ⟨R, hR⟩ : ∃ R, encP ki ak ha la hi lo of mt co cm bs its = R := ⟨_, rfl⟩
  have hres : R = [byt K 0] ++ bs := by
    rw [← hR]
    unfold encP
    rw [hk]
    subst hbs
    simp [flB, ix, leF, fiB, gI, si, siF, List.idxOf_cons, hkt]
  rw [hR]
  have hRl : ∀ x ∈ R, x < 256 := by
    intro x hx
    have hv := hval.2.2 x
    have he := encB_lt hi lo x
    have hp := fun N j => putB_lt N j x
    rw [hres] at hx
    simp only [List.mem_append, List.mem_singleton] at hx
    rcases hx with h | h
    all_goals first
    | (subst h; exact byt_lt _ _)
    | exact hv h
    | exact he h
    | exact hp _ _ h
  have hB := (Below.refl w.heap.size w).alloc (Nat.le_refl _) (.cells #[.int .i64 ki, .int .i64 ak, .int .u16 ha, .int .u16 la, .int .u64 hi, .int .u64 lo, .int .i64 of, .int .i64 mt, .int .i64 co, .bool cm, .slice a1 n c, .slice a2 m d] 29)
  have bP := Blk.new w 29 [.int .i64 ki, .int .i64 ak, .int .u16 ha, .int .u16 la, .int .u64 hi, .int .u64 lo, .int .i64 of, .int .i64 mt, .int .i64 co, .bool cm, .slice a1 n c, .slice a2 m d]
  have b1 : (ha : Int) < 65536 := by omega
  have b2 : (la : Int) < 65536 := by omega
  have HRES := Lib.hid hres
  have HRL := Lib.hid hRl
  have HV := Lib.hid hval
  have HN := Lib.hid hn
  have HF := Lib.hid hf
  have HCK := Lib.hid hck
  clear hkt hKK hres hRl hval hn hf hck hR hk hhi hlo hha hla hbs
  go_enter Try.func15, Try.ntmps15
  go_upto_region 1 with fail
  generalize World.alloc _ _ = V at bP hB ⊢
  have HBP := Lib.hid bP
  have HB := Lib.hid hB
  have TP := bP.cells
  have hOpen := TP
  simp only [Cells, blk, List.cons_append, List.nil_append, and_true, Nat.reduceAdd, Nat.add_zero, Nat.zero_add] at hOpen
  obtain ⟨y0, y1, y2, y3, y4, y5, y6, y7, y8, y9, yA, yB⟩ := hOpen
  clear TP bP hB
  go_wp2_with fail
  refine (HCK.out _ HB.out).mono ?_
  rintro e w1 ⟨rfl, hB1⟩
  have HBP1 := Lib.hid (HBP.out.below hB1)
  have HB1 := Lib.hid (HB.out.trans (hB1.mono HB.out.size))
  have TP := HBP1.out.cells
  clear y0 y1 y2 y3 y4 y5 y6 y7 y8 y9 yA yB hB1 HB HBP HCK
  have hOpen := TP
  simp only [Cells, blk, List.cons_append, List.nil_append, and_true, Nat.reduceAdd, Nat.add_zero, Nat.zero_add] at hOpen
  obtain ⟨y0, y1, y2, y3, y4, y5, y6, y7, y8, y9, yA, yB⟩ := hOpen
  clear TP
  go_wp2_with fail
  refine (HF.out _).mono ?_
  rintro e w2 ⟨rfl, hB2⟩
  have bP := (HBP1.out.below hB2).alloc (.cells #[.bool true, .bool false, .bool false, .bool false, .bool false, .bool false, .bool false, .bool false, .bool false, .bool false, .bool false] 58)
  have bU := Blk.new w2 58 [.bool true, .bool false, .bool false, .bool false, .bool false, .bool false, .bool false, .bool false, .bool false, .bool false, .bool false]
  have hB2' := HB1.out.trans (hB2.mono HB1.out.size)
  have hB3 := hB2'.alloc hB2'.size (.cells #[.bool true, .bool false, .bool false, .bool false, .bool false, .bool false, .bool false, .bool false, .bool false, .bool false, .bool false] 58)
  clear y0 y1 y2 y3 y4 y5 y6 y7 y8 y9 yA yB hB2 hB2' HB1 HBP1 HF
  go_upto_region 5 with fail
  generalize World.alloc _ _ = Y at bP bU hB3 ⊢
  have TP := bP.cells
  have hOpen := TP
  simp only [Cells, blk, List.cons_append, List.nil_append, and_true, Nat.reduceAdd, Nat.add_zero, Nat.zero_add] at hOpen
  obtain ⟨y0, y1, y2, y3, y4, y5, y6, y7, y8, y9, yA, yB⟩ := hOpen
  have hlit := own_lit Y [.int .u8 (byt K 0 : Nat)] 1 5 rfl (by decide)
  have bP0 := bP.alloc (.cells #[.int .u8 (byt K 0 : Nat)] 5)
  have bU0 := bU.alloc (.cells #[.int .u8 (byt K 0 : Nat)] 5)
  have hB4 := hB3.alloc hB3.size (.cells #[.int .u8 (byt K 0 : Nat)] 5)
  have hYs := hB3.size
  clear TP bP bU hB3
  go_upto_region 6 with fail
  clear y0 y1 y2 y3 y4 y5 y6 y7 y8 y9 yA yB
  generalize World.alloc _ _ = W0 at hlit bP0 bU0 hB4 ⊢
  obtain ⟨v0, hv0⟩ : ∃ v : Value, v = .slice (some ⟨Y.heap.size, 0, none⟩) 1 1 := ⟨_, rfl⟩
  rw [← hv0] at hlit ⊢
  clear hv0
  have HO0 := Lib.hid (show OwnB w W0 v0 [byt K 0] from ⟨own_base hlit hYs, hB4⟩)
  have HBP0 := Lib.hid bP0
  have HBU0 := Lib.hid bU0
  clear hlit bP0 bU0 hB4 hYs
  have TP := HBP0.out.cells
  have TU := HBU0.out.cells
  have hOpen := TP
  simp only [Cells, blk, List.cons_append, List.nil_append, and_true, Nat.reduceAdd, Nat.add_zero, Nat.zero_add] at hOpen
  obtain ⟨y0, y1, y2, y3, y4, y5, y6, y7, y8, y9, yA, yB⟩ := hOpen
  have hOpen := TU
  simp only [Cells, blk, List.cons_append, List.nil_append, and_true, Nat.reduceAdd, Nat.add_zero, Nat.zero_add] at hOpen
  obtain ⟨u0, u1, u2, u3, u4, u5, u6, u7, u8, u9, uA⟩ := hOpen
  clear TP TU
  have hO := HO0.out
  have hown : W0.ownsRow w.heap.size 5 1 v0 (1) _ := own_len hO.1 (by simp [putB_len])
  have hBs := hO.2.size
  have hsr := (HV.out.below hO.2).sr HN.out
  clear hO
  go_wp2_with (at_builtin; refine wpList_append_all rfl _ _ 26 rfl w.heap.size 5 i0 (.int .u8 0) 1 1 Try.underlying26 hii hz0 hz1 hz2 rfl (by decide) _ _ _ rfl hown _ n _ rfl hsr (by unfold maxLen; omega) (by omega) hBs ?_)
  intro vf wf hown' hg _
  have hOf := HO0.out.app hg (own_len' hown') rfl (by simp [putB_len]) HN.out
  have hRf := HRES.out
  
  have hby := hOf.bytes (by rw [← hRf]; exact HRL.out) (by simp [putB_len, HN.out]; omega)
  rw [← hRf] at hby
  have HFIN := Lib.hid (And.intro hby hOf.2)
  clear hown hown' hg hOf hRf hby hsr hBs y0 y1 y2 y3 y4 y5 y6 y7 y8 y9 yA yB u0 u1 u2 u3 u4 u5 u6 u7 u8 u9 uA
  go_wp2
  go_ret2
  exact ⟨_, rfl, HFIN.out.1, HFIN.out.2⟩
end Go.Proofs.Ythnffdlnhfhabaa
