/- attpdu: the reference: the bytes of an element. -/
import Derived.Test.YthnffdlnhfhabaaAtL
namespace Go.Proofs.Ythnffdlnhfhabaa
open Go.RowKit

/-- a row of bytes, and an append to it -/
def OwnB (w0 w : World) (v : Value) (bs : List Nat) : Prop := w.ownsRow w0.heap.size 5 1 v bs.length (bcells bs) ∧ Below w0.heap.size w0 w
theorem OwnB.below {w0 w w' : World} {v : Value} {bs : List Nat} (h : OwnB w0 w v bs) (hb : Below w.heap.size w w') : OwnB w0 w' v bs := ⟨own_below h.1 hb, h.2.trans (hb.mono h.2.size)⟩
theorem OwnB.app {w0 w w' : World} {v v' : Value} {n m : Nat} {bs cs : List Nat} {xs : List Value} (h : OwnB w0 w v bs) (hg : w.grownBy w' v.ownBlock) (ho : w'.ownsRow w0.heap.size 5 1 v' (n + m) (xs ++ bcells cs)) (hx : xs = bcells bs) (hn : bs.length = n) (hm : cs.length = m) : OwnB w0 w' v' (bs ++ cs) := by
  subst hx hn hm
  refine ⟨?_, h.2.grown hg h.2.size (fun j hj => (h.1.lt j hj).1)⟩
  simpa [bcells] using ho
theorem OwnB.bytes {w0 w : World} {v : Value} {bs : List Nat} (h : OwnB w0 w v bs) (hlt : ∀ x ∈ bs, x < 256) (hl : bs.length ≤ 1099511627776) : BytesAt w v bs := bytesAt_of_own h.1 rfl hlt hl
theorem BytesAt.sr {w : World} {v : Value} {bs : List Nat} {n : Nat} (h : BytesAt w v bs) (hn : bs.length = n) : SR w v n 1 (bcells bs) := by subst hn; exact h.1
set_option linter.unusedSimpArgs false in
set_option linter.unusedVariables false in
set_option maxRecDepth 100000 in
set_option maxHeartbeats 2000000 in
theorem ritem_any (k : Int) (t : It) (w : World) (ht : ItOk w t) (hn : t.n ≤ 1000000) :
    Calls Try.prog 34 #[.int .i64 k, .agg #[.int .u16 t.ha, .int .u16 t.la, .int .u64 t.hi, .int .u64 t.lo, .slice t.a t.n t.c]] w fun e w' => ∃ v, e = .returned v ∧ BytesAt w' v (itB k t) ∧ Below w.heap.size w w' := by
  have hlt := itB_lt k t ht.2.2.2.2.2.2.2
  obtain ⟨hxa, hxl, hxh, hxo, hbl, hby⟩ := ht
  obtain ⟨xa, xl, xh, xo, aa, an, ac, abs⟩ := t
  have hit : itB k ⟨xa, xl, xh, xo, aa, an, ac, abs⟩ = putB xa 2 ++ (if k = 5 then encB xh xo else if k = 17 then putB xl 2 ++ abs else abs) := rfl
  simp only at hxa hxl hxh hxo hbl hby hn ⊢
  obtain ⟨R, hR⟩ : ∃ R, itB k ⟨xa, xl, xh, xo, aa, an, ac, abs⟩ = R := ⟨_, rfl⟩
  rw [hR] at hit hlt ⊢
  obtain ⟨i0, hii, hz0, hz1, hz2⟩ := info_parts Try.info_u8
  have hB := (Below.refl w.heap.size w).alloc (Nat.le_refl _) (.cells #[.int .u16 xa, .int .u16 xl, .int .u64 xh, .int .u64 xo, .slice aa an ac] 46)
  have bP := Blk.new w 46 [.int .u16 xa, .int .u16 xl, .int .u64 xh, .int .u64 xo, .slice aa an ac]
  have hp := fun W => put_any xa 2 (by omega) (by omega) W
  have hp2 := fun W => put_any xl 2 (by omega) (by omega) W
  have he := fun W => rencode_any xh xo hxh hxo W
  have hel := encB_16 xh xo
  have b1 : (xa : Int) < 65536 := by omega
  have b2 : (xl : Int) < 65536 := by omega
  have HP := Lib.hid hp
  have HP2 := Lib.hid hp2
  have HE := Lib.hid he
  have HEL := Lib.hid hel
  have HIT := Lib.hid hit
  have HLT := Lib.hid hlt
  have HBY := Lib.hid hby
  have HBL := Lib.hid hbl
  clear hp hp2 he hel hit hlt hby hbl hR hxa hxl hxh hxo
  go_enter Try.func34, Try.ntmps34
  go_upto_region 1 with fail
  generalize hV : World.alloc _ _ = V at bP hB ⊢
  clear hV
  have HBP := Lib.hid bP
  have HB := Lib.hid hB
  have T0 := bP.cells
  have hOpen := T0
  simp only [Cells, blk, List.cons_append, List.nil_append, and_true, Nat.reduceAdd, Nat.add_zero, Nat.zero_add] at hOpen
  obtain ⟨y0, y1, y2, y3, y4⟩ := hOpen
  clear T0 hB bP
  go_wp2_with fail
  refine (HP.out _).mono ?_
  rintro e w1 ⟨v1, rfl, hown1, hB1⟩
  have hO1 : OwnB w w1 v1 (putB xa 2) := ⟨by rw [putB_len]; exact own_base hown1 HB.out.size, HB.out.trans (hB1.mono HB.out.size)⟩
  have HBP1 := Lib.hid (HBP.out.below hB1)
  have T1 := HBP1.out.cells
  have HO1 := Lib.hid hO1
  clear y0 y1 y2 y3 y4 hown1 hB1 hO1 HBP
  have hOpen := T1
  simp only [Cells, blk, List.cons_append, List.nil_append, and_true, Nat.reduceAdd, Nat.add_zero, Nat.zero_add] at hOpen
  obtain ⟨y0, y1, y2, y3, y4⟩ := hOpen
  clear T1
  by_cases h5 : k = 5
  · subst h5
    have hR5 : R = putB xa 2 ++ encB xh xo := by rw [HIT.out, if_pos rfl]
    go_wp2_with fail
    refine (HE.out _).mono ?_
    rintro e w2 ⟨v2, rfl, hv2, hB2⟩
    have hO2 := HO1.out.below hB2
    obtain ⟨X, hX⟩ : ∃ X, encB xh xo = X := ⟨_, rfl⟩
    have hel := HEL.out
    rw [hX] at hv2 hR5 hel
    obtain ⟨L, hL⟩ : ∃ L, X.length = L := ⟨_, rfl⟩
    have hsr := hv2.sr hL
    rw [hL] at hel
    have hown2 : w2.ownsRow w.heap.size 5 1 v1 2 (bcells (putB xa 2)) := hO2.1
    have hBs := hO2.2.size
    have HO2 := Lib.hid hO2
    have HR5 := Lib.hid hR5
    have HL := Lib.hid hL
    clear hv2 hB2 hO2 hX hR5 hL y0 y1 y2 y3 y4
    go_wp2_with (at_builtin; refine wpList_append_all rfl _ _ 26 rfl w.heap.size 5 i0 (.int .u8 0) 1 1 Try.underlying26 hii hz0 hz1 hz2 rfl (by decide) _ 2 _ rfl hown2 _ L _ rfl hsr (by unfold maxLen; omega) (by omega) hBs ?_)
    intro v3 w3 hown3 hg _
    have hO3 := HO2.out.app hg hown3 rfl rfl HL.out
    have HBF := Lib.hid (And.intro (hO3.bytes (by rw [← HR5.out]; exact HLT.out) (by rw [List.length_append, putB_len, HL.out]; omega)) hO3.2)
    clear hown3 hg hO3 hown2
    go_wp2
    go_ret
    exact ⟨_, rfl, by rw [HR5.out]; exact HBF.out.1, HBF.out.2⟩
  have t5 : (k == 5) = false := by simpa using h5
  by_cases h17 : k = 17
  · subst h17
    have hR5 : R = putB xa 2 ++ (putB xl 2 ++ abs) := by rw [HIT.out, if_neg h5, if_pos rfl]
    go_wp2_with fail
    refine (HP2.out _).mono ?_
    rintro e w2 ⟨v2, rfl, hv2, hB2⟩
    have hO2 := HO1.out.below hB2
    have hby2 := HBY.out.below hO2.2
    have hsr := SR.of_own hv2 (bcells_one _) (by unfold maxLen; omega)
    have hown2 : w2.ownsRow w.heap.size 5 1 v1 2 (bcells (putB xa 2)) := hO2.1
    have hBs := hO2.2.size
    have HO2 := Lib.hid hO2
    have HR5 := Lib.hid hR5
    have HBP2 := Lib.hid (HBP1.out.below hB2)
    clear hv2 hB2 hO2 hR5 hby2 y0 y1 y2 y3 y4 HBP1
    go_wp2_with (at_builtin; refine wpList_append_all rfl _ _ 26 rfl w.heap.size 5 i0 (.int .u8 0) 1 1 Try.underlying26 hii hz0 hz1 hz2 rfl (by decide) _ 2 _ rfl hown2 _ 2 _ rfl hsr (by unfold maxLen; omega) (by omega) hBs ?_)
    intro v3 w3 hown3 hg _
    have hO3 := HO2.out.app hg hown3 rfl rfl (putB_len _ _)
    have HBP3 := Lib.hid (HBP2.out.kept hg (HBP2.out.not_row (by decide) hown2))
    have hown3' : w3.ownsRow w.heap.size 5 1 v3 4 (bcells (putB xa 2 ++ putB xl 2)) := hO3.1
    have hBs := hO3.2.size
    have hsr := (HBY.out.below hO3.2).sr HBL.out
    have T3 := HBP3.out.cells
    have HO3 := Lib.hid hO3
    clear hown3 hg hO3 hown2
    have hOpen := T3
    simp only [Cells, blk, List.cons_append, List.nil_append, and_true, Nat.reduceAdd, Nat.add_zero, Nat.zero_add] at hOpen
    obtain ⟨y0, y1, y2, y3, y4⟩ := hOpen
    clear T3
    go_wp2_with (at_builtin; refine wpList_append_all rfl _ _ 26 rfl w.heap.size 5 i0 (.int .u8 0) 1 1 Try.underlying26 hii hz0 hz1 hz2 rfl (by decide) _ 4 _ rfl hown3' _ an _ rfl hsr (by unfold maxLen; omega) (by omega) hBs ?_)
    intro v4 w4 hown4 hg _
    have hO4 := HO3.out.app hg hown4 rfl rfl HBL.out
    rw [List.append_assoc] at hO4
    have HBF := Lib.hid (And.intro (hO4.bytes (by rw [← HR5.out]; exact HLT.out) (by rw [List.length_append, List.length_append, putB_len, putB_len, HBL.out]; omega)) hO4.2)
    clear hown4 hg hO4 hown3'
    go_wp2
    go_ret
    exact ⟨_, rfl, by rw [HR5.out]; exact HBF.out.1, HBF.out.2⟩
  · have t17 : (k == 17) = false := by simpa using h17
    have hR5 : R = putB xa 2 ++ abs := by rw [HIT.out, if_neg h5, if_neg h17]
    have hown2 : w1.ownsRow w.heap.size 5 1 v1 2 (bcells (putB xa 2)) := HO1.out.1
    have hBs := HO1.out.2.size
    have hsr := (HBY.out.below HO1.out.2).sr HBL.out
    have HR5 := Lib.hid hR5
    clear hR5
    go_wp2_with (at_builtin; refine wpList_append_all rfl _ _ 26 rfl w.heap.size 5 i0 (.int .u8 0) 1 1 Try.underlying26 hii hz0 hz1 hz2 rfl (by decide) _ 2 _ rfl hown2 _ an _ rfl hsr (by unfold maxLen; omega) (by omega) hBs ?_)
    intro v4 w4 hown4 hg _
    have hO4 := HO1.out.app hg hown4 rfl rfl HBL.out
    have HBF := Lib.hid (And.intro (hO4.bytes (by rw [← HR5.out]; exact HLT.out) (by rw [List.length_append, putB_len, HBL.out]; omega)) hO4.2)
    clear hown4 hg hO4 hown2
    go_wp2
    go_ret
    exact ⟨_, rfl, by rw [HR5.out]; exact HBF.out.1, HBF.out.2⟩
end Go.Proofs.Ythnffdlnhfhabaa
