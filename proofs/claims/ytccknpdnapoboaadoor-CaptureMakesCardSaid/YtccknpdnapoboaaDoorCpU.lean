/- crc.Append, crc.Check. -/
import Derived.Test.YtccknpdnapoboaaDoorCpT
import Derived.Test.YtccknpdnapoboaaDoorCpQ
namespace Go.Proofs.YtccknpdnapoboaaDoor
open Go.RowKit

theorem byt_u8 (x k : Nat) (_hk : k ≤ 3) : IntKind.u8.wrap ((x : Int) / (256 ^ k : Nat)) = ((byt x k : Nat) : Int) := by
  unfold byt
  simp only [IntKind.wrap, IntKind.signed, IntKind.bits]
  simp
theorem putB3 (x : Nat) : putB x 3 = [byt x 0, byt x 1, byt x 2] := rfl
set_option linter.unusedSimpArgs false in
set_option linter.unusedVariables false in
set_option maxRecDepth 100000 in
set_option maxHeartbeats 1000000 in
theorem append_any (v : Value) (bs : List Nat) (w : World) (hs : Sums w) (h : BytesAt w v bs) (hm : bs.length ≤ 100000) :
    Calls Tryd.prog 30 #[.int .u32 0, v] w fun e w' => ∃ v', e = .returned v' ∧ w'.ownsRow w.heap.size 5 1 v' (bs.length + 3) (bcells (bs ++ putB (sumF 0 bs) 3)) ∧ Below w.heap.size w w' := by
  obtain ⟨i0, hi, hz0, hz1, hz2⟩ := info_parts Tryd.info_u8
  have hsum := sum_any v bs w hs h
  have hcl := cloneO_any v bs w h
  obtain ⟨a, c, rfl⟩ := h.1.val
  obtain ⟨S, hS⟩ : ∃ S, sumF 0 bs = S := ⟨_, rfl⟩
  have hS24 : S < 16777216 := by rw [← hS]; exact sumF_lt bs 0 (by omega)
  rw [hS] at hsum ⊢
  have HSUM := Lib.hid hsum
  have HCL := Lib.hid hcl
  have e0 : IntKind.u8.wrap (S : Int) = ((byt S 0 : Nat) : Int) := by have := byt_u8 S 0 (by omega); simpa using this
  have e1 : IntKind.u8.wrap ((S : Int) / 256) = ((byt S 1 : Nat) : Int) := byt_u8 S 1 (by omega)
  have e2 : IntKind.u8.wrap ((S : Int) / 65536) = ((byt S 2 : Nat) : Int) := byt_u8 S 2 (by omega)
  clear hs h hsum hcl
  go_enter Tryd.func30, Tryd.ntmps30
  go_wp2_with (go_at_call 52; refine HSUM.out.mono ?_; rintro e w' ⟨rfl, rfl⟩)
  refine HCL.out.mono ?_
  rintro e w2 ⟨v2, rfl, hown, hB⟩
  have hown1 := hown.alloc (.cells #[.int .u8 (byt S 0 : Nat), .int .u8 (byt S 1 : Nat), .int .u8 (byt S 2 : Nat)] 5)
  have hB1 := hB.alloc hB.size (.cells #[.int .u8 (byt S 0 : Nat), .int .u8 (byt S 1 : Nat), .int .u8 (byt S 2 : Nat)] 5)
  have bN := Blk.new w2 5 [.int .u8 (byt S 0 : Nat), .int .u8 (byt S 1 : Nat), .int .u8 (byt S 2 : Nat)]
  have HB1 := Lib.hid hB1
  have HOWN := Lib.hid hown1
  have HBN := Lib.hid bN
  have hsz := hB1.size
  have HSZ := Lib.hid hsz
  clear hown hB hown1 hB1 bN hsz HSUM HCL
  go_wp2_with (at_builtin; refine wpList_append_own_at _ rfl _ _ 25 rfl w.heap.size 5 i0 (.int .u8 0) 1 1 Tryd.underlying25 hi hz0 hz1 hz2 rfl (by decide) _ _ _ rfl HOWN.out ⟨w2.heap.size, 0, none⟩ 3 3 [.int .u8 (byt S 0 : Nat), .int .u8 (byt S 1 : Nat), .int .u8 (byt S 2 : Nat)] rfl rfl (fun j u hj => by rw [addr_add, Nat.zero_add]; exact HBN.out.cell hj) (by simp [Value.oneCell']) (by unfold maxLen; omega) (by omega) HSZ.out ?_)
  intro v3 w3 hown3 hg _ _
  have hB3 := HB1.out.grown hg HSZ.out (fun q hq => (HOWN.out.lt q hq).1)
  have HO : Hid (w3.ownsRow w.heap.size 5 1 v3 (bs.length + 3) (bcells (bs ++ putB S 3))) := Lib.hid (by rw [putB3]; simpa [bcells] using hown3)
  clear hown3 hg HOWN HBN HB1
  go_wp2
  go_ret
  exact ⟨_, rfl, HO.out, hB3⟩
/-- the sum at the end is right -/
theorem sum_end (bs : List Nat) (m : Nat) (hl : bs.length = m + 3) (hb : ∀ x ∈ bs, x < 256) :
    decide (bs.take m ++ putB (sumF 0 (bs.take m)) 3 = bs) = decide (vnum (bs.drop m) = sumF 0 (bs.take m)) := by
  have hS : sumF 0 (bs.take m) < 16777216 := sumF_lt _ 0 (by omega)
  obtain ⟨S, hS'⟩ : ∃ S, sumF 0 (bs.take m) = S := ⟨_, rfl⟩
  rw [hS'] at hS ⊢
  have hd : (bs.drop m).length = 3 := by rw [List.length_drop]; omega
  congr 1
  apply propext
  constructor
  · intro e
    have e2 : bs.drop m = putB S 3 := by
      have := congrArg (List.drop m) e
      rw [List.drop_append_of_le_length (by rw [List.length_take]; omega), List.drop_take, Nat.sub_self, List.take_zero, List.nil_append] at this
      exact this.symm
    rw [e2, vnum_put]
    exact Nat.mod_eq_of_lt hS
  · intro e
    have e2 := putB_vnum (bs.drop m) (fun x hx => hb x (List.mem_of_mem_drop hx))
    rw [hd, e] at e2
    rw [e2, List.take_append_drop]
set_option linter.unusedSimpArgs false in
set_option linter.unusedVariables false in
set_option maxRecDepth 100000 in
set_option maxHeartbeats 1000000 in
theorem ccheck_any (a : Option Addr) (n c m : Nat) (bs : List Nat) (w : World) (hs : Sums w) (h : BytesAt w (.slice a n c) bs) (hn : bs.length = n) (hc : n ≤ c) (hm : n = m + 3) (hmx : n ≤ 100000) :
    Calls Tryd.prog 57 #[.int .u32 0, .slice a n c] w fun e w' => ∃ v', e = .returned (.tuple #[v', .int .i64 (if vnum (bs.drop m) = sumF 0 (bs.take m) then 0 else 10)]) ∧ Below w.heap.size w w' := by
  obtain ⟨a2, hby2, hrun⟩ := bytes_to w a n c m bs h hn hc (by omega)
  have hl2 : (bs.take m).length = m := by rw [List.length_take]; omega
  have hap := append_any _ _ w hs hby2 (by omega)
  have heq := sum_end bs m (by omega) h.2.2
  rw [hl2] at hap
  have HL2 := Lib.hid hl2
  obtain ⟨T, hT⟩ : ∃ T, bs.take m = T := ⟨_, rfl⟩
  rw [hT] at hby2 hap heq HL2 ⊢
  obtain ⟨S, hS⟩ : ∃ S, sumF 0 T = S := ⟨_, rfl⟩
  have hS24 : S < 16777216 := by rw [← hS]; exact sumF_lt T 0 (by omega)
  rw [hS] at hap heq ⊢
  have hlt : ∀ x ∈ T ++ putB S 3, x < 256 := fun x hx => by
    rcases List.mem_append.1 hx with h | h
    · exact hby2.2.2 x h
    · exact putB_lt S 3 x h
  have hlen : (T ++ putB S 3).length = m + 3 := by rw [List.length_append, HL2.out, putB_len]
  have w1 : IntKind.i64.wrap ((n : Int) - 3) = (m : Int) := by rw [IntWalk.i64_in _ (by omega)]; omega
  have m0 : ¬ ((m : Int) < 0) := by omega
  have HBY := Lib.hid h
  have HBY2 := Lib.hid hby2
  have HAP := Lib.hid hap
  have HLT := Lib.hid hlt
  have HLEN := Lib.hid hlen
  have HM := Lib.hid hm
  have hcl := fun W h => cloneO_any (.slice a2 m c) T W h
  obtain ⟨D, hD⟩ : ∃ D, decide (vnum (bs.drop m) = S) = D := ⟨_, rfl⟩
  have hif : (if vnum (bs.drop m) = S then (0 : Int) else 10) = if D = true then 0 else 10 := by rw [← hD]; simp
  rw [hD] at heq
  rw [hif]
  have HEQ := Lib.hid heq
  clear hs h hby2 hap heq hT hS hn hlt hlen hD hif hm
  go_enter Tryd.func57, Tryd.ntmps57
  go_wp2_with fail
  refine HAP.out.mono ?_
  rintro e w1 ⟨v1, rfl, hown, hB⟩
  have hb1 := bytesAt_of_own hown (by rw [HLEN.out]) HLT.out (by have := HM.out; omega)
  have heq := equal_any v1 (.slice a n c) _ bs w1 hb1 (HBY.out.below hB)
  rw [HEQ.out] at heq
  have HE := Lib.hid heq
  have HB := Lib.hid hB
  clear hown hB hb1 heq HAP
  go_wp2_with fail
  refine HE.out.mono ?_
  rintro e w2 ⟨rfl, hB2⟩
  have HB2 := Lib.hid (HB.out.trans (hB2.mono HB.out.size))
  clear hB2 HE HB
  cases D with
  | true =>
    have hcl2 := hcl w2 (HBY2.out.below HB2.out)
    have HCL := Lib.hid hcl2
    clear hcl hcl2
    go_wp2_with fail
    refine HCL.out.mono ?_
    rintro e w3 ⟨v3, rfl, _, hB3⟩
    have hB4 := HB2.out.trans (hB3.mono HB2.out.size)
    clear hB3
    go_wp2
    go_ret2
    exact ⟨⟨_, rfl⟩, hB4⟩
  | false =>
    clear hcl
    go_wp2
    go_ret2
    exact ⟨⟨_, rfl⟩, HB2.out⟩
end Go.Proofs.YtccknpdnapoboaaDoor
