/- chanmap: Text of the reference. -/
import Derived.Test.YtoaiiceglfmfcaaDoorCtG
namespace Go.Proofs.YtoaiiceglfmfcaaDoor
open Go.RowKit

theorem beq_nil_eq_isEmpty' (l : List UInt8) : (l == []) = l.isEmpty := by cases l <;> rfl
set_option linter.unusedSimpArgs false in
set_option linter.unusedVariables false in
set_option maxRecDepth 100000 in
set_option maxHeartbeats 1000000 in
theorem rnumber_any (n : Nat) (hn : n < 100) (w : World) :
    Calls Tryd.prog 50 #[.int .i64 n] w fun e w' => e = .returned (.string (strB (dec n))) ∧ Below w.heap.size w w' := by
  unfold dec
  by_cases h : n < 10
  · rw [if_pos h]
    have g1 : decide (n < 10) = true := by simpa using h
    have bP := Blk.new w 5 [.int .u8 (48 + (n : Int))]
    have hby : ∀ cap, BytesAt (w.alloc (.cells #[.int .u8 (48 + (n : Int))] 5)) (.slice (some ⟨w.heap.size, 0, none⟩) 1 cap) [48 + n] := fun cap =>
      bytesAt_of_blk (by simpa [bcells] using bP) rfl (by simp; omega) (by decide)
    have hcv := fun cap => run_convert_b (P := Tryd.prog) (hby cap) 35 5 9 Tryd.underlying35 Tryd.underlying5 Tryd.underlying9
    have w1 : IntKind.i64.wrap (48 + (n : Int)) = 48 + (n : Int) := IntWalk.i64_in _ (by omega)
    have w2 : IntKind.u8.wrap (48 + (n : Int)) = 48 + (n : Int) := IntWalk.u8_in _ (by omega)
    have hB : Below w.heap.size w (w.alloc (.cells #[.int .u8 (48 + (n : Int))] 5)) := (Below.refl _ _).alloc (Nat.le_refl _) _
    clear hby bP
    go_enter Tryd.func50, Tryd.ntmps50
    go_wp2
    go_ret
    exact ⟨rfl, hB⟩
  · rw [if_neg h]
    have g1 : decide (n < 10) = false := by simpa using h
    obtain ⟨a, ha⟩ : ∃ a, n / 10 = a := ⟨_, rfl⟩
    obtain ⟨b, hb⟩ : ∃ b, n % 10 = b := ⟨_, rfl⟩
    have ha1 : (n : Int) / 10 = (a : Int) := by omega
    have hb1 : (n : Int) % 10 = (b : Int) := by omega
    have ha9 : a < 10 := by omega
    have hb9 : b < 10 := by omega
    rw [ha, hb]
    have bP := Blk.new w 5 [.int .u8 (48 + (a : Int)), .int .u8 (48 + (b : Int))]
    have hby : ∀ cap, BytesAt (w.alloc (.cells #[.int .u8 (48 + (a : Int)), .int .u8 (48 + (b : Int))] 5)) (.slice (some ⟨w.heap.size, 0, none⟩) 2 cap) [48 + a, 48 + b] := fun cap =>
      bytesAt_of_blk (by simpa [bcells] using bP) rfl (by simp; omega) (by decide)
    have hcv := fun cap => run_convert_b (P := Tryd.prog) (hby cap) 35 5 9 Tryd.underlying35 Tryd.underlying5 Tryd.underlying9
    have w1 : IntKind.i64.wrap (48 + (a : Int)) = 48 + (a : Int) := IntWalk.i64_in _ (by omega)
    have w2 : IntKind.u8.wrap (48 + (a : Int)) = 48 + (a : Int) := IntWalk.u8_in _ (by omega)
    have w3 : IntKind.i64.wrap (48 + (b : Int)) = 48 + (b : Int) := IntWalk.i64_in _ (by omega)
    have w4 : IntKind.u8.wrap (48 + (b : Int)) = 48 + (b : Int) := IntWalk.u8_in _ (by omega)
    have hB : Below w.heap.size w (w.alloc (.cells #[.int .u8 (48 + (a : Int)), .int .u8 (48 + (b : Int))] 5)) := (Below.refl _ _).alloc (Nat.le_refl _) _
    clear hby bP ha hb
    go_enter Tryd.func50, Tryd.ntmps50
    go_wp2
    go_ret
    exact ⟨rfl, hB⟩
set_option linter.unusedSimpArgs false in
set_option linter.unusedVariables false in
set_option maxRecDepth 100000 in
set_option maxHeartbeats 4000000 in
theorem rtext_any (m : Nat) (hm : m < 18446744073709551616) (w : World) :
    Calls Tryd.prog 35 #[.int .u64 m] w fun e w' => e = .returned (.string (strB (tx m))) ∧ Below w.heap.size w w' := by
  go_enter Tryd.func35, Tryd.ntmps35
  go_wp2
  go_loopw [3, 4, 5] (fun s i _ wr => ∃ k : Nat, i = .int .i64 k ∧ k ≤ 37 ∧ s = .string (strB (txtR (runsTo m k))) ∧ Below w.heap.size w wr) (fun _ i _ _ => 37 - (intOf i).toNat)
  case atStart => exact ⟨0, by simp, by omega, rfl, Below.refl _ _⟩
  case round =>
    obtain ⟨k, rfl, hk, rfl, hB⟩ := hrel
    by_cases hlt : k < 37
    · have g1 : decide (k ≤ 36) = true := by simp; omega
      have g1' : decide ((k : Int) ≤ 36) = true := by simp; omega
      have wk : IntKind.i64.wrap ((k : Int) + 1) = (k : Int) + 1 := IntWalk.i64_in _ (by omega)
      have wm : IntKind.i64.wrap ((k : Int) - 1) = (k : Int) - 1 := IntWalk.i64_in _ (by omega)
      have hs := runsTo_succ m k
      have h1 := fun W => rhas_any m hm (k : Int) W
      have h2 := fun W => rhas_any m hm ((k : Int) - 1) W
      cases hp : hasI m (k : Int)
      · rw [hp] at hs
        simp only [hp] at h1
        simp only [Bool.false_and, Bool.false_eq_true, if_false, List.append_nil] at hs
        have HS := Lib.hid hs
        have H1 := Lib.hid h1
        clear h1 h2 hs hp
        go_wp2_with (go_at_call 15; refine (H1.out _).mono ?_; rintro e w' ⟨rfl, rfl⟩)
        refine ⟨⟨k + 1, by simp, hlt, by rw [HS.out], hB⟩, ?_⟩
        simp [intOf]
        omega
      · cases hq : hasI m ((k : Int) - 1)
        · rw [hp, hq] at hs
          simp only [hp] at h1
          simp only [hq] at h2
          simp only [Bool.true_and, Bool.not_false, if_true] at hs
          have HS := Lib.hid hs
          have H1 := Lib.hid h1
          have H2 := Lib.hid h2
          have hl36 := (lastOf_spec m _ k rfl hlt hp).2.1
          have hsn := txtR_snoc (runsTo m k) (k, lastOf m k)
          have hln := runsTo_len m k
          have hlx := txtR_len (runsTo m k)
          have hl2 : (if hasI m ((k : Int) - 1) then 1 else 0) ≤ 1 := by split <;> omega
          have hnl := txtR_nil (runsTo m k)
          clear h1 h2 hs hp hq
          go_wp2_with fail
          refine (H1.out _).mono ?_
          rintro e w' ⟨rfl, rfl⟩
          go_wp2_with fail
          refine (H2.out _).mono ?_
          rintro e w' ⟨rfl, rfl⟩
          go_wp2_with fail
          obtain ⟨wo, rfl⟩ : ∃ wo : World, wo = wr := ⟨_, rfl⟩
          go_loop [5] (fun b => ∃ j : Nat, b = .int .i64 j ∧ j < 37 ∧ k ≤ j ∧ Hid (lastOf m k = lastOf m j)) (fun b => 37 - (intOf b).toNat)
          case atStart => exact ⟨k, rfl, hlt, Nat.le_refl _, Lib.hid rfl⟩
          case round =>
            obtain ⟨j, rfl, hj37, hkj, hlj⟩ := hrel
            have wj : IntKind.i64.wrap ((j : Int) + 1) = (j : Int) + 1 := IntWalk.i64_in _ (by omega)
            have h3 := fun W => rhas_any m hm ((j : Int) + 1) W
            cases hp : hasI m ((j : Int) + 1)
            · have hst := lastOf_stop m j (by rw [show ((j + 1 : Nat) : Int) = (j : Int) + 1 by omega]; exact hp)
              simp only [hp] at h3
              have hK : lastOf m k = j := hlj.out.trans hst
              have H3 := Lib.hid h3
              rw [hK] at hsn HS
              obtain ⟨J, hJ⟩ : ∃ J, txtR (runsTo m k) = J := ⟨_, rfl⟩
              rw [hJ] at hsn hlx hnl ⊢
              obtain ⟨q, hq⟩ : ∃ q, decide (J = []) = q := ⟨_, rfl⟩
              have hJm : ∀ x ∈ J, x < 256 := by rw [← hJ]; exact txtR_lt _ (runs_bd m k)
              have f1 := strB_beqL J [] hJm (by simp)
              have f2 := strB_beq J [] hJm (by simp)
              rw [hq] at f1 f2
              have es : strB [] = { data := #[] } := rfl
              rw [es] at f1 f2
              have f3 : ((strB J).toList != ({ data := #[] } : ByteArray).toList) = !q := by rw [← f1]; rfl
              have f4 : (strB J != { data := #[] }) = !q := by rw [← f2]; rfl
              have hnil : ({ data := #[] } : ByteArray).toList = [] := by rw [ByteArray.toList_eq]
              have f6 : ((strB J).toList == []) = q := by rw [← hnil]; exact f1
              have f5 : (strB J).toList.isEmpty = q := by rw [← f6, beq_nil_eq_isEmpty']
              have hJn : (runsTo m k = []) ↔ J = [] := hnl.symm
              have hlJ : J.length ≤ 120 := by omega
              have zJ := strB_size J
              have zk := strB_size (dec k)
              have zj := strB_size (dec j)
              have zk' := (dec_len k).2
              have zj' := (dec_len j).2
              have nk := rnumber_any k (by omega)
              have nj := rnumber_any j (by omega)
              have ejc : ({ data := #[44] } : ByteArray) = strB [44] := rfl
              have ejd : ({ data := #[45] } : ByteArray) = strB [45] := rfl
              clear hst hp h3 hlj hnl hln hl2
              have HSN : Hid (txtR (runsTo m (k + 1)) = if J = [] then part (k, j) else J ++ 44 :: part (k, j)) := Lib.hid (by
                rw [HS.out, hsn]
                by_cases e : J = []
                · rw [if_pos e, if_pos (hJn.2 e)]
                · rw [if_neg e, if_neg (fun h => e (hJn.1 h))])
              clear hsn hJ hJn HS
              cases q
              · have hne : ¬ J = [] := by simpa using hq
                have hsn := HSN.out
                rw [if_neg hne] at hsn
                have HSN2 := Lib.hid hsn
                clear hsn HSN hq hne
                obtain ⟨J1, hJ1⟩ : ∃ L, J ++ [44] = L := ⟨_, rfl⟩
                obtain ⟨J2, hJ2⟩ : ∃ L, J1 ++ dec k = L := ⟨_, rfl⟩
                have e1 : strB J ++ ({ data := #[44] } : ByteArray) = strB J1 := by rw [ejc, strB_app, hJ1]
                have z1 : (strB J1).size ≤ 130 := by rw [strB_size, ← hJ1, List.length_append]; simp; omega
                have e2 : strB J1 ++ strB (dec k) = strB J2 := by rw [strB_app, hJ2]
                have z2 : (strB J2).size ≤ 140 := by rw [strB_size, ← hJ2, ← hJ1, List.length_append, List.length_append]; simp; omega
                have hJ2' : J2 = J ++ [44] ++ dec k := by rw [← hJ2, ← hJ1]
                clear hJ1 hJ2
                have zk2 : (strB (dec k)).size ≤ 2 := by rw [strB_size]; exact (dec_len k).2
                have zj2 : (strB (dec j)).size ≤ 2 := by omega
                have zJ2 : (strB J).size ≤ 120 := by omega
                clear zJ zk zj zk' zj'
                by_cases hkj' : k < j
                · have g5 : decide (k < j) = true := by simpa using hkj'
                  obtain ⟨J3, hJ3⟩ : ∃ L, J2 ++ [45] = L := ⟨_, rfl⟩
                  obtain ⟨J4, hJ4⟩ : ∃ L, J3 ++ dec j = L := ⟨_, rfl⟩
                  have e3 : strB J2 ++ ({ data := #[45] } : ByteArray) = strB J3 := by rw [ejd, strB_app, hJ3]
                  have z3 : (strB J3).size ≤ 150 := by rw [strB_size] at z2; rw [strB_size, ← hJ3, List.length_append]; simp; omega
                  have e4 : strB J3 ++ strB (dec j) = strB J4 := by rw [strB_app, hJ4]
                  have hres : Hid (txtR (runsTo m (k + 1)) = J4) := Lib.hid (by rw [HSN2.out, ← hJ4, ← hJ3, hJ2']; unfold part; rw [if_pos hkj']; try simp)
                  clear hJ3 hJ4 hJ2'
                  clear ejc ejd es HSN2 hJm
                  go_wp2_with fail
                  refine (H3.out _).mono ?_
                  rintro e w' ⟨rfl, rfl⟩
                  go_wp2_with fail
                  refine (nk _).mono ?_
                  rintro e w5 ⟨rfl, hB5⟩
                  have hB6 := hB.trans (hB5.mono hB.size)
                  clear hB5
                  go_wp2_with fail
                  refine (nj _).mono ?_
                  rintro e w7 ⟨rfl, hB7⟩
                  have hB8 := hB6.trans (hB7.mono hB6.size)
                  clear hB7
                  go_wp2
                  refine ⟨⟨k + 1, by simp, hlt, by rw [hres.out], by assumption⟩, ?_⟩
                  simp [intOf]
                  omega
                · have g5 : decide (k < j) = false := by simpa using hkj'
                  have hres : Hid (txtR (runsTo m (k + 1)) = J2) := Lib.hid (by rw [HSN2.out, hJ2']; unfold part; rw [if_neg hkj']; try simp)
                  clear hJ2'
                  clear ejc ejd es HSN2 hJm
                  go_wp2_with fail
                  refine (H3.out _).mono ?_
                  rintro e w' ⟨rfl, rfl⟩
                  go_wp2_with fail
                  refine (nk _).mono ?_
                  rintro e w5 ⟨rfl, hB5⟩
                  have hB6 := hB.trans (hB5.mono hB.size)
                  clear hB5
                  go_wp2
                  refine ⟨⟨k + 1, by simp, hlt, by rw [hres.out], by assumption⟩, ?_⟩
                  simp [intOf]
                  omega
              · have hne : J = [] := by simpa using hq
                have hsn := HSN.out
                rw [if_pos hne] at hsn
                subst hne
                have HSN2 := Lib.hid hsn
                clear hsn HSN hq
                obtain ⟨J2, hJ2⟩ : ∃ L, dec k = L := ⟨_, rfl⟩
                rw [hJ2] at zk zk' nk
                have hJ2' : J2 = dec k := hJ2.symm
                have e2 : strB [] ++ strB J2 = strB J2 := by rw [strB_app]; rfl
                have e2' : ({ data := #[] } : ByteArray) ++ strB J2 = strB J2 := e2
                have z2 : (strB J2).size ≤ 140 := by omega
                clear hJ2
                have zk2 : (strB (dec k)).size ≤ 2 := by rw [strB_size]; exact (dec_len k).2
                have zj2 : (strB (dec j)).size ≤ 2 := by omega
                skip
                clear zk zj zk' zj'
                by_cases hkj' : k < j
                · have g5 : decide (k < j) = true := by simpa using hkj'
                  obtain ⟨J3, hJ3⟩ : ∃ L, J2 ++ [45] = L := ⟨_, rfl⟩
                  obtain ⟨J4, hJ4⟩ : ∃ L, J3 ++ dec j = L := ⟨_, rfl⟩
                  have e3 : strB J2 ++ ({ data := #[45] } : ByteArray) = strB J3 := by rw [ejd, strB_app, hJ3]
                  have z3 : (strB J3).size ≤ 150 := by rw [strB_size] at z2; rw [strB_size, ← hJ3, List.length_append]; simp; omega
                  have e4 : strB J3 ++ strB (dec j) = strB J4 := by rw [strB_app, hJ4]
                  have hres : Hid (txtR (runsTo m (k + 1)) = J4) := Lib.hid (by rw [HSN2.out, ← hJ4, ← hJ3, hJ2']; unfold part; rw [if_pos hkj']; try simp)
                  clear hJ3 hJ4 hJ2'
                  clear ejc ejd es HSN2 hJm
                  go_wp2_with fail
                  refine (H3.out _).mono ?_
                  rintro e w' ⟨rfl, rfl⟩
                  go_wp2_with fail
                  refine (nk _).mono ?_
                  rintro e w5 ⟨rfl, hB5⟩
                  have hB6 := hB.trans (hB5.mono hB.size)
                  clear hB5
                  go_wp2_with fail
                  refine (nj _).mono ?_
                  rintro e w7 ⟨rfl, hB7⟩
                  have hB8 := hB6.trans (hB7.mono hB6.size)
                  clear hB7
                  go_wp2
                  refine ⟨⟨k + 1, by simp, hlt, by rw [hres.out], by assumption⟩, ?_⟩
                  simp [intOf]
                  omega
                · have g5 : decide (k < j) = false := by simpa using hkj'
                  have hres : Hid (txtR (runsTo m (k + 1)) = J2) := Lib.hid (by rw [HSN2.out, hJ2']; unfold part; rw [if_neg hkj'])
                  clear hJ2'
                  clear ejc ejd es HSN2 hJm
                  go_wp2_with fail
                  refine (H3.out _).mono ?_
                  rintro e w' ⟨rfl, rfl⟩
                  go_wp2_with fail
                  refine (nk _).mono ?_
                  rintro e w5 ⟨rfl, hB5⟩
                  have hB6 := hB.trans (hB5.mono hB.size)
                  clear hB5
                  go_wp2
                  refine ⟨⟨k + 1, by simp, hlt, by rw [hres.out], by assumption⟩, ?_⟩
                  simp [intOf]
                  omega
            · have hst := lastOf_step m j (by rw [show ((j + 1 : Nat) : Int) = (j : Int) + 1 by omega]; exact hp)
              simp only [hp] at h3
              have hj36 : j + 1 < 37 := has_lt37 m (j + 1) (by rw [show ((j + 1 : Nat) : Int) = (j : Int) + 1 by omega]; exact hp)
              have HL : Hid (lastOf m k = lastOf m (j + 1)) := Lib.hid (hlj.out.trans hst)
              have H3 := Lib.hid h3
              clear hst h3 hp hlj
              go_wp2_with fail
              refine (H3.out _).mono ?_
              rintro e w' ⟨rfl, rfl⟩
              go_wp2_with fail
              refine ⟨⟨j + 1, by simp, hj36, by omega, HL⟩, ?_⟩
              simp [intOf]
              omega
        · rw [hp, hq] at hs
          simp only [hp] at h1
          simp only [hq] at h2
          simp only [Bool.true_and, Bool.not_true, Bool.false_eq_true, if_false, List.append_nil] at hs
          have HS := Lib.hid hs
          have H1 := Lib.hid h1
          have H2 := Lib.hid h2
          clear h1 h2 hs hp hq
          go_wp2_with fail
          refine (H1.out _).mono ?_
          rintro e w' ⟨rfl, rfl⟩
          go_wp2_with fail
          refine (H2.out _).mono ?_
          rintro e w' ⟨rfl, rfl⟩
          go_wp2_with fail
          refine ⟨⟨k + 1, by simp, hlt, by rw [HS.out], hB⟩, ?_⟩
          simp [intOf]
          omega
    · obtain rfl : k = 37 := by omega
      have g1 : decide (37 ≤ 36) = false := by decide
      have g1' : decide (((37 : Nat) : Int) ≤ 36) = false := by decide
      go_wp2
      go_ret
      exact ⟨rfl, hB⟩
end Go.Proofs.YtoaiiceglfmfcaaDoor
