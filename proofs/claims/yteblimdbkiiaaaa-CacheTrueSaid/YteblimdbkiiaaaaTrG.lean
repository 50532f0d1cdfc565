/- cache: what is found in a database, by the reference. -/
import Derived.Test.YteblimdbkiiaaaaTrF
namespace Go.Proofs.Yteblimdbkiiaaaa
open Go.RowKit

def fI (db : List At) (h : Int) : Int := if findN db h < db.length then (findN db h : Nat) else -1
theorem findN_hit {db : List At} {h : Int} {k : Nat} (hk : k < db.length) (hn : ∀ j, j < k → (atI db j).ha ≠ h) (hh : (atI db k).ha = h) : findN db h = k := by
  unfold findN
  rw [List.findIdx_eq hk]
  refine ⟨by rw [atI_get hk, hh]; simp, fun j hj => ?_⟩
  rw [atI_get (by omega), beq_eq_false_iff_ne]
  exact hn j hj
theorem findN_miss {db : List At} {h : Int} (hn : ∀ j, j < db.length → (atI db j).ha ≠ h) : findN db h = db.length := by
  unfold findN
  rw [List.findIdx_eq_length]
  intro x hx
  obtain ⟨j, hj, rfl⟩ := List.getElem_of_mem hx
  rw [atI_get hj, beq_eq_false_iff_ne]
  exact hn j hj
set_option linter.unusedSimpArgs false in
set_option linter.unusedVariables false in
set_option maxRecDepth 100000 in
set_option maxHeartbeats 4000000 in
theorem find_any (a : Option Addr) (n c : Nat) (db : List At) (H : Int) (w : World) (h : Dbs w (.slice a n c) db) (hn : db.length = n) (hm : n ≤ 1000) :
    Calls Try.prog 25 #[.slice a n c, .int .u16 H] w fun e w' => e = .returned (.int .i64 (fI db H)) ∧ w = w' := by
  have HD := Lib.hid h
  have HN := Lib.hid hn
  obtain ⟨R, hR⟩ : ∃ R, fI db H = R := ⟨_, rfl⟩
  rw [hR]
  have HR := Lib.hid hR
  clear h hn hR
  go_enter Try.func25, Try.ntmps25
  go_wp2
  go_loop [5] (fun v => ∃ k : Nat, v = .int .i64 k ∧ k ≤ n ∧ Hid (∀ j, j < k → (atI db j).ha ≠ H)) (fun v => n - (intOf v).toNat)
  case atStart => exact ⟨0, by simp, Nat.zero_le _, fun j h => by omega⟩
  case round =>
    obtain ⟨k, rfl, hk, hno⟩ := hrel
    by_cases hlt : k < n
    · have g2 : decide (k < n) = true := by simpa using hlt
      have g2i : decide ((k : Int) < (n : Int)) = true := by simp; omega
      obtain ⟨b, off, rfl, hb, hat⟩ := HD.out.at HN.out (by omega)
      obtain ⟨ra, rc, d0, d1, d2, d3, d4, _, _⟩ := hat k hlt
      obtain ⟨HA, hHA⟩ : ∃ x, (atI db k).ha = x := ⟨_, rfl⟩
      rw [hHA] at d0
      have HHA := Lib.hid hHA
      have hi0 : (0 : Int) ≤ (k : Int) := by omega
      have hi1 : (k : Int) < (n : Int) := by omega
      clear hat d1 d2 d3 d4 hHA
      by_cases c1 : HA = H
      · have t1 : (HA == H) = true := by simpa using c1
        have hfi : R = (k : Int) := by
          have := findN_hit (db := db) (h := H) (by rw [HN.out]; exact hlt) hno.out (by rw [HHA.out]; exact c1)
          rw [← HR.out]
          unfold fI
          rw [this, if_pos (by rw [HN.out]; exact hlt)]
        have HFI := Lib.hid hfi
        clear c1 hfi hno
        go_wp2
        go_ret
        exact ⟨ret_eq (by rw [HFI.out]), rfl⟩
      · have t1 : (HA == H) = false := by simpa using c1
        have hno2 : Hid (∀ j, j < k + 1 → (atI db j).ha ≠ H) := Lib.hid (fun j hj => by
          by_cases c : j = k
          · rw [c, HHA.out]; exact c1
          · exact hno.out j (by omega))
        clear c1 hno
        go_wp2
        go_round
        case rel => exact ⟨k + 1, by go_num, by omega, hno2⟩
        case measure => simp [intOf]; omega
    · have ek : k = n := by omega
      have g2 : decide (k < n) = false := by simpa using hlt
      have g2i : decide ((k : Int) < (n : Int)) = false := by simp; omega
      have hfi : R = -1 := by
        have := findN_miss (db := db) (h := H) (by rw [HN.out, ← ek]; exact hno.out)
        rw [← HR.out]
        unfold fI
        rw [this, if_neg (by omega)]
      have HFI := Lib.hid hfi
      clear hfi hno ek hlt
      go_wp2
      go_ret
      exact ⟨ret_eq (by rw [HFI.out]), rfl⟩
theorem drop_at {db : List At} {k : Nat} (h : k < db.length) : db.drop k = atI db k :: db.drop (k + 1) := by
  rw [List.drop_eq_getElem_cons h, atI_get h]
set_option linter.unusedSimpArgs false in
set_option linter.unusedVariables false in
set_option maxRecDepth 100000 in
set_option maxHeartbeats 4000000 in
theorem group_any (a : Option Addr) (n c : Nat) (db : List At) (i : Nat) (H : Int) (w : World) (h : Dbs w (.slice a n c) db) (hn : db.length = n) (hi : i < n) (hm : n ≤ 1000) (hg : Gdb db) (hsv : svA db i = true) (hH : (atI db i).ha = H) :
    Calls Try.prog 51 #[.slice a n c, .int .u16 H] w fun e w' => e = .returned (.tuple #[.int .u16 (lastOf H (db.drop (i + 1))), .bool true]) ∧ Below w.heap.size w w' := by
  have hfi : fI db H = (i : Nat) := by
    unfold fI
    rw [← hH, findN_at hg (by omega), if_pos (by omega)]
  have hfa := find_any a n c db H w h hn hm
  rw [hfi] at hfa
  obtain ⟨R, hR⟩ : ∃ R, lastOf H (db.drop (i + 1)) = R := ⟨_, rfl⟩
  rw [hR]
  have HN := Lib.hid hn
  have HFA := Lib.hid hfa
  have HR := Lib.hid hR
  obtain ⟨b, off, rfl, hb, hat⟩ := h.at hn (by omega)
  have HAT := Lib.hid hat
  have hB := Below.refl w.heap.size w
  obtain ⟨ra, rc, d0, d1, d2, d3, d4, hcap, hby⟩ := (HAT.out (i) (by omega)).below hB
  obtain ⟨⟨ha, hh, lo, pe, bs⟩, he⟩ : ∃ r, atI db (i) = r := ⟨_, rfl⟩
  rw [he] at d0 d1 d2 d3 d4 hby hcap
  simp only at d0 d1 d2 d3 d4 hby hcap
  obtain ⟨L, hL⟩ : ∃ L, bs.length = L := ⟨_, rfl⟩
  rw [hL] at d4 hby hcap
  unfold svA at hsv
  rw [he] at hsv
  simp only at hsv
  have hs1 := fun W => isSv_any ha hh lo pe (.slice ra L rc) W
  simp only [hsv] at hs1
  have HS1 := Lib.hid hs1
  have hi0 : (0 : Int) ≤ (i : Int) := by omega
  have hi1 : (i : Int) < (n : Int) := by omega
  have g1 : decide ((i : Int) < 0) = false := by simp
  have w1 : IntKind.i64.wrap ((i : Int) + 1) = ((i + 1 : Nat) : Int) := by rw [IntWalk.i64_in _ (by omega)]; omega
  clear h hn hfi hfa hR hat he hsv hs1 hby hcap hL hH hg
  go_enter Try.func51, Try.ntmps51
  go_wp2_with fail
  refine HFA.out.mono ?_
  rintro e w' ⟨rfl, rfl⟩
  go_wp2_with fail
  refine (HS1.out _).mono ?_
  rintro e w2 ⟨rfl, hB2⟩
  have HB2 := Lib.hid hB2
  clear d0 d1 d2 d3 d4 hB hB2
  go_wp2_with fail
  go_loopw [7, 8] (fun l v W => ∃ (k : Nat) (lv : Int), v = .int .i64 k ∧ k ≤ n ∧ l = .int .u16 lv ∧ Hid (lastOf lv (db.drop k) = R) ∧ Below w.heap.size w W) (fun _ v _ => n - (intOf v).toNat)
  case atStart => exact ⟨i + 1, H, rfl, by omega, rfl, HR, HB2.out⟩
  case round =>
    obtain ⟨k, lv, rfl, hk, rfl, hrl, hB⟩ := hrel
    by_cases hlt : k < n
    · have g2 : decide (k < n) = true := by simpa using hlt
      have g2i : decide ((k : Int) < (n : Int)) = true := by simp; omega
      have hdr := drop_at (db := db) (k := k) (by rw [HN.out]; exact hlt)
      have hrl2 := hrl.out
      rw [hdr] at hrl2
      obtain ⟨ra2, rc2, d02, d12, d22, d32, d42, hcap2, hby2⟩ := (HAT.out (k) (by omega)).below hB
      obtain ⟨⟨ha2, hh2, lo2, pe2, bs2⟩, he2⟩ : ∃ r, atI db (k) = r := ⟨_, rfl⟩
      rw [he2] at d02 d12 d22 d32 d42 hby2 hcap2
      simp only at d02 d12 d22 d32 d42 hby2 hcap2
      obtain ⟨L2, hL2⟩ : ∃ L, bs2.length = L := ⟨_, rfl⟩
      rw [hL2] at d42 hby2 hcap2
      rw [he2, lastOf] at hrl2
      simp only at hrl2
      have hs2 := fun W => isSv_any ha2 hh2 lo2 pe2 (.slice ra2 L2 rc2) W
      obtain ⟨SV, hSV⟩ : ∃ x, svU hh2 lo2 = x := ⟨_, rfl⟩
      rw [hSV] at hrl2
      simp only [hSV] at hs2
      have HS2 := Lib.hid hs2
      have HRL := Lib.hid hrl2
      have D0 := Lib.hid d02
      have hj0 : (0 : Int) ≤ (k : Int) := by omega
      have hj1 : (k : Int) < (n : Int) := by omega
      have w2 : IntKind.i64.wrap ((k : Int) + 1) = (k : Int) + 1 := by rw [IntWalk.i64_in _ (by omega)]
      clear hdr hrl hrl2 he2 hs2 hSV hby2 hcap2 hL2
      cases SV with
      | true =>
        go_wp2_with fail
        refine (HS2.out _).mono ?_
        rintro e w4 ⟨rfl, hC⟩
        have HB4 := Lib.hid (hB.trans (hC.mono hB.size))
        clear d02 d12 d22 d32 d42 hC hB
        have hr := HRL.out
        simp only [if_true] at hr
        subst hr
        go_wp2
        refine bodyPost_ret (v := .tuple #[.int .u16 lv, .bool true]) (by simp [results, Try.results51, go_sem]) rfl ?_
        exact ⟨rfl, HB4.out⟩
      | false =>
        go_wp2_with fail
        refine (HS2.out _).mono ?_
        rintro e w4 ⟨rfl, hC⟩
        have HB4 := Lib.hid (hB.trans (hC.mono hB.size))
        clear d02 d12 d22 d32 d42
        have d02 := kc D0.out hC
        clear hC hB
        have hr := HRL.out
        simp only [Bool.false_eq_true, if_false] at hr
        have HR2 := Lib.hid hr
        clear hr HRL
        go_wp2
        go_roundw
        case rel => exact ⟨k + 1, ha2, by go_num, by omega, rfl, HR2, HB4.out⟩
        case measure => simp [intOf]; omega
    · have ek : k = n := by omega
      have g2 : decide (k < n) = false := by simpa using hlt
      have g2i : decide ((k : Int) < (n : Int)) = false := by simp; omega
      have hr := hrl.out
      rw [List.drop_of_length_le (by rw [HN.out, ek]; exact Nat.le_refl _)] at hr
      have hr2 : lv = R := hr
      subst hr2
      clear hr hrl ek hlt
      go_wp2
      refine bodyPost_ret (v := .tuple #[.int .u16 lv, .bool true]) (by simp [results, Try.results51, go_sem]) rfl ?_
      exact ⟨rfl, hB⟩
end Go.Proofs.Yteblimdbkiiaaaa
