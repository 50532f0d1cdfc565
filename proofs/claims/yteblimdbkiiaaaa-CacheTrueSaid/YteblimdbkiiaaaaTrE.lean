/- cache: what a database's Check accepts, by the reference. -/
import Derived.Test.YteblimdbkiiaaaaTrD
namespace Go.Proofs.Yteblimdbkiiaaaa
open Go.RowKit

set_option linter.unusedSimpArgs false in
set_option linter.unusedVariables false in
set_option maxRecDepth 100000 in
set_option maxHeartbeats 4000000 in
theorem charOf_any (a : Option Addr) (n c : Nat) (db : List At) (i : Nat) (w : World) (h : Dbs w (.slice a n c) db) (hn : db.length = n) (hi : i < n) (hm : n ≤ 1000) :
    Calls Try.prog 66 #[.slice a n c, .int .i64 i] w fun e w' => ∃ k : Int, e = .returned (.int .i64 k) ∧ -1 ≤ k ∧ k ≤ i ∧ Below w.heap.size w w' := by
  obtain ⟨b, off, rfl, hb, hat⟩ := h.at hn (by omega)
  have HAT := Lib.hid hat
  clear hat h
  go_enter Try.func66, Try.ntmps66
  go_wp2_with fail
  go_loopw [5] (fun v wr => ∃ kk : Nat, v = .int .i64 ((kk : Int) - 1) ∧ kk ≤ i + 1 ∧ Below w.heap.size w wr) (fun v _ => (intOf v + 1).toNat)
  case atStart => exact ⟨i + 1, by simp, Nat.le_refl _, Below.refl _ _⟩
  case round =>
    obtain ⟨kk, rfl, hkk, hB⟩ := hrel
    by_cases hk0 : 0 < kk
    · obtain ⟨k1, rfl⟩ : ∃ k1, kk = k1 + 1 := ⟨kk - 1, by omega⟩
      have e9 : (((k1 + 1 : Nat) : Int) - 1) = (k1 : Int) := by omega
      simp only [e9]
      have hat := HAT.out k1 (by omega)
      obtain ⟨ra, rc, d0, d1, d2, d3, d4, _, _⟩ := hat
      obtain ⟨⟨ha, hi', lo, pe, bs⟩, he⟩ : ∃ r, atI db k1 = r := ⟨_, rfl⟩
      rw [he] at d0 d1 d2 d3 d4
      simp only at d0 d1 d2 d3 d4
      obtain ⟨L, hL⟩ : ∃ L, bs.length = L := ⟨_, rfl⟩
      rw [hL] at d4
      have D0 := Lib.hid d0
      have D1 := Lib.hid d1
      have D2 := Lib.hid d2
      have D3 := Lib.hid d3
      have D4 := Lib.hid d4
      replace d0 := kc d0 hB
      replace d1 := kc d1 hB
      replace d2 := kc d2 hB
      replace d3 := kc d3 hB
      replace d4 := kc d4 hB
      have hi0 : (0 : Int) ≤ (k1 : Int) := by omega
      have hi1 : (k1 : Int) < (n : Int) := by omega
      have g3 : decide ((0 : Int) ≤ (k1 : Int)) = true := by simp
      have w3 : IntKind.i64.wrap ((k1 : Int) - 1) = (k1 : Int) - 1 := IntWalk.i64_in _ (by omega)
      obtain ⟨B1, hB1⟩ : ∃ x, chU hi' lo = x := ⟨_, rfl⟩
      obtain ⟨B2, hB2⟩ : ∃ x, svU hi' lo = x := ⟨_, rfl⟩
      have h1 := fun W => isCh_any ha hi' lo pe (.slice ra L rc) W
      have h2 := fun W => isSv_any ha hi' lo pe (.slice ra L rc) W
      simp only [hB1] at h1
      simp only [hB2] at h2
      have H1 := Lib.hid h1
      have H2 := Lib.hid h2
      clear h1 h2 hB1 hB2 he hL e9 hk0
      cases B1 with
      | true =>
        go_wp2_with fail
        refine (H1.out _).mono ?_
        rintro e w2 ⟨rfl, hC⟩
        have hB2 := hB.trans (hC.mono hB.size)
        clear hC d0 d1 d2 d3 d4
        go_wp2
        go_ret
        exact ⟨_, rfl, by omega, by omega, hB2⟩
      | false =>
        go_wp2_with fail
        refine (H1.out _).mono ?_
        rintro e w2 ⟨rfl, hC⟩
        have hB2 := hB.trans (hC.mono hB.size)
        clear hC d0 d1 d2 d3 d4
        have d0 := kc D0.out hB2
        have d1 := kc D1.out hB2
        have d2 := kc D2.out hB2
        have d3 := kc D3.out hB2
        have d4 := kc D4.out hB2
        go_wp2_with fail
        refine (H2.out _).mono ?_
        rintro e w4 ⟨rfl, hC⟩
        have hB4 := hB2.trans (hC.mono hB2.size)
        clear hC d0 d1 d2 d3 d4 hB hB2
        cases B2 with
        | true =>
          go_wp2
          go_ret
          exact ⟨_, rfl, by omega, by omega, hB4⟩
        | false =>
          go_wp2
          go_roundw
          case rel => exact ⟨k1, rfl, by omega, hB4⟩
          case measure => simp [intOf]
    · have hk0' : kk = 0 := by omega
      subst hk0'
      have g3 : decide ((0 : Int) ≤ ((0 : Nat) : Int) - 1) = false := by decide
      have e9 : (((0 : Nat) : Int) - 1) = -1 := by decide
      simp only [e9]
      clear hk0
      go_wp2
      go_ret
      exact ⟨_, rfl, by omega, by omega, hB⟩
set_option linter.unusedSimpArgs false in
set_option linter.unusedVariables false in
set_option maxRecDepth 100000 in
set_option maxHeartbeats 4000000 in
theorem configWrong_any (a : Option Addr) (n c : Nat) (db : List At) (i : Nat) (w : World) (h : Dbs w (.slice a n c) db) (hn : db.length = n) (hi : i < n) (hm : n ≤ 1000) :
    Calls Try.prog 60 #[.slice a n c, .int .i64 i] w fun e w' => ∃ B : Bool, e = .returned (.bool B) ∧ Below w.heap.size w w' := by
  have HCO := Lib.hid (charOf_any a n c db i w h hn hi hm)
  obtain ⟨b, off, rfl, hb, hat⟩ := h.at hn (by omega)
  have HAT := Lib.hid hat
  obtain ⟨ra, rc, d0, d1, d2, d3, d4, _, _⟩ := hat i hi
  obtain ⟨L, hL⟩ : ∃ L, (atI db i).bs.length = L := ⟨_, rfl⟩
  rw [hL] at d4
  have D4 := Lib.hid d4
  have hi0 : (0 : Int) ≤ (i : Int) := by omega
  have hi1 : (i : Int) < (n : Int) := by omega
  clear hat h d0 d1 d2 d3 hL d4
  go_enter Try.func60, Try.ntmps60
  go_wp2_with fail
  refine HCO.out.mono ?_
  rintro e w2 ⟨k, rfl, hk1, hk2, hB⟩
  have d4 := kc D4.out hB
  clear HCO
  by_cases hL2 : L = 2
  rotate_left
  · have g1 : ((L : Int) != 2) = true := by simp; omega
    have g1n : (L != 2) = true := by simpa using hL2
    clear hL2
    go_wp2
    go_ret
    exact ⟨_, rfl, hB⟩
  subst hL2
  by_cases hk0 : k < 0
  · have g2 : decide (k < 0) = true := by simpa using hk0
    go_wp2
    go_ret
    exact ⟨_, rfl, hB⟩
  have g2 : decide (k < 0) = false := by simpa using hk0
  obtain ⟨k0, rfl⟩ : ∃ k0 : Nat, k = k0 := ⟨k.toNat, by omega⟩
  have HB := Lib.hid hB
  clear hk0 hk1 hB
  go_wp2_with fail
  clear d4
  go_loopw [6] (fun v wr => ∃ kk : Nat, v = .int .i64 kk ∧ kk ≤ i ∧ Below w.heap.size w wr) (fun v _ => i - (intOf v).toNat)
  case atStart => exact ⟨k0, rfl, by omega, HB.out⟩
  case round =>
    obtain ⟨kk, rfl, hkk, hB⟩ := hrel
    by_cases hlt : kk < i
    · have g3 : decide (kk < i) = true := by simpa using hlt
      have g3i : decide ((kk : Int) < (i : Int)) = true := by simp; omega
      obtain ⟨ra, rc, d0, d1, d2, d3, d4, _, _⟩ := HAT.out kk (by omega)
      obtain ⟨⟨ha, hi', lo, pe, bs⟩, he⟩ : ∃ r, atI db kk = r := ⟨_, rfl⟩
      rw [he] at d1 d2
      simp only at d1 d2
      replace d1 := kc d1 hB
      replace d2 := kc d2 hB
      have hj0 : (0 : Int) ≤ (kk : Int) := by omega
      have hj1 : (kk : Int) < (n : Int) := by omega
      obtain ⟨B1, hB1⟩ : ∃ x, isU 45088566677504 hi' lo = x := ⟨_, rfl⟩
      have h1 := fun W => is_g hi' lo W
      simp only [hB1] at h1
      have H1 := Lib.hid h1
      clear h1 hB1 he d0 d3 d4
      go_wp2_with fail
      refine (H1.out _).mono ?_
      rintro e w4 ⟨rfl, hC⟩
      have hB4 := hB.trans (hC.mono hB.size)
      clear hC d1 d2 hB
      cases B1 with
      | true =>
        go_wp2
        go_ret
        exact ⟨_, rfl, hB4⟩
      | false =>
        go_wp2
        go_roundw
        case rel => exact ⟨kk + 1, by go_num, by omega, hB4⟩
        case measure => simp [intOf]; omega
    · have g3 : decide (kk < i) = false := by simpa using hlt
      have g3i : decide ((kk : Int) < (i : Int)) = false := by simp; omega
      go_wp2
      go_ret
      exact ⟨_, rfl, hB⟩
/-- what an accepted characteristic says -/
def ChOk (db : List At) (i : Nat) : Prop := i + 1 < db.length ∧ (atI db (i + 1)).ha = (chP (atI db i).bs).2.1 ∧ (atI db (i + 1)).hi = (chP (atI db i).bs).2.2.1 ∧ (atI db (i + 1)).lo = (chP (atI db i).bs).2.2.2.1 ∧ kpU (atI db (i + 1)).hi (atI db (i + 1)).lo = false
set_option linter.unusedSimpArgs false in
set_option linter.unusedVariables false in
set_option maxRecDepth 100000 in
set_option maxHeartbeats 4000000 in
theorem charWrong_any (a : Option Addr) (n c : Nat) (db : List At) (i : Nat) (w : World) (h : Dbs w (.slice a n c) db) (hn : db.length = n) (hi : i < n) (hm : n ≤ 1000) (hl5 : (atI db i).bs.length ≤ 512) :
    Calls Try.prog 58 #[.slice a n c, .int .i64 i] w fun e w' => ∃ B : Bool, e = .returned (.bool B) ∧ (B = false → ChOk db i) ∧ Below w.heap.size w w' := by
  obtain ⟨b, off, rfl, hb, hat⟩ := h.at hn (by omega)
  have HAT := Lib.hid hat
  obtain ⟨ra, rc, d0, d1, d2, d3, d4, hcap, hby⟩ := hat i hi
  obtain ⟨bs, hbs⟩ : ∃ x, (atI db i).bs = x := ⟨_, rfl⟩
  rw [hbs] at d4 hcap hby
  have HBS := Lib.hid hbs
  obtain ⟨L, hL⟩ : ∃ L, bs.length = L := ⟨_, rfl⟩
  rw [hL] at d4 hcap hby
  have hcp := charParts_any ra L rc bs w hby hL hcap (by rw [hbs, hL] at hl5; omega)
  obtain ⟨P, H, T1, T2, OK, hP⟩ : ∃ P H T1 T2 OK, chP bs = (P, H, T1, T2, OK) := ⟨_, _, _, _, _, rfl⟩
  rw [hP] at hcp
  simp only at hcp
  have HP := Lib.hid hP
  have HCP := Lib.hid hcp
  have hi0 : (0 : Int) ≤ (i : Int) := by omega
  have hi1 : (i : Int) < (n : Int) := by omega
  have wi : IntKind.i64.wrap ((i : Int) + 1) = (i : Int) + 1 := IntWalk.i64_in _ (by omega)
  have HN := Lib.hid hn
  clear hat h d0 d1 d2 d3 hL hcp hP hby hbs hcap hn
  obtain ⟨KB, hKB⟩ : ∃ x, kpU T1 T2 = x := ⟨_, rfl⟩
  have h2 := fun W => kept_any T1 T2 W
  simp only [hKB] at h2
  have H2 := Lib.hid h2
  have HKB := Lib.hid hKB
  clear h2 hKB
  go_enter Try.func58, Try.ntmps58
  go_wp2_with fail
  refine HCP.out.mono ?_
  rintro e w2 ⟨rfl, hB2⟩
  have HB2 := Lib.hid hB2
  have hlw2 := hB2.size
  clear d4 hB2 HCP
  go_upto_region 2 with fail
  generalize hX : World.alloc w2 _ = X
  obtain ⟨h6, hB6, h6z⟩ := alloc_named hX
  have b6 : Blk X w2.heap.size 34 [.int .u64 T1, .int .u64 T2] := h6
  have HK := Lib.hid b6
  have HBX := Lib.hid (HB2.out.trans (hB6.mono HB2.out.size))
  obtain ⟨m0, m1, _⟩ := b6.cells
  simp only [Nat.zero_add, Nat.add_zero] at m0 m1
  clear hX h6 hB6 h6z b6 HB2
  cases OK with
  | false =>
    clear m0 m1
    go_wp2
    go_ret
    exact ⟨_, rfl, (fun e => by cases e), HBX.out⟩
  | true =>
    cases KB with
    | true =>
      go_wp2_with fail
      refine (H2.out _).mono ?_
      rintro e w3 ⟨rfl, hC⟩
      have HB3 := Lib.hid (HBX.out.trans (hC.mono HBX.out.size))
      clear m0 m1 hC
      go_wp2
      go_ret
      exact ⟨_, rfl, (fun e => by cases e), HB3.out⟩
    | false =>
      by_cases hlast : n ≤ i + 1
      · have g4 : decide ((n : Int) ≤ (i : Int) + 1) = true := by simp; omega
        go_wp2_with fail
        refine (H2.out _).mono ?_
        rintro e w3 ⟨rfl, hC⟩
        have HB3 := Lib.hid (HBX.out.trans (hC.mono HBX.out.size))
        clear m0 m1 hC
        go_wp2
        go_ret
        exact ⟨_, rfl, (fun e => by cases e), HB3.out⟩
      · have g4 : decide ((n : Int) ≤ (i : Int) + 1) = false := by simp; omega
        have hj1 : (i : Int) + 1 < (n : Int) := by omega
        have hj0 : (0 : Int) ≤ (i : Int) + 1 := by omega
        have hjn : ((i : Int) + 1).toNat = i + 1 := by omega
        obtain ⟨rb, rd, e0, e1, e2, e3, e4, _, _⟩ := HAT.out (i + 1) (by omega)
        obtain ⟨⟨xa, xh, xl, xp, xb⟩, he⟩ : ∃ r, atI db (i + 1) = r := ⟨_, rfl⟩
        rw [he] at e0 e1 e2
        simp only at e0 e1 e2
        have HE := Lib.hid he
        have E0 := Lib.hid e0
        have E1 := Lib.hid e1
        have E2 := Lib.hid e2
        obtain ⟨c0, hc0⟩ : ∃ x, (xa != H) = x := ⟨_, rfl⟩
        obtain ⟨c1, hc1⟩ : ∃ x, (xh == T1) = x := ⟨_, rfl⟩
        obtain ⟨c2, hc2⟩ : ∃ x, (xl == T2) = x := ⟨_, rfl⟩
        have HLN : Hid (i + 1 < db.length) := Lib.hid (by rw [HN.out]; omega)
        have HC := Lib.hid (And.intro hc0 (And.intro hc1 hc2))
        clear e0 e1 e2 e3 e4 he hlast
        go_wp2_with fail
        refine (H2.out _).mono ?_
        rintro e w3 ⟨rfl, hC⟩
        have HB3 := Lib.hid (HBX.out.trans (hC.mono HBX.out.size))
        have b3 := HK.out.below hC
        have T : Cells w3 ([(b, off + (i + 1) * 5, .int .u16 xa), (b, off + (i + 1) * 5 + 1, .int .u64 xh), (b, off + (i + 1) * 5 + 2, .int .u64 xl)] ++ blk w2.heap.size 0 0 [.int .u64 T1, .int .u64 T2]) := ⟨kc E0.out HB3.out, kc E1.out HB3.out, kc E2.out HB3.out, b3.cells⟩
        clear m0 m1 hC b3
        go_upto_region 4 with fail
        cases c0 with
        | true =>
          refine wp_region_held_drew (S := (fun W' : World => Cells W' ([(b, off + (i + 1) * 5, .int .u16 xa), (b, off + (i + 1) * 5 + 1, .int .u64 xh), (b, off + (i + 1) * 5 + 2, .int .u64 xl)] ++ blk w2.heap.size 0 0 [.int .u64 T1, .int .u64 T2]))) (by kernel_rfl) (T.drew) (fun hHeld => ?_)
          refine wpAnyH_take (i := 0) (oi := _) (v := ?_) (by rw [List.getElem?_toArray]; rfl) (by kernel_rfl) (by kernel_rfl) (by kernel_rfl) (by exact fun _ _ _ h => h) (Or.inl ⟨by rfl, ?_⟩) (by assumption) ?_
          rotate_left
          · intro w hSw
            try simp only [Cells, blk, List.cons_append, List.nil_append, and_true, Nat.reduceAdd, Nat.add_zero, Nat.zero_add] at hSw
            go_simp
            try with_reducible rfl
          simp only [Act.put, List.setIfInBounds_toArray, List.set_cons_zero, List.set_cons_succ]
          refine wpAnyH_take (i := 1) (oi := _) (v := ?_) (by rw [List.getElem?_toArray]; rfl) (by kernel_rfl) (by kernel_rfl) (by kernel_rfl) (by exact fun _ _ _ h => h) (Or.inl ⟨by rfl, ?_⟩) (by assumption) ?_
          rotate_left
          · intro w hSw
            try simp only [Cells, blk, List.cons_append, List.nil_append, and_true, Nat.reduceAdd, Nat.add_zero, Nat.zero_add] at hSw
            go_simp
            try with_reducible rfl
          simp only [Act.put, List.setIfInBounds_toArray, List.set_cons_zero, List.set_cons_succ]
          refine wpAnyH_take (i := 2) (oi := _) (v := ?_) (by rw [List.getElem?_toArray]; rfl) (by kernel_rfl) (by kernel_rfl) (by kernel_rfl) (by exact fun _ _ _ h => h) (Or.inl ⟨by rfl, ?_⟩) (by assumption) ?_
          rotate_left
          · intro w hSw
            try simp only [Cells, blk, List.cons_append, List.nil_append, and_true, Nat.reduceAdd, Nat.add_zero, Nat.zero_add] at hSw
            go_simp
            try with_reducible rfl
          simp only [Act.put, List.setIfInBounds_toArray, List.set_cons_zero, List.set_cons_succ]
          refine wpAnyH_take (i := 3) (oi := _) (v := ?_) (by rw [List.getElem?_toArray]; rfl) (by kernel_rfl) (by kernel_rfl) (by kernel_rfl) (by exact fun _ _ _ h => h) (Or.inl ⟨by rfl, ?_⟩) (by assumption) ?_
          rotate_left
          · intro w hSw
            try simp only [Cells, blk, List.cons_append, List.nil_append, and_true, Nat.reduceAdd, Nat.add_zero, Nat.zero_add] at hSw
            go_simp
            try with_reducible rfl
          simp only [Act.put, List.setIfInBounds_toArray, List.set_cons_zero, List.set_cons_succ]
          refine wpAnyH_take (i := 4) (oi := _) (v := ?_) (by rw [List.getElem?_toArray]; rfl) (by kernel_rfl) (by kernel_rfl) (by kernel_rfl) (by exact fun _ _ _ h => h) (Or.inl ⟨by rfl, ?_⟩) (by assumption) ?_
          rotate_left
          · intro w hSw
            try simp only [Cells, blk, List.cons_append, List.nil_append, and_true, Nat.reduceAdd, Nat.add_zero, Nat.zero_add] at hSw
            go_simp
            try with_reducible rfl
          simp only [Act.put, List.setIfInBounds_toArray, List.set_cons_zero, List.set_cons_succ]
          refine wpAnyH_take (i := 5) (oi := _) (v := ?_) (by rw [List.getElem?_toArray]; rfl) (by kernel_rfl) (by kernel_rfl) (by kernel_rfl) (by exact fun _ _ _ h => h) (Or.inl ⟨by rfl, ?_⟩) (by assumption) ?_
          rotate_left
          · intro w hSw
            try simp only [Cells, blk, List.cons_append, List.nil_append, and_true, Nat.reduceAdd, Nat.add_zero, Nat.zero_add] at hSw
            go_simp
            try with_reducible rfl
          simp only [Act.put, List.setIfInBounds_toArray, List.set_cons_zero, List.set_cons_succ]
          refine wpAnyH_take (i := 6) (oi := _) (v := ?_) (by rw [List.getElem?_toArray]; rfl) (by kernel_rfl) (by kernel_rfl) (by kernel_rfl) (by exact fun _ _ _ h => h) (Or.inl ⟨by rfl, ?_⟩) (by assumption) ?_
          rotate_left
          · intro w hSw
            try simp only [Cells, blk, List.cons_append, List.nil_append, and_true, Nat.reduceAdd, Nat.add_zero, Nat.zero_add] at hSw
            go_simp
            try with_reducible rfl
          simp only [Act.put, List.setIfInBounds_toArray, List.set_cons_zero, List.set_cons_succ]
          refine wpAnyH_take (i := 7) (oi := _) (v := ?_) (by rw [List.getElem?_toArray]; rfl) (by kernel_rfl) (by kernel_rfl) (by kernel_rfl) (by exact fun _ _ _ h => h) (Or.inl ⟨by rfl, ?_⟩) (by assumption) ?_
          rotate_left
          · intro w hSw
            try simp only [Cells, blk, List.cons_append, List.nil_append, and_true, Nat.reduceAdd, Nat.add_zero, Nat.zero_add] at hSw
            go_simp
            try with_reducible rfl
          simp only [Act.put, List.setIfInBounds_toArray, List.set_cons_zero, List.set_cons_succ]
          refine wpAnyH_take (i := 8) (oi := _) (v := ?_) (by rw [List.getElem?_toArray]; rfl) (by kernel_rfl) (by kernel_rfl) (by kernel_rfl) (by exact fun _ _ _ h => h) (Or.inl ⟨by rfl, ?_⟩) (by assumption) ?_
          rotate_left
          · intro w hSw
            try simp only [Cells, blk, List.cons_append, List.nil_append, and_true, Nat.reduceAdd, Nat.add_zero, Nat.zero_add] at hSw
            go_simp
            try with_reducible rfl
          simp only [Act.put, List.setIfInBounds_toArray, List.set_cons_zero, List.set_cons_succ]
          refine wpAnyH_take (i := 9) (oi := _) (v := undef) (by rw [List.getElem?_toArray]; rfl) (by kernel_rfl) (by kernel_rfl) (by kernel_rfl) (by exact fun _ _ _ h => h) (Or.inr ⟨by rfl, rfl⟩) (by assumption) ?_
          simp only [Act.put, List.setIfInBounds_toArray, List.set_cons_zero, List.set_cons_succ]
          refine wpAnyH_take (i := 10) (oi := _) (v := undef) (by rw [List.getElem?_toArray]; rfl) (by kernel_rfl) (by kernel_rfl) (by kernel_rfl) (by exact fun _ _ _ h => h) (Or.inr ⟨by rfl, rfl⟩) (by assumption) ?_
          simp only [Act.put, List.setIfInBounds_toArray, List.set_cons_zero, List.set_cons_succ]
          refine wpAnyH_take (i := 11) (oi := _) (v := undef) (by rw [List.getElem?_toArray]; rfl) (by kernel_rfl) (by kernel_rfl) (by kernel_rfl) (by exact fun _ _ _ h => h) (Or.inr ⟨by rfl, rfl⟩) (by assumption) ?_
          simp only [Act.put, List.setIfInBounds_toArray, List.set_cons_zero, List.set_cons_succ]
          refine wpAnyH_take (i := 12) (oi := _) (v := undef) (by rw [List.getElem?_toArray]; rfl) (by kernel_rfl) (by kernel_rfl) (by kernel_rfl) (by exact fun _ _ _ h => h) (Or.inr ⟨by rfl, rfl⟩) (by assumption) ?_
          simp only [Act.put, List.setIfInBounds_toArray, List.set_cons_zero, List.set_cons_succ]
          refine wpAnyH_take (i := 13) (oi := _) (v := undef) (by rw [List.getElem?_toArray]; rfl) (by kernel_rfl) (by kernel_rfl) (by kernel_rfl) (by exact fun _ _ _ h => h) (Or.inr ⟨by rfl, rfl⟩) (by assumption) ?_
          simp only [Act.put, List.setIfInBounds_toArray, List.set_cons_zero, List.set_cons_succ]
          refine wpAnyH_take (i := 14) (oi := _) (v := undef) (by rw [List.getElem?_toArray]; rfl) (by kernel_rfl) (by kernel_rfl) (by kernel_rfl) (by exact fun _ _ _ h => h) (Or.inr ⟨by rfl, rfl⟩) (by assumption) ?_
          simp only [Act.put, List.setIfInBounds_toArray, List.set_cons_zero, List.set_cons_succ]
          refine wpAnyH_take (i := 15) (oi := _) (v := undef) (by rw [List.getElem?_toArray]; rfl) (by kernel_rfl) (by kernel_rfl) (by kernel_rfl) (by exact fun _ _ _ h => h) (Or.inr ⟨by rfl, rfl⟩) (by assumption) ?_
          simp only [Act.put, List.setIfInBounds_toArray, List.set_cons_zero, List.set_cons_succ]
          refine wpAnyH_take (i := 16) (oi := _) (v := undef) (by rw [List.getElem?_toArray]; rfl) (by kernel_rfl) (by kernel_rfl) (by kernel_rfl) (by exact fun _ _ _ h => h) (Or.inr ⟨by rfl, rfl⟩) (by assumption) ?_
          simp only [Act.put, List.setIfInBounds_toArray, List.set_cons_zero, List.set_cons_succ]
          refine wpAnyH_take (i := 17) (oi := _) (v := ?_) (by rw [List.getElem?_toArray]; rfl) (by kernel_rfl) (by kernel_rfl) (by kernel_rfl) (by exact fun _ _ _ h => h) (Or.inl ⟨by rfl, ?_⟩) (by assumption) ?_
          rotate_left
          · intro w hSw
            try simp only [Cells, blk, List.cons_append, List.nil_append, and_true, Nat.reduceAdd, Nat.add_zero, Nat.zero_add] at hSw
            go_simp
            try with_reducible rfl
          simp only [Act.put, List.setIfInBounds_toArray, List.set_cons_zero, List.set_cons_succ]
          refine wpAnyH_take (i := 18) (oi := _) (v := ?_) (by rw [List.getElem?_toArray]; rfl) (by kernel_rfl) (by kernel_rfl) (by kernel_rfl) (by exact fun _ _ _ h => h) (Or.inl ⟨by rfl, ?_⟩) (by assumption) ?_
          rotate_left
          · intro w hSw
            try simp only [Cells, blk, List.cons_append, List.nil_append, and_true, Nat.reduceAdd, Nat.add_zero, Nat.zero_add] at hSw
            go_simp
            try with_reducible rfl
          simp only [Act.put, List.setIfInBounds_toArray, List.set_cons_zero, List.set_cons_succ]
          refine wpAnyH_done (by kernel_rfl) ?_ _
          clear T hHeld
          go_wp2
          go_ret
          exact ⟨_, rfl, (fun e => by cases e), HB3.out.drew⟩
        | false =>
          cases c1 <;> cases c2
          all_goals
            refine wp_region_held_drew (S := (fun W' : World => Cells W' ([(b, off + (i + 1) * 5, .int .u16 xa), (b, off + (i + 1) * 5 + 1, .int .u64 xh), (b, off + (i + 1) * 5 + 2, .int .u64 xl)] ++ blk w2.heap.size 0 0 [.int .u64 T1, .int .u64 T2]))) (by kernel_rfl) (T.drew) (fun hHeld => ?_)
            refine wpAnyH_take (i := 0) (oi := _) (v := ?_) (by rw [List.getElem?_toArray]; rfl) (by kernel_rfl) (by kernel_rfl) (by kernel_rfl) (by exact fun _ _ _ h => h) (Or.inl ⟨by rfl, ?_⟩) (by assumption) ?_
            rotate_left
            · intro w hSw
              try simp only [Cells, blk, List.cons_append, List.nil_append, and_true, Nat.reduceAdd, Nat.add_zero, Nat.zero_add] at hSw
              go_simp
              try with_reducible rfl
            simp only [Act.put, List.setIfInBounds_toArray, List.set_cons_zero, List.set_cons_succ]
            refine wpAnyH_take (i := 1) (oi := _) (v := ?_) (by rw [List.getElem?_toArray]; rfl) (by kernel_rfl) (by kernel_rfl) (by kernel_rfl) (by exact fun _ _ _ h => h) (Or.inl ⟨by rfl, ?_⟩) (by assumption) ?_
            rotate_left
            · intro w hSw
              try simp only [Cells, blk, List.cons_append, List.nil_append, and_true, Nat.reduceAdd, Nat.add_zero, Nat.zero_add] at hSw
              go_simp
              try with_reducible rfl
            simp only [Act.put, List.setIfInBounds_toArray, List.set_cons_zero, List.set_cons_succ]
            refine wpAnyH_take (i := 2) (oi := _) (v := ?_) (by rw [List.getElem?_toArray]; rfl) (by kernel_rfl) (by kernel_rfl) (by kernel_rfl) (by exact fun _ _ _ h => h) (Or.inl ⟨by rfl, ?_⟩) (by assumption) ?_
            rotate_left
            · intro w hSw
              try simp only [Cells, blk, List.cons_append, List.nil_append, and_true, Nat.reduceAdd, Nat.add_zero, Nat.zero_add] at hSw
              go_simp
              try with_reducible rfl
            simp only [Act.put, List.setIfInBounds_toArray, List.set_cons_zero, List.set_cons_succ]
            refine wpAnyH_take (i := 3) (oi := _) (v := ?_) (by rw [List.getElem?_toArray]; rfl) (by kernel_rfl) (by kernel_rfl) (by kernel_rfl) (by exact fun _ _ _ h => h) (Or.inl ⟨by rfl, ?_⟩) (by assumption) ?_
            rotate_left
            · intro w hSw
              try simp only [Cells, blk, List.cons_append, List.nil_append, and_true, Nat.reduceAdd, Nat.add_zero, Nat.zero_add] at hSw
              go_simp
              try with_reducible rfl
            simp only [Act.put, List.setIfInBounds_toArray, List.set_cons_zero, List.set_cons_succ]
            refine wpAnyH_take (i := 4) (oi := _) (v := ?_) (by rw [List.getElem?_toArray]; rfl) (by kernel_rfl) (by kernel_rfl) (by kernel_rfl) (by exact fun _ _ _ h => h) (Or.inl ⟨by rfl, ?_⟩) (by assumption) ?_
            rotate_left
            · intro w hSw
              try simp only [Cells, blk, List.cons_append, List.nil_append, and_true, Nat.reduceAdd, Nat.add_zero, Nat.zero_add] at hSw
              go_simp
              try with_reducible rfl
            simp only [Act.put, List.setIfInBounds_toArray, List.set_cons_zero, List.set_cons_succ]
            refine wpAnyH_take (i := 5) (oi := _) (v := ?_) (by rw [List.getElem?_toArray]; rfl) (by kernel_rfl) (by kernel_rfl) (by kernel_rfl) (by exact fun _ _ _ h => h) (Or.inl ⟨by rfl, ?_⟩) (by assumption) ?_
            rotate_left
            · intro w hSw
              try simp only [Cells, blk, List.cons_append, List.nil_append, and_true, Nat.reduceAdd, Nat.add_zero, Nat.zero_add] at hSw
              go_simp
              try with_reducible rfl
            simp only [Act.put, List.setIfInBounds_toArray, List.set_cons_zero, List.set_cons_succ]
            refine wpAnyH_take (i := 6) (oi := _) (v := ?_) (by rw [List.getElem?_toArray]; rfl) (by kernel_rfl) (by kernel_rfl) (by kernel_rfl) (by exact fun _ _ _ h => h) (Or.inl ⟨by rfl, ?_⟩) (by assumption) ?_
            rotate_left
            · intro w hSw
              try simp only [Cells, blk, List.cons_append, List.nil_append, and_true, Nat.reduceAdd, Nat.add_zero, Nat.zero_add] at hSw
              go_simp
              try with_reducible rfl
            simp only [Act.put, List.setIfInBounds_toArray, List.set_cons_zero, List.set_cons_succ]
            refine wpAnyH_take (i := 7) (oi := _) (v := ?_) (by rw [List.getElem?_toArray]; rfl) (by kernel_rfl) (by kernel_rfl) (by kernel_rfl) (by exact fun _ _ _ h => h) (Or.inl ⟨by rfl, ?_⟩) (by assumption) ?_
            rotate_left
            · intro w hSw
              try simp only [Cells, blk, List.cons_append, List.nil_append, and_true, Nat.reduceAdd, Nat.add_zero, Nat.zero_add] at hSw
              go_simp
              try with_reducible rfl
            simp only [Act.put, List.setIfInBounds_toArray, List.set_cons_zero, List.set_cons_succ]
            refine wpAnyH_take (i := 8) (oi := _) (v := ?_) (by rw [List.getElem?_toArray]; rfl) (by kernel_rfl) (by kernel_rfl) (by kernel_rfl) (by exact fun _ _ _ h => h) (Or.inl ⟨by rfl, ?_⟩) (by assumption) ?_
            rotate_left
            · intro w hSw
              try simp only [Cells, blk, List.cons_append, List.nil_append, and_true, Nat.reduceAdd, Nat.add_zero, Nat.zero_add] at hSw
              go_simp
              try with_reducible rfl
            simp only [Act.put, List.setIfInBounds_toArray, List.set_cons_zero, List.set_cons_succ]
            refine wpAnyH_take (i := 9) (oi := _) (v := ?_) (by rw [List.getElem?_toArray]; rfl) (by kernel_rfl) (by kernel_rfl) (by kernel_rfl) (by exact fun _ _ _ h => h) (Or.inl ⟨by rfl, ?_⟩) (by assumption) ?_
            rotate_left
            · intro w hSw
              try simp only [Cells, blk, List.cons_append, List.nil_append, and_true, Nat.reduceAdd, Nat.add_zero, Nat.zero_add] at hSw
              go_simp
              try with_reducible rfl
            simp only [Act.put, List.setIfInBounds_toArray, List.set_cons_zero, List.set_cons_succ]
            refine wpAnyH_take (i := 10) (oi := _) (v := ?_) (by rw [List.getElem?_toArray]; rfl) (by kernel_rfl) (by kernel_rfl) (by kernel_rfl) (by exact fun _ _ _ h => h) (Or.inl ⟨by rfl, ?_⟩) (by assumption) ?_
            rotate_left
            · intro w hSw
              try simp only [Cells, blk, List.cons_append, List.nil_append, and_true, Nat.reduceAdd, Nat.add_zero, Nat.zero_add] at hSw
              go_simp
              try with_reducible rfl
            simp only [Act.put, List.setIfInBounds_toArray, List.set_cons_zero, List.set_cons_succ]
            refine wpAnyH_take (i := 11) (oi := _) (v := ?_) (by rw [List.getElem?_toArray]; rfl) (by kernel_rfl) (by kernel_rfl) (by kernel_rfl) (by exact fun _ _ _ h => h) (Or.inl ⟨by rfl, ?_⟩) (by assumption) ?_
            rotate_left
            · intro w hSw
              try simp only [Cells, blk, List.cons_append, List.nil_append, and_true, Nat.reduceAdd, Nat.add_zero, Nat.zero_add] at hSw
              go_simp
              try with_reducible rfl
            simp only [Act.put, List.setIfInBounds_toArray, List.set_cons_zero, List.set_cons_succ]
            refine wpAnyH_take (i := 12) (oi := _) (v := ?_) (by rw [List.getElem?_toArray]; rfl) (by kernel_rfl) (by kernel_rfl) (by kernel_rfl) (by exact fun _ _ _ h => h) (Or.inl ⟨by rfl, ?_⟩) (by assumption) ?_
            rotate_left
            · intro w hSw
              try simp only [Cells, blk, List.cons_append, List.nil_append, and_true, Nat.reduceAdd, Nat.add_zero, Nat.zero_add] at hSw
              go_simp
              try with_reducible rfl
            simp only [Act.put, List.setIfInBounds_toArray, List.set_cons_zero, List.set_cons_succ]
            refine wpAnyH_take (i := 13) (oi := _) (v := ?_) (by rw [List.getElem?_toArray]; rfl) (by kernel_rfl) (by kernel_rfl) (by kernel_rfl) (by exact fun _ _ _ h => h) (Or.inl ⟨by rfl, ?_⟩) (by assumption) ?_
            rotate_left
            · intro w hSw
              try simp only [Cells, blk, List.cons_append, List.nil_append, and_true, Nat.reduceAdd, Nat.add_zero, Nat.zero_add] at hSw
              go_simp
              try with_reducible rfl
            simp only [Act.put, List.setIfInBounds_toArray, List.set_cons_zero, List.set_cons_succ]
            refine wpAnyH_take (i := 14) (oi := _) (v := ?_) (by rw [List.getElem?_toArray]; rfl) (by kernel_rfl) (by kernel_rfl) (by kernel_rfl) (by exact fun _ _ _ h => h) (Or.inl ⟨by rfl, ?_⟩) (by assumption) ?_
            rotate_left
            · intro w hSw
              try simp only [Cells, blk, List.cons_append, List.nil_append, and_true, Nat.reduceAdd, Nat.add_zero, Nat.zero_add] at hSw
              go_simp
              try with_reducible rfl
            simp only [Act.put, List.setIfInBounds_toArray, List.set_cons_zero, List.set_cons_succ]
            refine wpAnyH_take (i := 15) (oi := _) (v := ?_) (by rw [List.getElem?_toArray]; rfl) (by kernel_rfl) (by kernel_rfl) (by kernel_rfl) (by exact fun _ _ _ h => h) (Or.inl ⟨by rfl, ?_⟩) (by assumption) ?_
            rotate_left
            · intro w hSw
              try simp only [Cells, blk, List.cons_append, List.nil_append, and_true, Nat.reduceAdd, Nat.add_zero, Nat.zero_add] at hSw
              go_simp
              try with_reducible rfl
            simp only [Act.put, List.setIfInBounds_toArray, List.set_cons_zero, List.set_cons_succ]
            refine wpAnyH_take (i := 16) (oi := _) (v := ?_) (by rw [List.getElem?_toArray]; rfl) (by kernel_rfl) (by kernel_rfl) (by kernel_rfl) (by exact fun _ _ _ h => h) (Or.inl ⟨by rfl, ?_⟩) (by assumption) ?_
            rotate_left
            · intro w hSw
              try simp only [Cells, blk, List.cons_append, List.nil_append, and_true, Nat.reduceAdd, Nat.add_zero, Nat.zero_add] at hSw
              go_simp
              try with_reducible rfl
            simp only [Act.put, List.setIfInBounds_toArray, List.set_cons_zero, List.set_cons_succ]
            refine wpAnyH_take (i := 17) (oi := _) (v := ?_) (by rw [List.getElem?_toArray]; rfl) (by kernel_rfl) (by kernel_rfl) (by kernel_rfl) (by exact fun _ _ _ h => h) (Or.inl ⟨by rfl, ?_⟩) (by assumption) ?_
            rotate_left
            · intro w hSw
              try simp only [Cells, blk, List.cons_append, List.nil_append, and_true, Nat.reduceAdd, Nat.add_zero, Nat.zero_add] at hSw
              go_simp
              try with_reducible rfl
            simp only [Act.put, List.setIfInBounds_toArray, List.set_cons_zero, List.set_cons_succ]
            refine wpAnyH_take (i := 18) (oi := _) (v := ?_) (by rw [List.getElem?_toArray]; rfl) (by kernel_rfl) (by kernel_rfl) (by kernel_rfl) (by exact fun _ _ _ h => h) (Or.inl ⟨by rfl, ?_⟩) (by assumption) ?_
            rotate_left
            · intro w hSw
              try simp only [Cells, blk, List.cons_append, List.nil_append, and_true, Nat.reduceAdd, Nat.add_zero, Nat.zero_add] at hSw
              go_simp
              try with_reducible rfl
            simp only [Act.put, List.setIfInBounds_toArray, List.set_cons_zero, List.set_cons_succ]
            refine wpAnyH_done (by kernel_rfl) ?_ _
            clear T hHeld hc0 hc1 hc2
            go_wp2
            go_ret
            refine ⟨_, rfl, fun e => ?_, HB3.out.drew⟩
            first
              | (simp at e; done)
              | (obtain ⟨q0, q1, q2⟩ := HC.out; unfold ChOk; rw [HE.out, HBS.out, HP.out]; exact ⟨HLN.out, by simpa using q0, eq_of_beq q1, eq_of_beq q2, by have hk := HKB.out; rw [eq_of_beq q1, eq_of_beq q2]; exact hk⟩)
end Go.Proofs.Yteblimdbkiiaaaa
