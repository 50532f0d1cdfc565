/- capture: parts of a row of records; CaptureFlips. -/
import Derived.Test.YtccknpdnapoboaaDoorCqJ
import Derived.Test.YtccknpdnapoboaaDoorCqK
namespace Go.Proofs.YtccknpdnapoboaaDoor
open Go.RowKit

theorem CpAt.shift {w : World} {b off k i : Nat} {t : Cp} (h : CpAt w b off (i + k) t) : CpAt w b (off + i * 5) k t := by
  obtain ⟨a, c, h0, h1, h2, h3, h4, h5⟩ := h
  have e : off + (i + k) * 5 = off + i * 5 + k * 5 := by rw [Nat.add_mul]; omega
  rw [e] at h0 h1 h2 h3 h4
  exact ⟨a, c, h0, h1, h2, h3, h4, h5⟩
/-- what 's[i:j]' of records hands back -/
theorem cps_mid (w : World) (a : Option Addr) (n c i j : Nat) (ts : List Cp) (h : Cps w (.slice a n c) ts) (hn : ts.length = n) (hc : n ≤ c) (hij : i ≤ j) (hj : j ≤ n) :
    ∃ a' c', Cps w (.slice a' (j - i) c') ((ts.drop i).take (j - i)) ∧ ∀ W, (Instr.slice 22 (.slice a n c) (some (.int .i64 i)) (some (.int .i64 j)) none).run Tryd.prog W = .ok (.slice a' (j - i) c') W := by
  obtain ⟨hm, ao, cap, e, hcell⟩ := h
  rw [hn] at e
  cases e
  have hl : ((ts.drop i).take (j - i)).length = j - i := by rw [List.length_take, List.length_drop]; omega
  refine ⟨if c = i then a else a.map (·.add (i * 5)), c - i, ⟨by rw [hl]; omega, _, _, by rw [hl], ?_⟩, fun W => ?_⟩
  · intro h0
    rw [hl] at h0
    obtain ⟨b, off, rfl, hb, hcs⟩ := hcell (by omega)
    rw [if_neg (by omega)]
    refine ⟨b, off + i * 5, by simp [addr_off], hb, fun k hk => ?_⟩
    have hk2 : k < j - i := by rw [hl] at hk; exact hk
    rw [List.getElem_take, List.getElem_drop]
    exact (hcs (i + k) (by omega)).shift
  · have hu : Tryd.prog.underlying 22 = some (.slice (Tryd.prog.elem 22)) := by kernel_rfl
    rw [run_slice_lh (ht := hu) (kl := .i64) (l := (i : Int)) (kh := .i64) (h := (j : Int)) (h0 := by omega) (h1 := by omega) (h2 := by omega)]
    have hs : (sizeOf (Tryd.prog.elem 22)).run Tryd.prog W = .ok 5 W := by kernel_rfl
    rw [hs]
    have e1 : (i : Int).toNat = i := rfl
    have e2 : ((j : Int) - (i : Int)).toNat = j - i := by omega
    have e3 : ((c : Int) - (i : Int)).toNat = c - i := by omega
    simp [Result.andThen, sliced]
theorem cps_to (w : World) (a : Option Addr) (n c j : Nat) (ts : List Cp) (h : Cps w (.slice a n c) ts) (hn : ts.length = n) (hc : n ≤ c) (hj : j ≤ n) :
    ∃ a' c', Cps w (.slice a' j c') (ts.take j) ∧ ∀ W, (Instr.slice 22 (.slice a n c) none (some (.int .i64 j)) none).run Tryd.prog W = .ok (.slice a' j c') W := by
  obtain ⟨hm, ao, cap, e, hcell⟩ := h
  rw [hn] at e
  cases e
  have hl : (ts.take j).length = j := by rw [List.length_take]; omega
  refine ⟨if c = 0 then a else a.map (·.add 0), c, ⟨by rw [hl]; omega, _, _, by rw [hl], ?_⟩, fun W => ?_⟩
  · intro h0
    rw [hl] at h0
    obtain ⟨b, off, rfl, hb, hcs⟩ := hcell (by omega)
    rw [if_neg (by omega)]
    refine ⟨b, off, by simp [addr_off], hb, fun k hk => ?_⟩
    rw [List.getElem_take]
    exact hcs k (by rw [hl] at hk; omega)
  · have hu : Tryd.prog.underlying 22 = some (.slice (Tryd.prog.elem 22)) := by kernel_rfl
    rw [run_slice_h (ht := hu) (kh := .i64) (h := (j : Int)) (h0 := by omega) (h2 := by omega)]
    have hs : (sizeOf (Tryd.prog.elem 22)).run Tryd.prog W = .ok 5 W := by kernel_rfl
    rw [hs]
    simp [Result.andThen, sliced]
theorem arg_cpsC {w : World} {v : Value} (h : Arg Tryd.prog w 22 v) : ∃ ts, CpsC w v ts ∧ ts.length * 56 ≤ 140737488355328 ∧ ∀ t ∈ ts, i64b t.t ∧ i64b t.c ∧ i64b t.f ∧ i64b t.k := by
  obtain ⟨ts, h1, h2, h3⟩ := arg_cps h
  refine ⟨ts, ⟨h1, fun a n c e => ?_⟩, h2, h3⟩
  rcases h.slIn Tryd.underlying22 with rfl | ⟨a', len, cap, rfl, hle, _⟩
  · cases e; exact Nat.le_refl _
  · cases e; exact hle
theorem xor8 {x y : Int} {X Y : Nat} (hx : x = X) (hy : y = Y) (h1 : X < 256) (h2 : Y < 256) : bits .xor .u8 x y = ((X ^^^ Y : Nat) : Int) := by
  subst hx hy
  exact u8_xor_nat _ _ h1 h2
theorem pos_bd (l : List Cp) (k : Nat) (h : cpW l l.length = 0) (hk : k ≤ l.length) : pos l k ≤ 276 * k := by
  have := wrB_len l k (cpW_zero l l.length k h hk) hk
  have e : (wrB l k).length = 4 + pos l k := by simp [wrB, pos, mag]; omega
  omega
theorem pos_le (l : List Cp) (k : Nat) : pos l k ≤ pos l l.length := by
  rw [pos_all]
  unfold pos
  conv => rhs; rw [← List.take_append_drop k l]
  rw [List.flatMap_append, List.length_append]
  omega
theorem wrB_all (l : List Cp) : (wrB l l.length).length = 4 + pos l l.length := by simp [wrB, pos, mag]; omega
set_option linter.unusedSimpArgs false in
set_option linter.unusedVariables false in
set_option maxRecDepth 100000 in
set_option maxHeartbeats 8000000 in
theorem captureFlips_walk (v0 v1 v2 v3 : Value) (w : World) (a0 : Arg Tryd.prog w 22 v0) (a1 : Arg Tryd.prog w 3 v1) (a2 : Arg Tryd.prog w 3 v2) (a3 : Arg Tryd.prog w 5 v3) (hs : Sums w) (hp : Pow10 w) :
    Calls Tryd.prog 6 #[v0, v1, v2, v3] w fun e w' => e = .returned (.bool true) ∧ Below w.heap.size w w' := by
  obtain ⟨i0, hi, hz0, hz1, hz2⟩ := info_parts Tryd.info_u8
  obtain ⟨l, ⟨hl, hcap⟩, hbd, _⟩ := arg_cpsC a0
  obtain ⟨which, rfl, hw0, hw1⟩ := a1.i64 Tryd.underlying3
  obtain ⟨A0, rfl, hA0, hA1⟩ := a2.i64 Tryd.underlying3
  obtain ⟨Y, rfl, hY⟩ := a3.u8 Tryd.underlying5
  clear a0 a1 a2 a3
  have HLV := Lib.hid (lives_any w hs hp)
  have HS := Lib.hid hs
  obtain ⟨n, hn⟩ : ∃ n, l.length = n := ⟨_, rfl⟩
  rw [hn] at hbd
  have hv : ∃ a c, v0 = .slice a n c := by
    obtain ⟨_, ao, cap, rfl, _⟩ := hl
    exact ⟨ao, cap, by rw [hn]⟩
  obtain ⟨a, c, rfl⟩ := hv
  have hc := hcap a n c rfl
  have HC := Lib.hid hl
  have HN := Lib.hid hn
  clear hs hp hl hn hcap
  by_cases hbig : n ≤ 64
  rotate_left
  · have t1 : decide (n ≤ 64) = false := by simpa using hbig
    go_enter Tryd.func6, Tryd.ntmps6
    go_wp2_with fail
    refine HLV.out.mono ?_
    rintro e w1 ⟨rfl, hB1⟩
    have HB1 := Lib.hid hB1
    clear hB1 HLV
    go_wp2_with fail
    refine (few_any a n c w1).mono ?_
    rintro e w' ⟨rfl, rfl⟩
    go_wp2
    go_ret
    exact ⟨rfl, HB1.out⟩
  have t1 : decide (n ≤ 64) = true := by simpa using hbig
  by_cases hy : Y = 0
  · subst hy
    have t2 : (((0 : Nat) : Int) == 0) = true := rfl
    go_enter Tryd.func6, Tryd.ntmps6
    go_wp2_with fail
    refine HLV.out.mono ?_
    rintro e w1 ⟨rfl, hB1⟩
    have HB1 := Lib.hid hB1
    clear hB1 HLV
    go_wp2_with fail
    refine (few_any a n c w1).mono ?_
    rintro e w' ⟨rfl, rfl⟩
    go_wp2
    go_ret
    exact ⟨rfl, HB1.out⟩
  have t2 : ((Y : Int) == 0) = false := by simp; omega
  by_cases hwn : which < 0
  · have t3 : decide (which < 0) = true := by simpa using hwn
    go_enter Tryd.func6, Tryd.ntmps6
    go_wp2_with fail
    refine HLV.out.mono ?_
    rintro e w1 ⟨rfl, hB1⟩
    have HB1 := Lib.hid hB1
    clear hB1 HLV
    go_wp2_with fail
    refine (few_any a n c w1).mono ?_
    rintro e w' ⟨rfl, rfl⟩
    go_wp2
    go_ret
    exact ⟨rfl, HB1.out⟩
  have t3 : decide (which < 0) = false := by simpa using hwn
  by_cases hwb : (n : Int) ≤ which
  · have t4 : decide ((n : Int) ≤ which) = true := by simpa using hwb
    go_enter Tryd.func6, Tryd.ntmps6
    go_wp2_with fail
    refine HLV.out.mono ?_
    rintro e w1 ⟨rfl, hB1⟩
    have HB1 := Lib.hid hB1
    clear hB1 HLV
    go_wp2_with fail
    refine (few_any a n c w1).mono ?_
    rintro e w' ⟨rfl, rfl⟩
    go_wp2
    go_ret
    exact ⟨rfl, HB1.out⟩
  have t4 : decide ((n : Int) ≤ which) = false := by simpa using hwb
  obtain ⟨W, rfl⟩ := Int.eq_ofNat_of_zero_le (show 0 ≤ which by omega)
  have hWn : W < n := by omega
  go_enter Tryd.func6, Tryd.ntmps6
  go_wp2_with fail
  refine HLV.out.mono ?_
  rintro e w1 ⟨rfl, hB1⟩
  have HB1 := Lib.hid hB1
  clear hB1 HLV
  go_wp2_with fail
  refine (few_any a n c w1).mono ?_
  rintro e w' ⟨rfl, rfl⟩
  have HCP := Lib.hid (copy_any (.slice a n c) l w1 (HC.out.below HB1.out) (by rw [HN.out]; omega))
  go_wp2_with fail
  refine HCP.out.mono ?_
  rintro e w2 ⟨v2, vs2, rfl, hinv, hB2⟩
  have HB2 := Lib.hid (HB1.out.trans (hB2.mono HB1.out.size))
  have HWR := Lib.hid (write_any v2 l w2 (HS.out.keep HB2.out) hinv.cps (by rw [HN.out]; omega))
  clear hinv hB2 HCP HB1
  go_wp2_with fail
  refine HWR.out.mono ?_
  rintro e w3 ⟨v3, rfl, hB3, hok3, _⟩
  have HB3 := Lib.hid (HB2.out.trans (hB3.mono HB2.out.size))
  obtain ⟨E, hE⟩ : ∃ E, cpW l l.length = E := ⟨_, rfl⟩
  rw [hE] at hok3 ⊢
  have HOK := Lib.hid hok3
  have HE := Lib.hid hE
  clear hok3 hE hB3 HB2 HWR
  by_cases hE0 : E = 0
  rotate_left
  · have t5 : (E != 0) = true := by simpa using hE0
    go_wp2
    go_ret
    exact ⟨rfl, HB3.out⟩
  subst hE0
  have t5 : ((0 : Int) != 0) = false := rfl
  have hbc := HOK.out rfl
  have HBC := Lib.hid hbc
  clear hbc HOK
  have hWl : W < l.length := by rw [HN.out]; exact hWn
  go_wp2_with fail
  go_loopw [11, 12] (fun f i wr => ∃ k F : Nat, i = .int .i64 k ∧ k ≤ W ∧ f = .int .i64 (F : Int) ∧ Hid (4 + pos l k = F) ∧ Hid (wr = w3)) (fun _ i _ => W - (intOf i).toNat)
  case atStart => exact ⟨0, 4, rfl, Nat.zero_le _, rfl, Lib.hid (by rw [pos_zero]), Lib.hid rfl⟩
  case round =>
    obtain ⟨k, F, rfl, hk, rfl, hF, hwr⟩ := hrel
    obtain rfl := hwr.out
    by_cases hlt : k < W
    · have g1 : decide (k < W) = true := by simpa using hlt
      have g1' : decide ((k : Int) < (W : Int)) = true := by simp; omega
      have hkl : k < l.length := by omega
      obtain ⟨b, off, rfl, hb, hx⟩ := (HC.out.below HB3.out).2.elim fun ao h => h.elim fun cap h => by
        have e := h.1
        rw [HN.out] at e
        cases e
        exact h.2 (by omega)
      obtain ⟨ra, rc, d0, d1, d2, d3, d4, hby⟩ := hx k hkl
      have hps := pos_succ l k hkl
      have hpb := pos_bd l (k + 1) HE.out (by omega)
      obtain ⟨L, hL⟩ : ∃ L, l[k].bs.length = L := ⟨_, rfl⟩
      rw [hL] at d4 hps
      have hFF := hF.out
      have hi1 : (k : Int) < (n : Int) := by omega
      have w1 : IntKind.i64.wrap ((F : Int) + 16) = (F : Int) + 16 := IntWalk.i64_in _ (by omega)
      have w2 : IntKind.i64.wrap ((F : Int) + 16 + (L : Int)) = (F : Int) + 16 + (L : Int) := IntWalk.i64_in _ (by omega)
      have w3 : IntKind.i64.wrap ((k : Int) + 1) = (k : Int) + 1 := IntWalk.i64_in _ (by omega)
      have HPS := Lib.hid (show 4 + pos l (k + 1) = F + 16 + L by omega)
      clear hx hby hL hps hpb hFF d0 d1 d2 d3
      go_wp2
      go_roundw
      case rel => exact ⟨k + 1, F + 16 + L, by go_num, by omega, by go_num, HPS, Lib.hid (by simp)⟩
      case measure => simp [intOf]; omega
    · obtain rfl : k = W := by omega
      have g1 : decide (k < k) = false := by simp
      have hkl : k < l.length := hWl
      obtain ⟨b, off, rfl, hb, hx⟩ := (HC.out.below HB3.out).2.elim fun ao h => h.elim fun cap h => by
        have e := h.1
        rw [HN.out] at e
        cases e
        exact h.2 (by omega)
      obtain ⟨ra, rc, _, _, _, _, d4, _⟩ := hx k hkl
      have hps := pos_succ l k hkl
      have hpl := pos_le l (k + 1)
      have hpb := pos_bd l l.length HE.out (Nat.le_refl _)
      have hall := wrB_all l
      have hflip := fun at_ => rdA_flip l k at_ Y HE.out HC.out.lt hkl
      obtain ⟨L, hL⟩ : ∃ L, l[k].bs.length = L := ⟨_, rfl⟩
      rw [hL] at d4 hps hflip
      replace hF := hF.out
      obtain ⟨N, hNN⟩ : ∃ N, (wrB l l.length).length = N := ⟨_, rfl⟩
      rw [hF] at hflip
      rw [hNN] at hall
      have hbd2 : F + (16 + L) ≤ N := by omega
      have hN2 : N ≤ 100000 := by rw [HN.out] at hpb hall; rw [HN.out] at hpl; omega
      have hi1 : (k : Int) < (n : Int) := by omega
      have w16 : IntKind.i64.wrap (16 + (L : Int)) = 16 + (L : Int) := IntWalk.i64_in _ (by omega)
      have HFL := Lib.hid hflip
      have HNN := Lib.hid hNN
      clear hx hL hps hpl hpb hall hflip hF hNN
      by_cases hA : A0 < 0
      · have u1 : decide (A0 < 0) = true := by simpa using hA
        go_wp2
        go_ret
        exact ⟨rfl, HB3.out⟩
      have u1 : decide (A0 < 0) = false := by simpa using hA
      by_cases hAL : 16 + (L : Int) ≤ A0
      · have u2 : decide (16 + (L : Int) ≤ A0) = true := by simpa using hAL
        go_wp2
        go_ret
        exact ⟨rfl, HB3.out⟩
      have u2 : decide (16 + (L : Int) ≤ A0) = false := by simpa using hAL
      by_cases h11 : A0 = 11
      · have u3 : (A0 == 11) = true := by simpa using h11
        go_wp2
        go_ret
        exact ⟨rfl, HB3.out⟩
      have u3 : (A0 == 11) = false := by simpa using h11
      by_cases h12 : A0 = 12
      · have u4 : (A0 == 12) = true := by simpa using h12
        go_wp2
        go_ret
        exact ⟨rfl, HB3.out⟩
      have u4 : (A0 == 12) = false := by simpa using h12
      obtain ⟨A, rfl⟩ := Int.eq_ofNat_of_zero_le (show 0 ≤ A0 by omega)
      have hrd := HFL.out A (by omega) (by omega) (by omega) hy hY
      obtain ⟨J, hJ⟩ : ∃ J, F + A = J := ⟨_, rfl⟩
      rw [hJ] at hrd
      have hJN : J < N := by omega
      have wJ : IntKind.i64.wrap ((F : Int) + (A : Int)) = (J : Int) := by rw [IntWalk.i64_in _ (by omega)]; omega
      have hbc := HBC.out
      obtain ⟨hb3, a3, c3, hv3, hc3⟩ := hbc
      rw [HNN.out] at hv3 hc3
      subst hv3
      have hown4 := made0 wr
      have ha4 : Below wr.heap.size wr (wr.alloc (.cells #[] 5)) := (Below.refl _ _).alloc (Nat.le_refl _) _
      have hsr4 := (hb3.below ha4).1
      rw [HNN.out] at hsr4
      have hB4 := HB3.out.trans (ha4.mono HB3.out.size)
      have HB4 := Lib.hid hB4
      have hlt3 := hb3.2.2
      have HL3 := Lib.hid hlt3
      have HRD := Lib.hid hrd
      clear hB4 hb3 hlt3 hrd HFL HBC
      go_wp2_with (at_builtin; refine wpList_append_all rfl _ _ 25 rfl wr.heap.size 5 i0 (.int .u8 0) 1 1 Tryd.underlying25 hi hz0 hz1 hz2 rfl (by decide) _ 0 _ rfl hown4 _ N (bcells (wrB l l.length)) rfl hsr4 (by unfold maxLen; omega) (by omega) ha4.size ?_)
      intro v5 w5 hown5 hg5 _
      have hB5 := HB4.out.grown hg5 HB4.out.size (fun q hq => by simp [Value.ownBlock] at hq; subst hq; exact HB3.out.size)
      obtain ⟨N1, rfl⟩ : ∃ m, N = m + 1 := ⟨N - 1, by omega⟩
      obtain ⟨g, cg, rfl⟩ := ownsRow_succ hown5
      obtain ⟨B, hB⟩ : ∃ B, wrB l l.length = B := ⟨_, rfl⟩
      rw [hB] at hown5
      have hBr := HRD.out
      have hBlt := HL3.out
      have hBn := HNN.out
      rw [hB] at hBr hBlt hBn
      have hcellJ : w5.cell? ⟨g, J, none⟩ = some (.int .u8 (B.getD J 0 : Nat)) := by
        have := hown5.cellAt J (by omega)
        rw [this, List.getD_eq_getElem?_getD]
        simp [bcells, List.getElem?_eq_getElem (show J < B.length by omega)]
      have hbX : B.getD J 0 < 256 := by
        rw [List.getD_eq_getElem?_getD, List.getElem?_eq_getElem (show J < B.length by omega), Option.getD_some]
        exact hBlt _ (List.getElem_mem _)
      have hst := World.ownsRow.stored hown5 J (.int .u8 ((B.getD J 0 ^^^ Y : Nat) : Int))
      have hfz : w5.frozen? ⟨g, J, none⟩ = false := by
        rcases hown5.2 with ⟨h', _⟩ | ⟨g', cap', cur, h', _, hh, _⟩
        · cases h'
        · cases h'
          exact frozen_of_row _ _ J _ _ hh
      have hxr := xor8 (x := ((B.getD J 0 : Nat) : Int)) (y := (Y : Int)) rfl rfl hbX hY
      obtain ⟨X, hX⟩ : ∃ X, B.getD J 0 = X := ⟨_, rfl⟩
      rw [hX] at hcellJ hst hxr hBr hbX
      obtain ⟨Z, hZ⟩ : ∃ Z, X ^^^ Y = Z := ⟨_, rfl⟩
      have hZ256 : Z < 256 := by rw [← hZ]; exact Nat.xor_lt_two_pow (n := 8) hbX hY
      rw [hZ] at hst hxr hBr
      have j0 : (0 : Int) ≤ (J : Int) := by omega
      have j1 : (J : Int) < ((N1 + 1 : Nat) : Int) := by omega
      have HST := Lib.hid hst
      have HBR := Lib.hid hBr
      have HBLT := Lib.hid hBlt
      have HBN := Lib.hid hBn
      have HB5 := Lib.hid hB5
      have HGL := Lib.hid (hown5.lt g rfl)
      clear hown4 ha4 hsr4 HB4 hown5 hg5 hB5 hst hBr hBlt hBn hB hX hZ HRD HL3 HNN
      go_wp2_with fail
      generalize hV : World.setCell w5 _ _ = V at HST ⊢
      obtain ⟨hownV, hgV⟩ := HST.out
      have hset : (bcells B).set J (.int .u8 (Z : Int)) = bcells (B.set J Z) := by simp [bcells, List.map_set]
      rw [hset] at hownV
      have hltZ : ∀ x ∈ B.set J Z, x < 256 := fun x hx => by
        rcases List.mem_or_eq_of_mem_set hx with h | h
        · exact HBLT.out x h
        · rw [h]; exact hZ256
      have hlenZ : (B.set J Z).length = N1 + 1 := by rw [List.length_set, HBN.out]
      have hcg : N1 + 1 ≤ cg := by
        rcases hownV.2 with ⟨h', _⟩ | ⟨g', cap', cur, h', _, _, hnc, _⟩
        · cases h'
        · cases h'; exact hnc
      have hbV := bytesAt_of_own hownV hlenZ hltZ (by omega)
      have hgl := HGL.out.1
      have hBV := HB5.out.grown hgV HB5.out.size (fun q hq => by cases hq; exact Nat.le_trans HB3.out.size hgl)
      have hrd := read_any (some ⟨g, 0, none⟩) (N1 + 1) cg (B.set J Z) V (HS.out.keep hBV) hbV hlenZ hcg (by omega)
      rw [HBR.out] at hrd
      have HRD := Lib.hid hrd
      have HBV := Lib.hid hBV
      clear hV HST hownV hgV hset hltZ hlenZ hbV hBV hrd HBR HBLT HBN HB5 HGL hcellJ hfz hxr
      refine HRD.out.mono ?_
      rintro e w6 ⟨v6, rfl, hcp6, hB6⟩
      have HB6 := Lib.hid (HBV.out.trans (hB6.mono HBV.out.size))
      obtain ⟨a7, c7, hcp7, hrun7⟩ := cps_to w6 (some ⟨b, off, none⟩) n c k l (HC.out.below HB6.out) HN.out hc (by omega)
      have HSM := Lib.hid (same_any v6 (.slice a7 k c7) _ _ w6 hcp6.1 hcp7)
      have f10 : ((10 : Int) != 0) = true := rfl
      have ff : ((F : Int) == (F : Int)) = true := by simp
      clear hcp6 hcp7 hB6 HRD HBV
      go_wp2_with fail
      refine HSM.out.mono ?_
      rintro e w8 ⟨D, rfl, hD, hB8⟩
      obtain rfl : D = true := by first | exact hD.2 rfl | exact hD.2 trivial
      have HB8 := Lib.hid (HB6.out.trans (hB8.mono HB6.out.size))
      clear hB8 HB6 HSM hD
      go_wp2
      go_ret
      exact ⟨rfl, HB8.out⟩
end Go.Proofs.YtccknpdnapoboaaDoor
