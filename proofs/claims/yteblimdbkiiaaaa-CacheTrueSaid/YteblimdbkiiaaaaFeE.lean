/- cache: the walk of CacheNever. -/
import Derived.Test.YteblimdbkiiaaaaFeB
import Derived.Deep.CutBlock
namespace Go.Proofs.Yteblimdbkiiaaaa
open Go.RowKit Go.WideShapes

theorem Try.cells_u8 : Try.prog.cellsOf 5 = 1 := by kernel_rfl
theorem Try.cells_step : Try.prog.cellsOf 47 = 2 := by kernel_rfl
theorem Try.bytes_step : Try.prog.bytesOf 47 = 16 := by kernel_rfl
theorem Try.cells_two : Try.prog.cellsOf 44 = 4 := by kernel_rfl
def senc (s : Nat × Nat) : List Value := [.int .u8 s.1, .int .u64 s.2]
theorem rd_step {w : World} (cs : List Value) (h : Rd Try.prog w 47 cs) : ∃ t, cs = senc t ∧ True := by
  obtain ⟨hl, hf⟩ := h.struct Try.underlying47
  rw [Try.cells_step] at hl
  obtain ⟨c0, c1, rfl⟩ := list2 cs hl
  have f0 : Rd Try.prog w 5 (([c0, c1].drop 0).take (Try.prog.cellsOf 5)) := hf 0 _ rfl
  have f1 : Rd Try.prog w 23 (([c0, c1].drop 1).take (Try.prog.cellsOf 23)) := hf 1 _ rfl
  simp only [Try.cells_u8, Try.cells_key, List.drop_succ_cons, List.drop_zero, List.take_succ_cons, List.take_zero] at f0 f1
  obtain ⟨x, e0, _⟩ := f0.u8 Try.underlying5
  obtain ⟨y, e1, _⟩ := f1.u64 Try.underlying23
  simp only [List.cons.injEq, and_true] at e0 e1
  subst e0 e1
  exact ⟨(x, y), rfl, trivial⟩
theorem arg_steps {w : World} {v : Value} (h : Arg Try.prog w 45 v) : ∃ l : List (Nat × Nat), SR w v l.length 2 (l.flatMap senc) ∧ l.length * 16 ≤ reachBytes := by
  obtain ⟨l, h1, h2, _⟩ := sr_of_in (α := Nat × Nat) senc (fun _ => True) 2 16 (fun _ => rfl) (fun x _ u hu => by simp [senc] at hu; rcases hu with rfl | rfl <;> rfl) (by decide) Try.cells_step Try.bytes_step rd_step (h.slIn Try.underlying45)
  exact ⟨l, h1, h2⟩
theorem Rd.array {P : Program} {w : World} {t e : TypeId} {n : Nat} {cs : List Value} (ht : P.underlying t = some (.array n e)) (h : Rd P w t cs) :
    cs.length = P.cellsOf t ∧ ∀ i, i < n → Rd P w e ((cs.drop (i * P.cellsOf e)).take (P.cellsOf e)) := by
  obtain ⟨H, enc, fuel, x, h, hw⟩ := h
  obtain ⟨xs, m, _, rfl, hl, hlen, hf⟩ := DataW.trod_array ht h
  refine ⟨hl, fun i hi => ?_⟩
  have hlt : i < xs.length := by omega
  refine ⟨H, enc, m, xs[i], by rw [hf i hi]; simp [hlt], fun k hk => hw k ?_⟩
  have : (DataW.agg (xs.map (·.1))).weights P t = DataW.weightsAll P e (xs.map (·.1)) := by rw [DataW.weights, ht]
  rw [this]
  exact weights_mem_all (List.mem_map.2 ⟨xs[i], List.getElem_mem hlt, rfl⟩) k hk
theorem okWide_arr {P : Program} {w : World} {r : Reach} {base n : Nat} {t e : TypeId} {v : Value} (ht : P.underlying t = some (.array n e)) (h : Value.okWide P w r base t v) : ∃ cs, v = .agg cs ∧ cs.size = P.cellsOf t := by
  simp only [Value.okWide, ht] at h
  obtain ⟨cs, h1, h2, _⟩ := h
  exact ⟨cs, h1, h2⟩
theorem arg_two {w : World} {v : Value} (h : Arg Try.prog w 44 v) : ∃ a b c d : Int, v = .agg #[.int .u64 a, .int .u64 b, .int .u64 c, .int .u64 d] := by
  obtain ⟨⟨b, hv⟩, hr⟩ := h
  obtain ⟨cs, rfl, hsz⟩ := okWide_arr Try.underlying44 hv
  have e : (Value.agg cs).cells.toList = cs.toList := by simp [Value.cells]
  rw [e] at hr
  obtain ⟨hl, hf⟩ := Rd.array Try.underlying44 hr
  rw [Try.cells_two] at hl
  obtain ⟨c0, c1, c2, c3, hcs⟩ := list4 cs.toList hl
  rw [hcs] at hf
  have f0 := hf 0 (by decide)
  have f1 := hf 1 (by decide)
  simp only [Try.cells_uuid, Nat.zero_mul, Nat.one_mul, List.drop_succ_cons, List.drop_zero, List.take_succ_cons, List.take_zero] at f0 f1
  obtain ⟨h0, l0, e0⟩ := rd_uuid f0
  obtain ⟨h1, l1, e1⟩ := rd_uuid f1
  simp only [List.cons.injEq, and_true] at e0 e1
  obtain ⟨rfl, rfl⟩ := e0
  obtain ⟨rfl, rfl⟩ := e1
  have : cs = #[.int .u64 h0, .int .u64 l0, .int .u64 h1, .int .u64 l1] := by rw [← Array.toList_inj, hcs]
  exact ⟨_, _, _, _, by rw [this]⟩
/-- what is read of found elements lies in no block of five cells or fewer -/
theorem CaK.set {W X : World} {i : Nat} {A : Array Value} {t : TypeId} {v : Value} {c : Ca} (h : CaK W v c) (hi : W.heap[i]? = some (.cells A t (0, 0))) (hA : A.size ≤ 5) (hg : W.grownBy X (some i)) : CaK X v c := by
  obtain ⟨⟨fv, e, h1, h2, h3, ao, cap, rfl, hn, h4⟩, hc⟩ := h
  refine ⟨⟨_, e, h1, h2, h3, ao, cap, rfl, hn, fun h0 => ?_⟩, hc⟩
  obtain ⟨b, off, rfl, hlt, hcell⟩ := h4 h0
  have hbi : b ≠ i := by
    rintro rfl
    obtain ⟨u, hu⟩ : ∃ u, (fcells c.l)[5]? = some u := ⟨_, List.getElem?_eq_getElem (show 5 < (fcells c.l).length by rw [h2]; omega)⟩
    have := hcell 5 u hu
    simp only [World.cell?, hi] at this
    have h5 : A[off + 5]? = none := Array.getElem?_eq_none (by omega)
    simp [h5] at this
  exact ⟨b, off, rfl, Nat.lt_of_lt_of_le hlt hg.size, fun j u hj => (World.cell?_of_block (a := ⟨b, off + j, none⟩) (hg.block b hlt (by simpa using hbi))).trans (hcell j u hj)⟩
/-- what is known of the cache behind some steps -/
def StB (L : List Fd) (c : Ca) (H : Int) (vl db : Bool) : Prop := (vl = false → c.va = false) ∧ (vl = true → c = ⟨true, H, L, db⟩) ∧ c.l.length ≤ 900000
theorem stb_ver {L : List Fd} {c : Ca} {H hh : Int} {vl db : Bool} (h : StB L c H vl db) : StB L (verC c hh) H (vl && (hh == H)) false := by
  obtain ⟨h1, h2, h3⟩ := h
  unfold verC
  cases vl
  · have := h1 rfl
    rw [this]
    exact ⟨fun _ => rfl, fun h => absurd h (by simp), by simp⟩
  · have := h2 rfl
    subst this
    simp only [Bool.true_and] at h3 ⊢
    cases hx : (hh == H)
    · exact ⟨fun _ => rfl, fun h => absurd h (by simp), by simp⟩
    · exact ⟨fun h => absurd h (by simp), fun _ => rfl, h3⟩
theorem stb_dbt {L : List Fd} {c : Ca} {H : Int} {vl db : Bool} (h : StB L c H vl db) : StB L (dbtC c) H vl vl := by
  obtain ⟨h1, h2, h3⟩ := h
  refine ⟨fun h => h1 h, fun h => ?_, h3⟩
  have := h2 h
  subst this
  subst h
  simp [dbtC]
set_option linter.unusedSimpArgs false in
set_option linter.unusedVariables false in
set_option maxRecDepth 100000 in
set_option maxHeartbeats 16000000 in
theorem cacheNever_walk (v0 v1 v2 v3 : Value) (w : World) (a0 : Arg Try.prog w 24 v0) (a1 : Arg Try.prog w 44 v1) (a2 : Arg Try.prog w 35 v2) (a3 : Arg Try.prog w 45 v3) :
    Calls Try.prog 6 #[v0, v1, v2, v3] w fun e w' => e = .returned (.bool true) ∧ Below w.heap.size w w' := by
  obtain ⟨l, hs, hl2⟩ := arg_fds a0
  obtain ⟨sh, sl, ch, cl, rfl⟩ := arg_two a1
  obtain ⟨va, rfl, _⟩ := a2.u16 Try.underlying35
  obtain ⟨st, ht, hl3⟩ := arg_steps a3
  have hlen2 : ∃ a n cp, v0 = .slice a n cp ∧ n = l.length := by
    obtain ⟨_, _, _, ao, cap, rfl, _⟩ := hs
    exact ⟨_, _, _, rfl, rfl⟩
  obtain ⟨fa, fn, fc, rfl, hfn⟩ := hlen2
  obtain ⟨m, hm⟩ : ∃ m, st.length = m := ⟨_, rfl⟩
  obtain ⟨_, _, _, sa, sc, rfl, _, hst⟩ := ht
  have HST := Lib.hid hst
  have HFN := Lib.hid hfn
  have HS := Lib.hid hs
  have HM := Lib.hid hm
  have hfr : fn ≤ 140737488351232 := by unfold reachBytes at hl2; omega
  have hmr : m ≤ 140737488351232 := by unfold reachBytes at hl3; omega
  rw [hm]
  clear hl2 hl3 hfn hs hst hm a0 a1 a2 a3
  have b0 := Blk.new w 44 [.int .u64 sh, .int .u64 sl, .int .u64 ch, .int .u64 cl]
  have hB0 : Below w.heap.size w (w.alloc (.cells #[.int .u64 sh, .int .u64 sl, .int .u64 ch, .int .u64 cl] 44)) := (Below.refl _ _).alloc (Nat.le_refl _) _
  by_cases hbig : 300 < fn
  · have g1 : decide (300 < fn) = true := by simpa using hbig
    go_enter Try.func6, Try.ntmps6
    go_wp2_with fail
    go_at_call 8
    refine (example_any _).mono ?_
    rintro e w4 ⟨rfl, hB4⟩
    go_wp2
    go_ret
    exact ⟨rfl, hB0.trans (hB4.mono hB0.size)⟩
  have g1 : decide (300 < fn) = false := by simpa using hbig
  by_cases hbig2 : 100 < m
  · have g2 : decide (100 < m) = true := by simpa using hbig2
    go_enter Try.func6, Try.ntmps6
    go_wp2_with fail
    go_at_call 8
    refine (example_any _).mono ?_
    rintro e w4 ⟨rfl, hB4⟩
    go_wp2
    go_ret
    exact ⟨rfl, hB0.trans (hB4.mono hB0.size)⟩
  have g2 : decide (100 < m) = false := by simpa using hbig2
  have HL2 : Hid (l.length ≤ 900000) := Lib.hid (by rw [← HFN.out]; omega)
  obtain ⟨L, hL⟩ : ∃ L, rlTo l l.length = L := ⟨_, rfl⟩
  have HL3 : Hid (L.length ≤ 900000) := Lib.hid (by rw [← hL]; have := rlTo_len l l.length; have := HL2.out; omega)
  have hB1 := hB0.alloc hB0.size (.cells #[.bool false, .int .u64 0, .slice none 0 0, .bool false] 26)
  have b1 := Blk.new (w.alloc (.cells #[.int .u64 sh, .int .u64 sl, .int .u64 ch, .int .u64 cl] 44)) 26 [.bool false, .int .u64 0, .slice none 0 0, .bool false]
  replace b0 := b0.below ((Below.refl _ _).alloc (Nat.le_refl _) (.cells #[.bool false, .int .u64 0, .slice none 0 0, .bool false] 26))
  simp only [World.size_alloc] at b1
  have hcon : ∀ W, Below w.heap.size w W → ∀ h, Calls Try.prog 10 #[.slice fa fn fc, .int .u64 h] W fun e w' => ∃ v', e = .returned v' ∧ CaK w' v' ⟨true, h, L, false⟩ ∧ Below W.heap.size W w' := fun W hW h => by
    rw [← hL]
    exact learn_ca _ l h _ (HS.out.below hW) HL2.out
  have HCON := Lib.hid hcon
  have HB0 := Lib.hid b0
  have HB1 := Lib.hid b1
  clear hcon b0 b1 hL hB0
  go_enter Try.func6, Try.ntmps6
  go_upto_region 6 with fail
  generalize hV : World.alloc _ _ = V at hB1 HB0 HB1 ⊢
  clear hV
  go_wp2_with fail
  go_at_call 10
  refine (HCON.out _ hB1 _).mono ?_
  rintro e w2 ⟨v2, rfl, hk2, hB2⟩
  obtain ⟨a2, n2, p2, rfl⟩ := hk2.lit
  have hBw2 := hB1.trans (hB2.mono hB1.size)
  have hb0 := HB0.out.below hB2
  have hb1 := HB1.out.below hB2
  have hal : Below w2.heap.size w2 (w2.alloc (.cells #[.bool true, .int .u64 1, .slice a2 n2 p2, .bool false] 26)) := (Below.refl _ _).alloc (Nat.le_refl _) _
  have hB3 := hBw2.trans (hal.mono hBw2.size)
  have hk3 := hk2.below hal
  replace hb0 := hb0.below hal
  replace hb1 := hb1.below hal
  have hb2 := Blk.new w2 26 [.bool true, .int .u64 1, .slice a2 n2 p2, .bool false]
  have hz2 := Nat.lt_of_lt_of_le HB1.out.lt hB2.size
  clear hB1 hB2 hBw2 hk2 HB0 HB1 hal
  simp only at hk3 ⊢
  go_upto_region 7 with fail
  generalize hV3 : World.alloc _ _ = V3 at hB3 hk3 hb0 hb1 hb2 ⊢
  clear hV3
  obtain ⟨m0, m1, m2, m3, _⟩ := hb2.cells
  obtain ⟨t0, t1, t2, t3, _⟩ := hb0.cells
  simp only [Nat.zero_add, Nat.add_zero, Nat.reduceAdd] at m0 m1 m2 m3 t0 t1 t2 t3
  have HB0 := Lib.hid hb0
  have HB1 := Lib.hid hb1
  have HB2 := Lib.hid hb2
  clear hb0 hb1 hb2
  obtain ⟨⟨u1, u2⟩, hu⟩ : ∃ u, useC ⟨true, 1, L, false⟩ sh sl ch cl = u := ⟨_, rfl⟩
  obtain ⟨⟨q1, q2⟩, hq⟩ : ∃ u, cfgC ⟨true, 1, L, false⟩ va = u := ⟨_, rfl⟩
  have cu := use_any _ ⟨true, 1, L, false⟩ sh sl ch cl V3 hk3.1 (by have := HL3.out; simp only; omega)
  rw [hu] at cu
  have CU := Lib.hid cu
  have cq := fun W (hW : Below V3.heap.size V3 W) => cfg_any _ ⟨true, 1, L, false⟩ va W (hk3.below hW) (by have := HL3.out; simp only; omega)
  simp only [hq] at cq
  have CQ := Lib.hid cq
  have HU := Lib.hid hu
  have HQ := Lib.hid hq
  clear cu cq hu hq hk3
  go_wp2_with fail
  go_at_call 16
  refine CU.out.mono ?_
  rintro e w4 ⟨rfl, hB4⟩
  have hb0 := HB0.out.below hB4
  have hb1 := HB1.out.below hB4
  obtain ⟨m0, m1, m2, m3, _⟩ := (HB2.out.below hB4).cells
  simp only [Nat.zero_add, Nat.add_zero, Nat.reduceAdd] at m0 m1 m2 m3
  have HB0 := Lib.hid hb0
  have HB1 := Lib.hid hb1
  have hBw4 := hB3.trans (hB4.mono hB3.size)
  clear hb0 hb1 t0 t1 t2 t3 CU
  go_wp2_with fail
  go_at_call 18
  refine (CQ.out _ hB4).mono ?_
  rintro e w5 ⟨rfl, hB5⟩
  have HB0 := Lib.hid (HB0.out.below hB5)
  have HB1 := Lib.hid (HB1.out.below hB5)
  have hBw5 := hBw4.trans (hB5.mono hBw4.size)
  clear hB4 hB5 hBw4 hB3 m0 m1 m2 m3 CQ HB2
  go_wp2
  go_loopw [10, 11, 12, 18] (fun h v d i wr => (∃ k : Nat, i = .int .i64 k ∧ k ≤ m) ∧ ∃ (c : Ca) (H : Int) (vl db : Bool) (a : Option Addr) (n p : Nat), h = .int .u64 H ∧ v = .bool vl ∧ d = .bool db ∧ Hid (StB L c H vl db) ∧ Blk wr w.heap.size 44 [.int .u64 sh, .int .u64 sl, .int .u64 ch, .int .u64 cl] ∧ Blk wr (w.heap.size + 1) 26 [.bool c.va, .int .u64 c.ha, .slice a n p, .bool c.du] ∧ CaK wr (.agg #[.bool c.va, .int .u64 c.ha, .slice a n p, .bool c.du]) c ∧ Below w.heap.size w wr) (fun _ _ _ i _ => m - (intOf i).toNat)
  case atStart => exact ⟨⟨0, by simp, Nat.zero_le _⟩, ⟨false, 0, [], false⟩, 0, false, false, none, 0, 0, rfl, rfl, rfl, Lib.hid ⟨fun _ => rfl, fun h => absurd h (by simp), by simp⟩, HB0.out, HB1.out, ⟨⟨_, rfl, srf_nil _⟩, ⟨_, _, _, _, _, _, rfl, Nat.le_refl _⟩⟩, hBw5⟩
  case round =>
    obtain ⟨⟨k, rfl, hk⟩, ⟨cva, cha, cli, cdu⟩, H, vl, db, a, n, p, rfl, rfl, rfl, hstb, hb0, hb1, hca, hB⟩ := hrel
    by_cases hlt : k < m
    · have g1 : decide (k < m) = true := by simpa using hlt
      have i1 : (k : Int) < (m : Int) := by omega
      have w1 : IntKind.i64.wrap ((k : Int) + 1) = (k : Int) + 1 := IntWalk.i64_in _ (by omega)
      obtain ⟨b, off, rfl, hb, hcell⟩ := HST.out (by rw [HM.out]; omega)
      have hkl : k < st.length := by rw [HM.out]; exact hlt
      have key : ∀ j, j < 2 → wr.cell? ⟨b, off + k * 2 + j, none⟩ = (senc st[k])[j]? := fun j hj => by
        have e := flat_get senc 2 (fun _ => rfl) st k j hkl hj
        obtain ⟨u, hu⟩ : ∃ u, (senc st[k])[j]? = some u := ⟨_, List.getElem?_eq_getElem (show j < (senc st[k]).length from hj)⟩
        rw [hu] at e ⊢
        have := kc (hcell _ _ e) hB
        rwa [← Nat.add_assoc] at this
      obtain ⟨⟨kd, hh⟩, hx⟩ : ∃ x, st[k] = x := ⟨_, rfl⟩
      rw [hx] at key
      have c0 := key 0 (by decide)
      have c1 := key 1 (by decide)
      simp only [senc, Nat.add_zero, List.getElem?_cons_zero, List.getElem?_cons_succ] at c0 c1
      have hal : Below wr.heap.size wr (wr.alloc (.cells #[.int .u8 kd, .int .u64 hh] 47)) := (Below.refl _ _).alloc (Nat.le_refl _) _
      have bx := Blk.new wr 47 [.int .u8 kd, .int .u64 hh]
      have HB0 := Lib.hid (hb0.below hal)
      have HB1 := Lib.hid (hb1.below hal)
      have HCA := Lib.hid (hca.below hal)
      have hBX := hB.trans (hal.mono hB.size)
      have hz1 := hb1.lt
      clear key hx hcell hal hB hca hb1 hb0
      go_upto_block 2 with fail
      go_cut [10, 11, 12] (fun h v d wx => ∃ (c : Ca) (H : Int) (vl db : Bool) (a : Option Addr) (n p : Nat), h = .int .u64 H ∧ v = .bool vl ∧ d = .bool db ∧ Hid (StB L c H vl db) ∧ Blk wx w.heap.size 44 [.int .u64 sh, .int .u64 sl, .int .u64 ch, .int .u64 cl] ∧ Blk wx (w.heap.size + 1) 26 [.bool c.va, .int .u64 c.ha, .slice a n p, .bool c.du] ∧ CaK wx (.agg #[.bool c.va, .int .u64 c.ha, .slice a n p, .bool c.du]) c ∧ Below w.heap.size w wx)
      case first =>
        generalize hX : World.alloc _ _ = X at bx HB0 HB1 HCA hBX ⊢
        clear hX c0 c1
        have TX := bx.cells
        have HTX := Lib.hid TX
        have hb1h : X.heap[w.heap.size + 1]? = some (.cells #[.bool cva, .int .u64 cha, .slice a n p, .bool cdu] 26 (0, 0)) := HB1.out
        have HB1H := Lib.hid hb1h
        have hz0 := HB0.out.lt
        have hz1' := HB1.out.lt
        have hbl := bx.lt
        have HBXB := Lib.hid bx
        clear hb1h bx HB1
        by_cases hk0 : kd = 0
        · have e0 : ((kd : Int) == 0) = true := by rw [hk0]; rfl
          obtain ⟨d0, d1, _⟩ := TX
          simp only [Nat.zero_add, Nat.add_zero, Nat.reduceAdd] at d0 d1
          clear hk0
          go_upto_region 17 with fail
          refine wp_region_held_drew (S := (fun W' : World => Cells W' (blk wr.heap.size 0 0 [.int .u8 kd, .int .u64 hh]))) (by kernel_rfl) (HTX.out.drew) (fun hHeld => ?_)
          refine wpAnyH_take (i := 0) (oi := _) (v := ?_) (by rw [List.getElem?_toArray]; rfl) (by kernel_rfl) (by kernel_rfl) (by kernel_rfl) (by exact fun _ _ _ h => h) (Or.inl ⟨by rfl, ?_⟩) (by assumption) ?_
          rotate_left
          · intro w hSw
            try simp only [Cells, blk, List.cons_append, List.nil_append, and_true, Nat.reduceAdd, Nat.add_zero, Nat.zero_add] at hSw
            go_simp
            try with_reducible rfl
          simp only [Act.put, List.setIfInBounds_toArray, List.set_cons_zero, List.set_cons_succ]
          refine wpAnyH_take (i := 1) (oi := _) (v := ?_) (by rw [List.getElem?_toArray]; rfl) (by kernel_rfl) (by kernel_rfl) (by kernel_rfl) (by exact fun _ _ _ h => h) (Or.inl ⟨by rfl, ?_⟩) (by assumption) ?_
          rotate_left
          · intro w hSw
            try simp only [Cells, blk, List.cons_append, List.nil_append, and_true, Nat.reduceAdd, Nat.add_zero, Nat.zero_add] at hSw
            go_simp
            try with_reducible rfl
          simp only [Act.put, List.setIfInBounds_toArray, List.set_cons_zero, List.set_cons_succ]
          refine wpAnyH_take (i := 2) (oi := _) (v := ?_) (by rw [List.getElem?_toArray]; rfl) (by kernel_rfl) (by kernel_rfl) (by kernel_rfl) (by exact fun _ _ _ h => h) (Or.inl ⟨by rfl, ?_⟩) (by assumption) ?_
          rotate_left
          · intro w hSw
            try simp only [Cells, blk, List.cons_append, List.nil_append, and_true, Nat.reduceAdd, Nat.add_zero, Nat.zero_add] at hSw
            go_simp
            try with_reducible rfl
          simp only [Act.put, List.setIfInBounds_toArray, List.set_cons_zero, List.set_cons_succ]
          refine wpAnyH_take (i := 4) (oi := _) (v := ?_) (by rw [List.getElem?_toArray]; rfl) (by kernel_rfl) (by kernel_rfl) (by kernel_rfl) (by exact fun _ _ _ h => h) (Or.inl ⟨by rfl, ?_⟩) (by assumption) ?_
          rotate_left
          · intro w hSw
            try simp only [Cells, blk, List.cons_append, List.nil_append, and_true, Nat.reduceAdd, Nat.add_zero, Nat.zero_add] at hSw
            go_simp
            try with_reducible rfl
          simp only [Act.put, List.setIfInBounds_toArray, List.set_cons_zero, List.set_cons_succ]
          refine wpAnyH_take (i := 5) (oi := _) (v := ?_) (by rw [List.getElem?_toArray]; rfl) (by kernel_rfl) (by kernel_rfl) (by kernel_rfl) (by exact fun _ _ _ h => h) (Or.inl ⟨by rfl, ?_⟩) (by assumption) ?_
          rotate_left
          · intro w hSw
            try simp only [Cells, blk, List.cons_append, List.nil_append, and_true, Nat.reduceAdd, Nat.add_zero, Nat.zero_add] at hSw
            go_simp
            try with_reducible rfl
          simp only [Act.put, List.setIfInBounds_toArray, List.set_cons_zero, List.set_cons_succ]
          refine wpAnyH_ready (rs := [3]) (by kernel_rfl) (by simp) (AllReadyH.cons (o := _) (by rw [List.getElem?_toArray]; rfl) (fun K hK => ?_) AllReadyH.nil)
          go_simp
          go_at_call 10
          refine (HCON.out _ hBX.drew _).mono ?_
          rintro e w7 ⟨v7, rfl, hk7, hB7⟩
          obtain ⟨a7, n7, p7, rfl⟩ := hk7.lit
          have hBX7 : Below X.heap.size X w7 := ((Below.refl _ X).drew).trans hB7
          have T7 := HTX.out.keep hBX7
          have h7 := (hBX7.block _ hz1').trans HB1H.out
          simp only at hk7
          obtain ⟨f0, f1, f2, f3, _⟩ := (show Blk w7 (w.heap.size + 1) 26 [.bool cva, .int .u64 cha, .slice a n p, .bool cdu] from h7).cells
          simp only [Nat.zero_add, Nat.add_zero, Nat.reduceAdd] at f0 f1 f2 f3
          have y0 := (show Blk w7 (w.heap.size + 1) 26 [.bool cva, .int .u64 cha, .slice a n p, .bool cdu] from h7).frozen 0
          have y1 := (show Blk w7 (w.heap.size + 1) 26 [.bool cva, .int .u64 cha, .slice a n p, .bool cdu] from h7).frozen 1
          have y2 := (show Blk w7 (w.heap.size + 1) 26 [.bool cva, .int .u64 cha, .slice a n p, .bool cdu] from h7).frozen 2
          have y3 := (show Blk w7 (w.heap.size + 1) 26 [.bool cva, .int .u64 cha, .slice a n p, .bool cdu] from h7).frozen 3
          have H7 := Lib.hid h7
          clear h7
          clear hHeld
          refine hK.out _ _ (T7) (fun hHeld => ?_)
          clear hK K
          try simp only [Act.put, List.setIfInBounds_toArray, List.set_cons_zero, List.set_cons_succ]
          refine wpAnyH_ready (rs := [6]) (by kernel_rfl) (by simp) (AllReadyH.cons (o := _) (by rw [List.getElem?_toArray]; rfl) (fun K hK => ?_) AllReadyH.nil)
          go_simp
          generalize hX2 : World.setCell _ _ _ = X2
          obtain ⟨h8, hg8⟩ := set4 H7.out hX2
          have T8 : Cells X2 (blk wr.heap.size 0 0 [.int .u8 kd, .int .u64 hh]) := ((HBXB.out.below hBX7).kept hg8 (by simp; omega)).cells
          clear hHeld
          refine hK.out _ _ (T8) (fun hHeld => ?_)
          clear hK K
          try simp only [Act.put, List.setIfInBounds_toArray, List.set_cons_zero, List.set_cons_succ]
          refine wpAnyH_take (i := 7) (oi := _) (v := ?_) (by rw [List.getElem?_toArray]; rfl) (by kernel_rfl) (by kernel_rfl) (by kernel_rfl) (by exact fun _ _ _ h => h) (Or.inl ⟨by rfl, ?_⟩) (by assumption) ?_
          rotate_left
          · intro w hSw
            try simp only [Cells, blk, List.cons_append, List.nil_append, and_true, Nat.reduceAdd, Nat.add_zero, Nat.zero_add] at hSw
            go_simp
            try with_reducible rfl
          simp only [Act.put, List.setIfInBounds_toArray, List.set_cons_zero, List.set_cons_succ]
          refine wpAnyH_done (by kernel_rfl) ?_ _
          go_wp2_with fail
          go_meet
          exact ⟨⟨true, hh, L, false⟩, hh, true, false, a7, n7, p7, rfl, rfl, rfl, Lib.hid ⟨fun h => absurd h (by simp), fun _ => rfl, HL3.out⟩, (HB0.out.below hBX7).kept hg8 (by simp), h8, hk7.set H7.out (by simp) hg8, (hBX.trans (hBX7.mono hBX.size)).grown hg8 (hBX.trans (hBX7.mono hBX.size)).size (fun q hq => by simp at hq; omega)⟩
        · have e0 : ((kd : Int) == 0) = false := by rw [beq_eq_false_iff_ne]; omega
          have HLC : Hid (cli.length ≤ 1000000) := Lib.hid (by have := hstb.out.2.2; simp only at this; omega)
          by_cases hk1 : kd = 1
          · have e1 : ((kd : Int) == 1) = true := by rw [hk1]; rfl
            clear hk0 hk1
            obtain ⟨d0, d1, _⟩ := TX
            simp only [Nat.zero_add, Nat.add_zero, Nat.reduceAdd] at d0 d1
            obtain ⟨f0, f1, f2, f3, _⟩ := (show Blk X (w.heap.size + 1) 26 [.bool cva, .int .u64 cha, .slice a n p, .bool cdu] from HB1H.out).cells
            simp only [Nat.zero_add, Nat.add_zero, Nat.reduceAdd] at f0 f1 f2 f3
            go_wp2_with fail
            go_at_call 12
            refine (verify_any _ ⟨cva, cha, cli, cdu⟩ hh _ HCA.out.1 HLC.out).mono ?_
            rintro e w7 ⟨v7, rfl, hk7, hB7⟩
            obtain ⟨a7, n7, p7, rfl⟩ := hk7.lit
            have h7 := (hB7.block _ hz1').trans HB1H.out
            have H7 := Lib.hid h7
            have HK7 := Lib.hid hk7
            clear f0 f1 f2 f3 d0 d1
            obtain ⟨f0, f1, f2, f3, _⟩ := (show Blk w7 (w.heap.size + 1) 26 [.bool cva, .int .u64 cha, .slice a n p, .bool cdu] from h7).cells
            simp only [Nat.zero_add, Nat.add_zero, Nat.reduceAdd] at f0 f1 f2 f3
            have y0 := (show Blk w7 (w.heap.size + 1) 26 [.bool cva, .int .u64 cha, .slice a n p, .bool cdu] from h7).frozen 0
            have y1 := (show Blk w7 (w.heap.size + 1) 26 [.bool cva, .int .u64 cha, .slice a n p, .bool cdu] from h7).frozen 1
            have y2 := (show Blk w7 (w.heap.size + 1) 26 [.bool cva, .int .u64 cha, .slice a n p, .bool cdu] from h7).frozen 2
            have y3 := (show Blk w7 (w.heap.size + 1) 26 [.bool cva, .int .u64 cha, .slice a n p, .bool cdu] from h7).frozen 3
            clear h7 hk7
            go_upto_region 21 with fail
            generalize hX2 : World.setCell _ _ _ = X2
            obtain ⟨h8, hg8⟩ := set4 H7.out hX2
            have T8 : Cells X2 (blk wr.heap.size 0 0 [.int .u8 kd, .int .u64 hh]) := ((HBXB.out.below hB7).kept hg8 (by simp; omega)).cells
            obtain ⟨d0, d1, _⟩ := T8
            simp only [Nat.zero_add, Nat.add_zero, Nat.reduceAdd] at d0 d1
            have H8 := Lib.hid h8
            have HG8 := Lib.hid hg8
            clear h8 hg8 hX2 f0 f1 f2 f3 y0 y1 y2 y3
            obtain ⟨eq, heq⟩ : ∃ y, ((hh : Int) == H) = y := ⟨_, rfl⟩
            cases vl
            · go_wp2_with fail
              go_meet
              exact ⟨verC ⟨cva, cha, cli, cdu⟩ hh, H, false, false, a7, n7, p7, rfl, rfl, rfl, Lib.hid (by simpa using stb_ver (hh := hh) hstb.out), (HB0.out.below hB7).kept HG8.out (by simp), H8.out, HK7.out.set H7.out (by simp) HG8.out, (hBX.trans (hB7.mono hBX.size)).grown HG8.out (hBX.trans (hB7.mono hBX.size)).size (fun q hq => by simp at hq; omega)⟩
            · cases eq
              all_goals
                go_wp2_with fail
                go_meet
                exact ⟨verC ⟨cva, cha, cli, cdu⟩ hh, H, _, false, a7, n7, p7, rfl, rfl, rfl, Lib.hid (by simpa [heq] using stb_ver (hh := hh) hstb.out), (HB0.out.below hB7).kept HG8.out (by simp), H8.out, HK7.out.set H7.out (by simp) HG8.out, (hBX.trans (hB7.mono hBX.size)).grown HG8.out (hBX.trans (hB7.mono hBX.size)).size (fun q hq => by simp at hq; omega)⟩
          · have e1 : ((kd : Int) == 1) = false := by rw [beq_eq_false_iff_ne]; omega
            clear hk0 hk1
            obtain ⟨d0, d1, _⟩ := TX
            simp only [Nat.zero_add, Nat.add_zero, Nat.reduceAdd] at d0 d1
            obtain ⟨f0, f1, f2, f3, _⟩ := (show Blk X (w.heap.size + 1) 26 [.bool cva, .int .u64 cha, .slice a n p, .bool cdu] from HB1H.out).cells
            simp only [Nat.zero_add, Nat.add_zero, Nat.reduceAdd] at f0 f1 f2 f3
            go_wp2_with fail
            go_at_call 14
            refine (doubt_any _ ⟨cva, cha, cli, cdu⟩ _ HCA.out.1 HLC.out).mono ?_
            rintro e w7 ⟨v7, rfl, hk7, hB7⟩
            obtain ⟨a7, n7, p7, rfl⟩ := hk7.lit
            have h7 := (hB7.block _ hz1').trans HB1H.out
            have H7 := Lib.hid h7
            have HK7 := Lib.hid hk7
            clear f0 f1 f2 f3 d0 d1
            obtain ⟨f0, f1, f2, f3, _⟩ := (show Blk w7 (w.heap.size + 1) 26 [.bool cva, .int .u64 cha, .slice a n p, .bool cdu] from h7).cells
            simp only [Nat.zero_add, Nat.add_zero, Nat.reduceAdd] at f0 f1 f2 f3
            have y0 := (show Blk w7 (w.heap.size + 1) 26 [.bool cva, .int .u64 cha, .slice a n p, .bool cdu] from h7).frozen 0
            have y1 := (show Blk w7 (w.heap.size + 1) 26 [.bool cva, .int .u64 cha, .slice a n p, .bool cdu] from h7).frozen 1
            have y2 := (show Blk w7 (w.heap.size + 1) 26 [.bool cva, .int .u64 cha, .slice a n p, .bool cdu] from h7).frozen 2
            have y3 := (show Blk w7 (w.heap.size + 1) 26 [.bool cva, .int .u64 cha, .slice a n p, .bool cdu] from h7).frozen 3
            clear h7 hk7
            go_upto_region 15 with fail
            generalize hX2 : World.setCell _ _ _ = X2
            obtain ⟨h8, hg8⟩ := set4 H7.out hX2
            have T8 : Cells X2 (blk wr.heap.size 0 0 [.int .u8 kd, .int .u64 hh]) := ((HBXB.out.below hB7).kept hg8 (by simp; omega)).cells
            obtain ⟨d0, d1, _⟩ := T8
            simp only [Nat.zero_add, Nat.add_zero, Nat.reduceAdd] at d0 d1
            have H8 := Lib.hid h8
            have HG8 := Lib.hid hg8
            clear h8 hg8 hX2 f0 f1 f2 f3 y0 y1 y2 y3
            go_wp2_with fail
            go_meet
            exact ⟨dbtC ⟨cva, cha, cli, cdu⟩, H, vl, vl, a7, n7, p7, rfl, rfl, rfl, Lib.hid (stb_dbt hstb.out), (HB0.out.below hB7).kept HG8.out (by simp), H8.out, HK7.out.set H7.out (by simp) HG8.out, (hBX.trans (hB7.mono hBX.size)).grown HG8.out (hBX.trans (hB7.mono hBX.size)).size (fun q hq => by simp at hq; omega)⟩
      case rest =>
        obtain ⟨⟨cva2, cha2, cli2, cdu2⟩, H2, vl2, db2, a3, n3, p3, rfl, rfl, rfl, hst2, hb0, hb1, hca2, hB2⟩ := hcut
        rename World => V6
        clear HB0 HB1 HCA hBX c0 c1 bx hstb hz1
        obtain ⟨⟨s1, s2⟩, hs1⟩ : ∃ u, useC ⟨cva2, cha2, cli2, cdu2⟩ sh sl ch cl = u := ⟨_, rfl⟩
        obtain ⟨⟨r1, r2⟩, hr1⟩ : ∃ u, cfgC ⟨cva2, cha2, cli2, cdu2⟩ va = u := ⟨_, rfl⟩
        have hgood : vl2 = true → db2 = false → s1 = u1 ∧ s2 = u2 ∧ r1 = q1 ∧ r2 = q2 := fun h1 h2 => by
          have := hst2.out.2.1 h1
          rw [this, h2] at hs1 hr1
          have e1 : (u1, u2) = (s1, s2) := HU.out.symm.trans hs1
          have e2 : (q1, q2) = (r1, r2) := HQ.out.symm.trans hr1
          simp only [Prod.mk.injEq] at e1 e2
          exact ⟨e1.1.symm, e1.2.symm, e2.1.symm, e2.2.symm⟩
        have hbad : (cva2 && !cdu2) = false → s1 = 0 ∧ s2 = 21 ∧ r1 = 0 ∧ r2 = 21 := fun h => by
          unfold useC at hs1
          unfold cfgC at hr1
          simp only [h, Bool.false_eq_true, if_false, Prod.mk.injEq] at hs1 hr1
          exact ⟨hs1.1.symm, hs1.2.symm, hr1.1.symm, hr1.2.symm⟩
        have hno : vl2 = false → (cva2 && !cdu2) = false := fun h => by
          have := hst2.out.1 h
          simp only at this
          rw [this]
          rfl
        have hdb : vl2 = true → db2 = true → (cva2 && !cdu2) = false := fun h1 h2 => by
          have := hst2.out.2.1 h1
          simp only [Ca.mk.injEq] at this
          rw [this.2.2.2, h2]
          simp
        have hlc : cli2.length ≤ 1000000 := by have := hst2.out.2.2; simp only at this; omega
        have cu := use_any _ ⟨cva2, cha2, cli2, cdu2⟩ sh sl ch cl V6 hca2.1 hlc
        have cq := fun W (hW : Below V6.heap.size V6 W) => cfg_any _ ⟨cva2, cha2, cli2, cdu2⟩ va W (hca2.below hW) hlc
        rw [hs1] at cu
        simp only [hr1] at cq
        have CU := Lib.hid cu
        have CQ := Lib.hid cq
        have HGOOD := Lib.hid hgood
        have HBAD := Lib.hid hbad
        have HNO := Lib.hid hno
        have HDB := Lib.hid hdb
        obtain ⟨f0, f1, f2, f3, _⟩ := hb1.cells
        obtain ⟨t0, t1, t2, t3, _⟩ := hb0.cells
        simp only [Nat.zero_add, Nat.add_zero, Nat.reduceAdd] at f0 f1 f2 f3 t0 t1 t2 t3
        have HB0 := Lib.hid hb0
        have HB1 := Lib.hid hb1
        have HCA := Lib.hid hca2
        clear cu cq hs1 hr1 hgood hbad hno hdb hlc hb0 hb1 hca2
        go_wp2_with fail
        go_at_call 16
        refine CU.out.mono ?_
        rintro e w7 ⟨rfl, hB7⟩
        obtain ⟨f0, f1, f2, f3, _⟩ := (HB1.out.below hB7).cells
        simp only [Nat.zero_add, Nat.add_zero, Nat.reduceAdd] at f0 f1 f2 f3
        have HB7 := Lib.hid hB7
        clear CU t0 t1 t2 t3 hB7
        go_wp2_with fail
        go_at_call 18
        refine (CQ.out _ HB7.out).mono ?_
        rintro e w8 ⟨rfl, hB8⟩
        have hB68 := HB7.out.trans (hB8.mono HB7.out.size)
        have hrel : (∃ k2 : Nat, Value.int .i64 ((k : Int) + 1) = .int .i64 k2 ∧ k2 ≤ m) ∧ ∃ (c : Ca) (H : Int) (vl db : Bool) (a : Option Addr) (n p : Nat), Value.int .u64 H2 = .int .u64 H ∧ Value.bool vl2 = .bool vl ∧ Value.bool db2 = .bool db ∧ Hid (StB L c H vl db) ∧ Blk w8 w.heap.size 44 [.int .u64 sh, .int .u64 sl, .int .u64 ch, .int .u64 cl] ∧ Blk w8 (w.heap.size + 1) 26 [.bool c.va, .int .u64 c.ha, .slice a n p, .bool c.du] ∧ CaK w8 (.agg #[.bool c.va, .int .u64 c.ha, .slice a n p, .bool c.du]) c ∧ Below w.heap.size w w8 :=
          ⟨⟨k + 1, by simp, hlt⟩, ⟨cva2, cha2, cli2, cdu2⟩, H2, vl2, db2, a3, n3, p3, rfl, rfl, rfl, hst2, HB0.out.below hB68, HB1.out.below hB68, HCA.out.below hB68, hB2.trans (hB68.mono hB2.size)⟩
        have HREL := Lib.hid hrel
        clear hrel hB68 hB8 f0 f1 f2 f3 CQ
        cases vl2
        · obtain ⟨rfl, rfl, rfl, rfl⟩ := HBAD.out (HNO.out rfl)
          go_wp2
          refine ⟨HREL.out, ?_⟩
          simp [intOf]
          omega
        · cases db2
          · obtain ⟨rfl, rfl, rfl, rfl⟩ := HGOOD.out rfl rfl
            have n1 : (s1 != s1) = false := by simp
            have n2 : (s2 != s2) = false := by simp
            have n3 : (r1 != r1) = false := by simp
            have n4 : (r2 != r2) = false := by simp
            go_wp2
            refine ⟨HREL.out, ?_⟩
            simp [intOf]
            omega
          · obtain ⟨rfl, rfl, rfl, rfl⟩ := HBAD.out (HDB.out rfl rfl)
            go_wp2
            refine ⟨HREL.out, ?_⟩
            simp [intOf]
            omega
    · have g1 : decide (k < m) = false := by simpa using hlt
      go_wp2_with fail
      go_at_call 8
      refine (example_any _).mono ?_
      rintro e w4 ⟨rfl, hB4⟩
      go_wp2
      go_ret
      exact ⟨rfl, hB.trans (hB4.mono hB.size)⟩
end Go.Proofs.Yteblimdbkiiaaaa
