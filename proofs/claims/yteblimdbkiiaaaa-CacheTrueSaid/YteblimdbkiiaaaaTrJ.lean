/- cache: the walk of CacheTrue. -/
import Derived.Test.YteblimdbkiiaaaaTrI
namespace Go.Proofs.Yteblimdbkiiaaaa
open Go.RowKit

theorem Try.cells_at : Try.prog.cellsOf 58 = 5 := by kernel_rfl
theorem Try.bytes_at : Try.prog.bytesOf 58 = 56 := by kernel_rfl
theorem Try.cells_bts : Try.prog.cellsOf 56 = 1 := by kernel_rfl
theorem Try.bytes_u8 : Try.prog.bytesOf 5 = 1 := by kernel_rfl
theorem rd_bts {w : World} {v : Value} (h : Rd Try.prog w 56 [v]) : ∃ bs a n c, v = .slice a n c ∧ n ≤ c ∧ bs.length = n ∧ BytesAt w (.slice a n c) bs := by
  obtain ⟨u, e, hs⟩ := h.slIn Try.underlying56
  simp only [List.cons.injEq, and_true] at e
  subst e
  obtain ⟨bs, hb⟩ := bytes_of_in Try.underlying5 Try.cells_u8 Try.bytes_u8 hs
  obtain ⟨a, n, c, rfl, hc⟩ := in_cap hs
  obtain ⟨a', c', e⟩ := hb.1.val
  cases e
  exact ⟨bs, _, _, _, rfl, hc, rfl, hb⟩
theorem rd_at {w : World} (cs : List Value) (h : Rd Try.prog w 58 cs) : ∃ (t : At) (a : Option Addr) (c : Nat), cs = [.int .u16 t.ha, .int .u64 t.hi, .int .u64 t.lo, .int .i64 t.pe, .slice a t.bs.length c] ∧ t.bs.length ≤ c ∧ BytesAt w (.slice a t.bs.length c) t.bs := by
  obtain ⟨hl, hf⟩ := h.struct Try.underlying58
  rw [Try.cells_at] at hl
  obtain ⟨c0, c1, c2, c3, c4, rfl⟩ : ∃ c0 c1 c2 c3 c4, cs = [c0, c1, c2, c3, c4] := by
    match cs, hl with
    | [c0, c1, c2, c3, c4], _ => exact ⟨c0, c1, c2, c3, c4, rfl⟩
  have f0 : Rd Try.prog w 35 (([c0, c1, c2, c3, c4].drop 0).take (Try.prog.cellsOf 35)) := hf 0 _ rfl
  have f1 : Rd Try.prog w 34 (([c0, c1, c2, c3, c4].drop 1).take (Try.prog.cellsOf 34)) := hf 1 _ rfl
  have f2 : Rd Try.prog w 3 (([c0, c1, c2, c3, c4].drop 3).take (Try.prog.cellsOf 3)) := hf 2 _ rfl
  have f3 : Rd Try.prog w 56 (([c0, c1, c2, c3, c4].drop 4).take (Try.prog.cellsOf 56)) := hf 3 _ rfl
  simp only [Try.cells_u16, Try.cells_int, Try.cells_uuid, Try.cells_bts, List.drop_succ_cons, List.drop_zero, List.take_succ_cons, List.take_zero] at f0 f1 f2 f3
  obtain ⟨x0, e0, _⟩ := f0.u16 Try.underlying35
  obtain ⟨hi, lo, e1⟩ := rd_uuid f1
  obtain ⟨x2, e2, _⟩ := f2.i64 Try.underlying3
  obtain ⟨bs, a, n, c, rfl, hc, rfl, hb⟩ := rd_bts f3
  simp only [List.cons.injEq, and_true] at e0 e1 e2
  obtain ⟨e1, e3⟩ := e1
  subst e0 e1 e2 e3
  exact ⟨⟨_, _, _, _, bs⟩, a, c, rfl, hc, hb⟩
theorem arg_dbs {w : World} {v : Value} (h : Arg Try.prog w 49 v) : ∃ db, Dbs w v db := by
  obtain ⟨l, h1, h2, h3⟩ := sr_of_in (α := At × Option Addr × Nat) (fun x => [.int .u16 x.1.ha, .int .u64 x.1.hi, .int .u64 x.1.lo, .int .i64 x.1.pe, .slice x.2.1 x.1.bs.length x.2.2]) (fun x => x.1.bs.length ≤ x.2.2 ∧ BytesAt w (.slice x.2.1 x.1.bs.length x.2.2) x.1.bs) 5 56 (fun _ => rfl)
    (fun x _ u hu => by simp at hu; rcases hu with rfl | rfl | rfl | rfl | rfl <;> rfl) (by decide) Try.cells_at Try.bytes_at (fun cs hcs => by obtain ⟨t, a, c, e, hc, hb⟩ := rd_at cs hcs; exact ⟨(t, a, c), e, hc, hb⟩) (h.slIn Try.underlying49)
  obtain ⟨q1, _, _, ao, cap, rfl, _, hc⟩ := h1
  refine ⟨l.map (·.1), by rw [List.length_map]; exact q1, ao, cap, by rw [List.length_map], fun h0 => ?_⟩
  rw [List.length_map] at h0
  obtain ⟨b, off, rfl, hb, hcell⟩ := hc h0
  refine ⟨b, off, rfl, hb, fun k hk => ?_⟩
  have hk' : k < l.length := by simpa using hk
  have g := fun j (hj : j < 5) => flat_get (fun x : At × Option Addr × Nat => [Value.int .u16 x.1.ha, .int .u64 x.1.hi, .int .u64 x.1.lo, .int .i64 x.1.pe, .slice x.2.1 x.1.bs.length x.2.2]) 5 (fun _ => rfl) l k j hk' hj
  simp only [List.getElem_map]
  exact ⟨l[k].2.1, l[k].2.2, hcell _ _ (g 0 (by decide)), hcell _ _ (g 1 (by decide)), hcell _ _ (g 2 (by decide)), hcell _ _ (g 3 (by decide)), hcell _ _ (g 4 (by decide)), (h3 _ (List.getElem_mem hk')).1, (h3 _ (List.getElem_mem hk')).2⟩
def p1B (db : List At) (sh sl ch cl : Int) (x : Fd) : Bool := !(x.va == 0) && insB db x.va sh sl ch cl
def p2B (v : Int) (x : Fd) : Bool := (x.va == v) && !(v == 0)
theorem any_succ (l : List Fd) (p : Fd → Bool) (k : Nat) (h : k < l.length) : (l.take (k + 1)).any p = ((l.take k).any p || p l[k]) := by
  rw [List.take_succ_eq_append_getElem h, List.any_append]
  simp
set_option linter.unusedSimpArgs false in
set_option linter.unusedVariables false in
set_option maxRecDepth 100000 in
set_option maxHeartbeats 8000000 in
theorem cacheTrue_walk (v0 v1 v2 v3 : Value) (w : World) (a0 : Arg Try.prog w 49 v0) (a1 : Arg Try.prog w 44 v1) (a2 : Arg Try.prog w 35 v2) (a3 : Arg Try.prog w 5 v3) :
    Calls Try.prog 7 #[v0, v1, v2, v3] w fun e w' => e = .returned (.bool true) ∧ Below w.heap.size w w' := by
  obtain ⟨i6, hi6, hz0, hz1, hz2⟩ := info_parts Try.info_fd
  obtain ⟨db, hdb⟩ := arg_dbs a0
  obtain ⟨sh, sl, ch, cl, rfl⟩ := arg_two a1
  obtain ⟨va, rfl, _⟩ := a2.u16 Try.underlying35
  obtain ⟨by', rfl, hby⟩ := a3.u8 Try.underlying5
  obtain ⟨n, hn⟩ : ∃ n, db.length = n := ⟨_, rfl⟩
  have hv : ∃ a c, v0 = .slice a n c := by
    obtain ⟨_, ao, cap, rfl, _⟩ := hdb
    exact ⟨ao, cap, by rw [hn]⟩
  obtain ⟨a, c, rfl⟩ := hv
  clear a0 a1 a2 a3
  have T0 := cells_new w [.int .u64 sh, .int .u64 sl, .int .u64 ch, .int .u64 cl] 44
  have hb0 : Below w.heap.size w (w.alloc (.cells #[.int .u64 sh, .int .u64 sl, .int .u64 ch, .int .u64 cl] 44)) := (Below.refl _ _).alloc (Nat.le_refl _) _
  obtain ⟨U, hU⟩ : ∃ U, w.alloc (.cells #[.int .u64 sh, .int .u64 sl, .int .u64 ch, .int .u64 cl] 44) = U := ⟨_, rfl⟩
  rw [hU] at T0 hb0
  have HT := Lib.hid T0
  have HB := Lib.hid hb0
  have HN := Lib.hid hn
  have HD := Lib.hid hdb
  have HCK := Lib.hid (check_any a n c db U (hdb.below hb0) hn)
  clear hdb hn T0 hb0
  by_cases hbig : n ≤ 60
  rotate_left
  · have g1 : decide (60 < n) = true := by simp; omega
    have g1i : decide ((60 : Int) < (n : Int)) = true := by simp; omega
    clear hbig
    go_enter Try.func7, Try.ntmps7
    go_wp2_with fail
    try rw [hU]
    clear hU
    refine (example_any _).mono ?_
    rintro e w1 ⟨rfl, hB1⟩
    have HB1 := Lib.hid (HB.out.trans (hB1.mono HB.out.size))
    clear hB1
    go_wp2
    go_ret
    exact ⟨rfl, HB1.out⟩
  have g1 : decide (60 < n) = false := by simp; omega
  have g1i : decide ((60 : Int) < (n : Int)) = false := by simp; omega
  go_enter Try.func7, Try.ntmps7
  go_wp2_with fail
  try rw [hU]
  clear hU
  refine HCK.out.mono ?_
  rintro e w1 ⟨E, rfl, hgd, hB1⟩
  have HB1 := Lib.hid (HB.out.trans (hB1.mono HB.out.size))
  have HT1 := Lib.hid (HT.out.keep hB1)
  have HGD := Lib.hid hgd
  clear hB1 hgd HCK HB HT
  by_cases hE0 : E = 0
  rotate_left
  · have g3 : (E != 0) = true := by simpa using hE0
    clear hE0
    go_wp2_with fail
    refine (example_any _).mono ?_
    rintro e w2 ⟨rfl, hB2⟩
    have HB2 := Lib.hid (HB1.out.trans (hB2.mono HB1.out.size))
    clear hB2
    go_wp2
    go_ret
    exact ⟨rfl, HB2.out⟩
  subst hE0
  have HG := Lib.hid (HGD.out rfl)
  have HFO := Lib.hid (found_any a n c db w1 (HD.out.below HB1.out) HN.out (by omega) HG.out)
  clear HGD
  go_wp2_with fail
  refine HFO.out.mono ?_
  rintro e w2 ⟨v9, rfl, hsr, hB2⟩
  have HB2 := Lib.hid (HB1.out.trans (hB2.mono HB1.out.size))
  have HT2 := Lib.hid (HT1.out.keep hB2)
  obtain ⟨N, hN⟩ : ∃ N, (fdL db).length = N := ⟨_, rfl⟩
  have hNb : N ≤ 60 := by
    have := fdTo_len db db.length
    rw [← hN]
    unfold fdL
    rw [HN.out] at this ⊢
    omega
  obtain ⟨_, _, _, ao, cap, rfl, _, hcell⟩ := hsr
  rw [hN] at hcell ⊢
  have HCE := Lib.hid hcell
  have HNN := Lib.hid hN
  have own0 : w2.ownsRow w2.heap.size 53 6 (.slice none 0 0) (turnL (fdL db) by' 0).length (fcells (turnL (fdL db) by' 0)) := ⟨rfl, .inl ⟨rfl, rfl⟩⟩
  have HOWN0 := Lib.hid own0
  clear hB2 HB1 HT1 HFO hcell hN own0
  go_wp2_with fail
  go_loopw [10, 11, 12, 13] (fun out th cf v W => ∃ k : Nat, v = .int .i64 k ∧ k ≤ N ∧ th = .bool (((fdL db).take k).any (p1B db sh sl ch cl)) ∧ cf = .bool (((fdL db).take k).any (p2B va)) ∧ Hid (W.ownsRow w2.heap.size 53 6 out (turnL (fdL db) by' k).length (fcells (turnL (fdL db) by' k))) ∧ Below w2.heap.size w2 W) (fun _ _ _ v _ => N - (intOf v).toNat)
  case atStart => exact ⟨0, by simp, Nat.zero_le _, by simp, by simp, HOWN0, Below.refl _ _⟩
  case round =>
    obtain ⟨k, rfl, hk, rfl, rfl, hown, hB⟩ := hrel
    by_cases hlt : k < N
    · have g2 : decide (k < N) = true := by simpa using hlt
      have g2i : decide ((k : Int) < (N : Int)) = true := by simp; omega
      obtain ⟨g, o, rfl, hgw, hx⟩ := HCE.out (by omega)
      have hkl : k < (fdL db).length := by rw [HNN.out]; exact hlt
      obtain ⟨p, hp⟩ : ∃ p, (k + by') % N = p := ⟨_, rfl⟩
      have hpN : p < N := by rw [← hp]; exact Nat.mod_lt _ (by omega)
      have hpl : p < (fdL db).length := by rw [HNN.out]; exact hpN
      have key := fun j (hj : j < 6) => fcells_get (fdL db) k hkl hj
      have keyp := fun j (hj : j < 6) => fcells_get (fdL db) p hpl hj
      have tsc := turnL_succ (fdL db) by' k
      rw [HNN.out, hp, getD_lt hpl] at tsc
      have an1 := any_succ (fdL db) (p1B db sh sl ch cl) k hkl
      have an2 := any_succ (fdL db) (p2B va) k hkl
      obtain ⟨⟨x0, x1, x2, x3, x4, x5⟩, hxe⟩ : ∃ x, (fdL db)[k] = x := ⟨_, rfl⟩
      obtain ⟨⟨y0, y1, y2, y3, y4, y5⟩, hye⟩ : ∃ x, (fdL db)[p] = x := ⟨_, rfl⟩
      rw [hxe] at key an1 an2
      rw [hye] at keyp tsc
      have q2 := hx (k * 6 + 2) (.int .u16 x2) (by rw [key 2 (by omega)]; rfl)
      have l0 := hx (p * 6 + 0) (.int .u16 y0) (by rw [keyp 0 (by omega)]; rfl)
      have l1 := hx (p * 6 + 1) (.int .u16 y1) (by rw [keyp 1 (by omega)]; rfl)
      have l2 := hx (p * 6 + 2) (.int .u16 y2) (by rw [keyp 2 (by omega)]; rfl)
      have l3 := hx (p * 6 + 3) (.int .i64 y3) (by rw [keyp 3 (by omega)]; rfl)
      have l4 := hx (p * 6 + 4) (.int .u64 y4) (by rw [keyp 4 (by omega)]; rfl)
      have l5 := hx (p * 6 + 5) (.int .u64 y5) (by rw [keyp 5 (by omega)]; rfl)
      have Q2 : Hid (w2.cell? ⟨g, o + k * 6 + 2, none⟩ = some (.int .u16 x2)) := Lib.hid (by simpa [Nat.add_assoc] using q2)
      replace l0 : wr.cell? ⟨g, o + p * 6, none⟩ = some (.int .u16 y0) := kc (by simpa [Nat.add_assoc] using l0) hB
      replace l1 : wr.cell? ⟨g, o + p * 6 + 1, none⟩ = some (.int .u16 y1) := kc (by simpa [Nat.add_assoc] using l1) hB
      replace l2 : wr.cell? ⟨g, o + p * 6 + 2, none⟩ = some (.int .u16 y2) := kc (by simpa [Nat.add_assoc] using l2) hB
      replace l3 : wr.cell? ⟨g, o + p * 6 + 3, none⟩ = some (.int .i64 y3) := kc (by simpa [Nat.add_assoc] using l3) hB
      replace l4 : wr.cell? ⟨g, o + p * 6 + 4, none⟩ = some (.int .u64 y4) := kc (by simpa [Nat.add_assoc] using l4) hB
      replace l5 : wr.cell? ⟨g, o + p * 6 + 5, none⟩ = some (.int .u64 y5) := kc (by simpa [Nat.add_assoc] using l5) hB
      have hi0 : (0 : Int) ≤ (k : Int) := by omega
      have hi1 : (k : Int) < (N : Int) := by omega
      have hp0 : (0 : Int) ≤ (p : Int) := by omega
      have hp1 : (p : Int) < (N : Int) := by omega
      have w1 : IntKind.i64.wrap ((k : Int) + 1) = (k : Int) + 1 := by rw [IntWalk.i64_in _ (by omega)]
      have w2' : IntKind.i64.wrap (by' : Int) = (by' : Int) := by rw [IntWalk.i64_in _ (by omega)]
      have w3 : IntKind.i64.wrap ((k : Int) + (by' : Int)) = (k : Int) + (by' : Int) := by rw [IntWalk.i64_in _ (by omega)]
      have hNz : ((N : Int) == 0) = false := by simp; omega
      have hmod : ((k : Int) + (by' : Int)) % (N : Int) = (p : Int) := by rw [← hp]; simp
      have hmodt : ((k : Int) + (by' : Int)).tmod (N : Int) = (p : Int) := by rw [Int.tmod_eq_emod_of_nonneg (by omega)]; exact hmod
      have w4 : IntKind.i64.wrap (p : Int) = (p : Int) := by rw [IntWalk.i64_in _ (by omega)]
      have TSC := Lib.hid tsc
      have AN1 := Lib.hid an1
      have AN2 := Lib.hid an2
      have HB := Lib.hid hB
      obtain ⟨T0, hT0⟩ : ∃ x, ((fdL db).take k).any (p1B db sh sl ch cl) = x := ⟨_, rfl⟩
      obtain ⟨C0, hC0⟩ : ∃ x, ((fdL db).take k).any (p2B va) = x := ⟨_, rfl⟩
      rw [hT0, hC0]
      have HT0 := Lib.hid hT0
      have HC0 := Lib.hid hC0
      have hlo : (turnL (fdL db) by' k).length ≤ 60 := by rw [turnL_len]; omega
      clear hx key keyp hxe hye hp tsc an1 an2 q2 hT0 hC0 hB
      have hbx : Below wr.heap.size wr (wr.alloc (.cells #[.int .u16 y0, .int .u16 y1, .int .u16 y2, .int .i64 y3, .int .u64 y4, .int .u64 y5] 53)) := (Below.refl _ _).alloc (Nat.le_refl _) _
      have HIN := Lib.hid (own_below hown.out hbx)
      have hnew : ∀ j u, [Value.int .u16 y0, .int .u16 y1, .int .u16 y2, .int .i64 y3, .int .u64 y4, .int .u64 y5][j]? = some u → (wr.alloc (.cells #[.int .u16 y0, .int .u16 y1, .int .u16 y2, .int .i64 y3, .int .u64 y4, .int .u64 y5] 53)).cell? ((⟨wr.heap.size, 0, none⟩ : Addr).add j) = some u := fun j u hj => by
        rw [addr_add, Nat.zero_add]
        exact cellNew wr #[.int .u16 y0, .int .u16 y1, .int .u16 y2, .int .i64 y3, .int .u64 y4, .int .u64 y5] 53 j u (by simpa using hj)
      have hbase : w2.heap.size ≤ (wr.alloc (.cells #[.int .u16 y0, .int .u16 y1, .int .u16 y2, .int .i64 y3, .int .u64 y4, .int .u64 y5] 53)).heap.size := by have := HB.out.size; simp; omega
      have HBX := Lib.hid (HB.out.trans (hbx.mono (by have := HB.out.size; omega)))
      clear hbx
      go_wp2_with (at_builtin; refine wpList_append_own_at _ rfl _ _ 24 rfl w2.heap.size 53 i6 _ 6 32 Try.underlying24 hi6 hz0 hz1 hz2 rfl (by decide) _ _ _ rfl HIN.out ⟨wr.heap.size, 0, none⟩ 1 1 [Value.int .u16 y0, .int .u16 y1, .int .u16 y2, .int .i64 y3, .int .u64 y4, .int .u64 y5] rfl rfl hnew ?c6 (by unfold maxLen; omega) (by omega) hbase ?_)
      case c6 => intro u hu; simp at hu; rcases hu with rfl | rfl | rfl | rfl | rfl | rfl <;> rfl
      intro v6 w6 hown6 hg6 hnn6 hob6
      have own6 := own_add (x := (⟨y0, y1, y2, y3, y4, y5⟩ : Fd)) hown6 rfl
      have hB6 := HBX.out.grown hg6 hbase (fun q hq => (HIN.out.lt q hq).1)
      rw [← TSC.out] at own6
      have HOW := Lib.hid own6
      have HBW := Lib.hid hB6
      clear hown6 hg6 hnn6 hob6 hnew hbase HIN HBX own6 hB6 l0 l1 l2 l3 l4 l5 HB hown
      go_upto_region 10 with fail
      have T6 : Cells w6 ([(g, o + k * 6 + 2, .int .u16 x2)] ++ (blk w.heap.size 0 0 [.int .u64 sh, .int .u64 sl, .int .u64 ch, .int .u64 cl])) := ⟨kc Q2.out HBW.out, HT2.out.keep HBW.out⟩
      obtain ⟨P1, hP1⟩ : ∃ x, p1B db sh sl ch cl ⟨x0, x1, x2, x3, x4, x5⟩ = x := ⟨_, rfl⟩
      obtain ⟨d0, hd0⟩ : ∃ x, (x2 == (va : Int)) = x := ⟨_, rfl⟩
      obtain ⟨d1, hd1⟩ : ∃ x, ((va : Int) != 0) = x := ⟨_, rfl⟩
      have hP2 : p2B va ⟨x0, x1, x2, x3, x4, x5⟩ = (d0 && d1) := by
        unfold p2B
        simp only [hd0]
        rw [← hd1]
        rfl
      have HP1 := Lib.hid hP1
      have HP2 := Lib.hid hP2
      clear hP1 hP2
      go_cut [11] (fun t wx => t = .bool (T0 || P1) ∧ Below w6.heap.size w6 wx)
      case first =>
        cases T0 with
        | true =>
          refine wp_region_held_drew (S := (fun W' : World => Cells W' ([(g, o + k * 6 + 2, .int .u16 x2)] ++ (blk w.heap.size 0 0 [.int .u64 sh, .int .u64 sl, .int .u64 ch, .int .u64 cl])))) (by kernel_rfl) (T6.drew) (fun hHeld => ?_)
          refine wpAnyH_take (i := 0) (oi := _) (v := ?_) (by rw [List.getElem?_toArray]; rfl) (by kernel_rfl) (by kernel_rfl) (by kernel_rfl) (by exact fun _ _ _ h => h) (Or.inl ⟨by rfl, ?_⟩) (by assumption) ?_
          rotate_left
          · intro w hSw
            try simp only [Cells, blk, List.cons_append, List.nil_append, and_true, Nat.reduceAdd, Nat.add_zero, Nat.zero_add] at hSw
            go_simp
            try with_reducible rfl
          simp only [Act.put, List.setIfInBounds_toArray, List.set_cons_zero, List.set_cons_succ]
          refine wpAnyH_take (i := 1) (oi := _) (v := ?_) (by rw [List.getElem?_toArray]; rfl) (by kernel_rfl) (by kernel_rfl) (by kernel_rfl) (by exact fun _ _ _ h => h) (Or.inl ⟨by rfl, ?_⟩) (by assumption) ?_
          rotate_left
          · intro w hSw
            try simp only [Cells, blk, List.cons_append, List.nil_append, and_true, Nat.reduceAdd, Nat.add_zero, Nat.zero_add] at hSw
            go_simp
            try with_reducible rfl
          simp only [Act.put, List.setIfInBounds_toArray, List.set_cons_zero, List.set_cons_succ]
          refine wpAnyH_take (i := 2) (oi := _) (v := undef) (by rw [List.getElem?_toArray]; rfl) (by kernel_rfl) (by kernel_rfl) (by kernel_rfl) (by exact fun _ _ _ h => h) (Or.inr ⟨by rfl, rfl⟩) (by assumption) ?_
          simp only [Act.put, List.setIfInBounds_toArray, List.set_cons_zero, List.set_cons_succ]
          refine wpAnyH_take (i := 3) (oi := _) (v := undef) (by rw [List.getElem?_toArray]; rfl) (by kernel_rfl) (by kernel_rfl) (by kernel_rfl) (by exact fun _ _ _ h => h) (Or.inr ⟨by rfl, rfl⟩) (by assumption) ?_
          simp only [Act.put, List.setIfInBounds_toArray, List.set_cons_zero, List.set_cons_succ]
          refine wpAnyH_take (i := 4) (oi := _) (v := undef) (by rw [List.getElem?_toArray]; rfl) (by kernel_rfl) (by kernel_rfl) (by kernel_rfl) (by exact fun _ _ _ h => h) (Or.inr ⟨by rfl, rfl⟩) (by assumption) ?_
          simp only [Act.put, List.setIfInBounds_toArray, List.set_cons_zero, List.set_cons_succ]
          refine wpAnyH_take (i := 5) (oi := _) (v := undef) (by rw [List.getElem?_toArray]; rfl) (by kernel_rfl) (by kernel_rfl) (by kernel_rfl) (by exact fun _ _ _ h => h) (Or.inr ⟨by rfl, rfl⟩) (by assumption) ?_
          simp only [Act.put, List.setIfInBounds_toArray, List.set_cons_zero, List.set_cons_succ]
          refine wpAnyH_take (i := 6) (oi := _) (v := undef) (by rw [List.getElem?_toArray]; rfl) (by kernel_rfl) (by kernel_rfl) (by kernel_rfl) (by exact fun _ _ _ h => h) (Or.inr ⟨by rfl, rfl⟩) (by assumption) ?_
          simp only [Act.put, List.setIfInBounds_toArray, List.set_cons_zero, List.set_cons_succ]
          refine wpAnyH_take (i := 7) (oi := _) (v := undef) (by rw [List.getElem?_toArray]; rfl) (by kernel_rfl) (by kernel_rfl) (by kernel_rfl) (by exact fun _ _ _ h => h) (Or.inr ⟨by rfl, rfl⟩) (by assumption) ?_
          simp only [Act.put, List.setIfInBounds_toArray, List.set_cons_zero, List.set_cons_succ]
          refine wpAnyH_take (i := 8) (oi := _) (v := undef) (by rw [List.getElem?_toArray]; rfl) (by kernel_rfl) (by kernel_rfl) (by kernel_rfl) (by exact fun _ _ _ h => h) (Or.inr ⟨by rfl, rfl⟩) (by assumption) ?_
          simp only [Act.put, List.setIfInBounds_toArray, List.set_cons_zero, List.set_cons_succ]
          refine wpAnyH_take (i := 9) (oi := _) (v := undef) (by rw [List.getElem?_toArray]; rfl) (by kernel_rfl) (by kernel_rfl) (by kernel_rfl) (by exact fun _ _ _ h => h) (Or.inr ⟨by rfl, rfl⟩) (by assumption) ?_
          simp only [Act.put, List.setIfInBounds_toArray, List.set_cons_zero, List.set_cons_succ]
          refine wpAnyH_take (i := 10) (oi := _) (v := undef) (by rw [List.getElem?_toArray]; rfl) (by kernel_rfl) (by kernel_rfl) (by kernel_rfl) (by exact fun _ _ _ h => h) (Or.inr ⟨by rfl, rfl⟩) (by assumption) ?_
          simp only [Act.put, List.setIfInBounds_toArray, List.set_cons_zero, List.set_cons_succ]
          refine wpAnyH_take (i := 11) (oi := _) (v := undef) (by rw [List.getElem?_toArray]; rfl) (by kernel_rfl) (by kernel_rfl) (by kernel_rfl) (by exact fun _ _ _ h => h) (Or.inr ⟨by rfl, rfl⟩) (by assumption) ?_
          simp only [Act.put, List.setIfInBounds_toArray, List.set_cons_zero, List.set_cons_succ]
          refine wpAnyH_take (i := 12) (oi := _) (v := undef) (by rw [List.getElem?_toArray]; rfl) (by kernel_rfl) (by kernel_rfl) (by kernel_rfl) (by exact fun _ _ _ h => h) (Or.inr ⟨by rfl, rfl⟩) (by assumption) ?_
          simp only [Act.put, List.setIfInBounds_toArray, List.set_cons_zero, List.set_cons_succ]
          refine wpAnyH_take (i := 13) (oi := _) (v := undef) (by rw [List.getElem?_toArray]; rfl) (by kernel_rfl) (by kernel_rfl) (by kernel_rfl) (by exact fun _ _ _ h => h) (Or.inr ⟨by rfl, rfl⟩) (by assumption) ?_
          simp only [Act.put, List.setIfInBounds_toArray, List.set_cons_zero, List.set_cons_succ]
          refine wpAnyH_take (i := 14) (oi := _) (v := undef) (by rw [List.getElem?_toArray]; rfl) (by kernel_rfl) (by kernel_rfl) (by kernel_rfl) (by exact fun _ _ _ h => h) (Or.inr ⟨by rfl, rfl⟩) (by assumption) ?_
          simp only [Act.put, List.setIfInBounds_toArray, List.set_cons_zero, List.set_cons_succ]
          refine wpAnyH_take (i := 15) (oi := _) (v := undef) (by rw [List.getElem?_toArray]; rfl) (by kernel_rfl) (by kernel_rfl) (by kernel_rfl) (by exact fun _ _ _ h => h) (Or.inr ⟨by rfl, rfl⟩) (by assumption) ?_
          simp only [Act.put, List.setIfInBounds_toArray, List.set_cons_zero, List.set_cons_succ]
          refine wpAnyH_take (i := 16) (oi := _) (v := undef) (by rw [List.getElem?_toArray]; rfl) (by kernel_rfl) (by kernel_rfl) (by kernel_rfl) (by exact fun _ _ _ h => h) (Or.inr ⟨by rfl, rfl⟩) (by assumption) ?_
          simp only [Act.put, List.setIfInBounds_toArray, List.set_cons_zero, List.set_cons_succ]
          refine wpAnyH_take (i := 17) (oi := _) (v := undef) (by rw [List.getElem?_toArray]; rfl) (by kernel_rfl) (by kernel_rfl) (by kernel_rfl) (by exact fun _ _ _ h => h) (Or.inr ⟨by rfl, rfl⟩) (by assumption) ?_
          simp only [Act.put, List.setIfInBounds_toArray, List.set_cons_zero, List.set_cons_succ]
          refine wpAnyH_take (i := 18) (oi := _) (v := undef) (by rw [List.getElem?_toArray]; rfl) (by kernel_rfl) (by kernel_rfl) (by kernel_rfl) (by exact fun _ _ _ h => h) (Or.inr ⟨by rfl, rfl⟩) (by assumption) ?_
          simp only [Act.put, List.setIfInBounds_toArray, List.set_cons_zero, List.set_cons_succ]
          refine wpAnyH_take (i := 19) (oi := _) (v := undef) (by rw [List.getElem?_toArray]; rfl) (by kernel_rfl) (by kernel_rfl) (by kernel_rfl) (by exact fun _ _ _ h => h) (Or.inr ⟨by rfl, rfl⟩) (by assumption) ?_
          simp only [Act.put, List.setIfInBounds_toArray, List.set_cons_zero, List.set_cons_succ]
          refine wpAnyH_take (i := 20) (oi := _) (v := undef) (by rw [List.getElem?_toArray]; rfl) (by kernel_rfl) (by kernel_rfl) (by kernel_rfl) (by exact fun _ _ _ h => h) (Or.inr ⟨by rfl, rfl⟩) (by assumption) ?_
          simp only [Act.put, List.setIfInBounds_toArray, List.set_cons_zero, List.set_cons_succ]
          refine wpAnyH_take (i := 21) (oi := _) (v := ?_) (by rw [List.getElem?_toArray]; rfl) (by kernel_rfl) (by kernel_rfl) (by kernel_rfl) (by exact fun _ _ _ h => h) (Or.inl ⟨by rfl, ?_⟩) (by assumption) ?_
          rotate_left
          · intro w hSw
            try simp only [Cells, blk, List.cons_append, List.nil_append, and_true, Nat.reduceAdd, Nat.add_zero, Nat.zero_add] at hSw
            go_simp
            try with_reducible rfl
          simp only [Act.put, List.setIfInBounds_toArray, List.set_cons_zero, List.set_cons_succ]
          refine wpAnyH_take (i := 22) (oi := _) (v := ?_) (by rw [List.getElem?_toArray]; rfl) (by kernel_rfl) (by kernel_rfl) (by kernel_rfl) (by exact fun _ _ _ h => h) (Or.inl ⟨by rfl, ?_⟩) (by assumption) ?_
          rotate_left
          · intro w hSw
            try simp only [Cells, blk, List.cons_append, List.nil_append, and_true, Nat.reduceAdd, Nat.add_zero, Nat.zero_add] at hSw
            go_simp
            try with_reducible rfl
          simp only [Act.put, List.setIfInBounds_toArray, List.set_cons_zero, List.set_cons_succ]
          refine wpAnyH_done (by kernel_rfl) ?_ _
          go_wp2_with fail
          go_meet
          exact ⟨by simp, (Below.refl _ _).drew⟩
        | false =>
          by_cases hx2 : x2 = 0
          · have t2 : (x2 != 0) = false := by simpa using hx2
            have hpf : P1 = false := by rw [← HP1.out]; unfold p1B; simp [hx2]
            clear hx2
            refine wp_region_held_drew (S := (fun W' : World => Cells W' ([(g, o + k * 6 + 2, .int .u16 x2)] ++ (blk w.heap.size 0 0 [.int .u64 sh, .int .u64 sl, .int .u64 ch, .int .u64 cl])))) (by kernel_rfl) (T6.drew) (fun hHeld => ?_)
            refine wpAnyH_take (i := 0) (oi := _) (v := ?_) (by rw [List.getElem?_toArray]; rfl) (by kernel_rfl) (by kernel_rfl) (by kernel_rfl) (by exact fun _ _ _ h => h) (Or.inl ⟨by rfl, ?_⟩) (by assumption) ?_
            rotate_left
            · intro w hSw
              try simp only [Cells, blk, List.cons_append, List.nil_append, and_true, Nat.reduceAdd, Nat.add_zero, Nat.zero_add] at hSw
              go_simp
              try with_reducible rfl
            simp only [Act.put, List.setIfInBounds_toArray, List.set_cons_zero, List.set_cons_succ]
            refine wpAnyH_take (i := 1) (oi := _) (v := ?_) (by rw [List.getElem?_toArray]; rfl) (by kernel_rfl) (by kernel_rfl) (by kernel_rfl) (by exact fun _ _ _ h => h) (Or.inl ⟨by rfl, ?_⟩) (by assumption) ?_
            rotate_left
            · intro w hSw
              try simp only [Cells, blk, List.cons_append, List.nil_append, and_true, Nat.reduceAdd, Nat.add_zero, Nat.zero_add] at hSw
              go_simp
              try with_reducible rfl
            simp only [Act.put, List.setIfInBounds_toArray, List.set_cons_zero, List.set_cons_succ]
            refine wpAnyH_take (i := 2) (oi := _) (v := ?_) (by rw [List.getElem?_toArray]; rfl) (by kernel_rfl) (by kernel_rfl) (by kernel_rfl) (by exact fun _ _ _ h => h) (Or.inl ⟨by rfl, ?_⟩) (by assumption) ?_
            rotate_left
            · intro w hSw
              try simp only [Cells, blk, List.cons_append, List.nil_append, and_true, Nat.reduceAdd, Nat.add_zero, Nat.zero_add] at hSw
              go_simp
              try with_reducible rfl
            simp only [Act.put, List.setIfInBounds_toArray, List.set_cons_zero, List.set_cons_succ]
            refine wpAnyH_take (i := 3) (oi := _) (v := ?_) (by rw [List.getElem?_toArray]; rfl) (by kernel_rfl) (by kernel_rfl) (by kernel_rfl) (by exact fun _ _ _ h => h) (Or.inl ⟨by rfl, ?_⟩) (by assumption) ?_
            rotate_left
            · intro w hSw
              try simp only [Cells, blk, List.cons_append, List.nil_append, and_true, Nat.reduceAdd, Nat.add_zero, Nat.zero_add] at hSw
              go_simp
              try with_reducible rfl
            simp only [Act.put, List.setIfInBounds_toArray, List.set_cons_zero, List.set_cons_succ]
            refine wpAnyH_take (i := 4) (oi := _) (v := ?_) (by rw [List.getElem?_toArray]; rfl) (by kernel_rfl) (by kernel_rfl) (by kernel_rfl) (by exact fun _ _ _ h => h) (Or.inl ⟨by rfl, ?_⟩) (by assumption) ?_
            rotate_left
            · intro w hSw
              try simp only [Cells, blk, List.cons_append, List.nil_append, and_true, Nat.reduceAdd, Nat.add_zero, Nat.zero_add] at hSw
              go_simp
              try with_reducible rfl
            simp only [Act.put, List.setIfInBounds_toArray, List.set_cons_zero, List.set_cons_succ]
            refine wpAnyH_take (i := 5) (oi := _) (v := ?_) (by rw [List.getElem?_toArray]; rfl) (by kernel_rfl) (by kernel_rfl) (by kernel_rfl) (by exact fun _ _ _ h => h) (Or.inl ⟨by rfl, ?_⟩) (by assumption) ?_
            rotate_left
            · intro w hSw
              try simp only [Cells, blk, List.cons_append, List.nil_append, and_true, Nat.reduceAdd, Nat.add_zero, Nat.zero_add] at hSw
              go_simp
              try with_reducible rfl
            simp only [Act.put, List.setIfInBounds_toArray, List.set_cons_zero, List.set_cons_succ]
            refine wpAnyH_take (i := 6) (oi := _) (v := ?_) (by rw [List.getElem?_toArray]; rfl) (by kernel_rfl) (by kernel_rfl) (by kernel_rfl) (by exact fun _ _ _ h => h) (Or.inl ⟨by rfl, ?_⟩) (by assumption) ?_
            rotate_left
            · intro w hSw
              try simp only [Cells, blk, List.cons_append, List.nil_append, and_true, Nat.reduceAdd, Nat.add_zero, Nat.zero_add] at hSw
              go_simp
              try with_reducible rfl
            simp only [Act.put, List.setIfInBounds_toArray, List.set_cons_zero, List.set_cons_succ]
            refine wpAnyH_take (i := 7) (oi := _) (v := ?_) (by rw [List.getElem?_toArray]; rfl) (by kernel_rfl) (by kernel_rfl) (by kernel_rfl) (by exact fun _ _ _ h => h) (Or.inl ⟨by rfl, ?_⟩) (by assumption) ?_
            rotate_left
            · intro w hSw
              try simp only [Cells, blk, List.cons_append, List.nil_append, and_true, Nat.reduceAdd, Nat.add_zero, Nat.zero_add] at hSw
              go_simp
              try with_reducible rfl
            simp only [Act.put, List.setIfInBounds_toArray, List.set_cons_zero, List.set_cons_succ]
            refine wpAnyH_take (i := 8) (oi := _) (v := ?_) (by rw [List.getElem?_toArray]; rfl) (by kernel_rfl) (by kernel_rfl) (by kernel_rfl) (by exact fun _ _ _ h => h) (Or.inl ⟨by rfl, ?_⟩) (by assumption) ?_
            rotate_left
            · intro w hSw
              try simp only [Cells, blk, List.cons_append, List.nil_append, and_true, Nat.reduceAdd, Nat.add_zero, Nat.zero_add] at hSw
              go_simp
              try with_reducible rfl
            simp only [Act.put, List.setIfInBounds_toArray, List.set_cons_zero, List.set_cons_succ]
            refine wpAnyH_take (i := 9) (oi := _) (v := undef) (by rw [List.getElem?_toArray]; rfl) (by kernel_rfl) (by kernel_rfl) (by kernel_rfl) (by exact fun _ _ _ h => h) (Or.inr ⟨by rfl, rfl⟩) (by assumption) ?_
            simp only [Act.put, List.setIfInBounds_toArray, List.set_cons_zero, List.set_cons_succ]
            refine wpAnyH_take (i := 10) (oi := _) (v := undef) (by rw [List.getElem?_toArray]; rfl) (by kernel_rfl) (by kernel_rfl) (by kernel_rfl) (by exact fun _ _ _ h => h) (Or.inr ⟨by rfl, rfl⟩) (by assumption) ?_
            simp only [Act.put, List.setIfInBounds_toArray, List.set_cons_zero, List.set_cons_succ]
            refine wpAnyH_take (i := 11) (oi := _) (v := undef) (by rw [List.getElem?_toArray]; rfl) (by kernel_rfl) (by kernel_rfl) (by kernel_rfl) (by exact fun _ _ _ h => h) (Or.inr ⟨by rfl, rfl⟩) (by assumption) ?_
            simp only [Act.put, List.setIfInBounds_toArray, List.set_cons_zero, List.set_cons_succ]
            refine wpAnyH_take (i := 12) (oi := _) (v := undef) (by rw [List.getElem?_toArray]; rfl) (by kernel_rfl) (by kernel_rfl) (by kernel_rfl) (by exact fun _ _ _ h => h) (Or.inr ⟨by rfl, rfl⟩) (by assumption) ?_
            simp only [Act.put, List.setIfInBounds_toArray, List.set_cons_zero, List.set_cons_succ]
            refine wpAnyH_take (i := 13) (oi := _) (v := undef) (by rw [List.getElem?_toArray]; rfl) (by kernel_rfl) (by kernel_rfl) (by kernel_rfl) (by exact fun _ _ _ h => h) (Or.inr ⟨by rfl, rfl⟩) (by assumption) ?_
            simp only [Act.put, List.setIfInBounds_toArray, List.set_cons_zero, List.set_cons_succ]
            refine wpAnyH_take (i := 14) (oi := _) (v := undef) (by rw [List.getElem?_toArray]; rfl) (by kernel_rfl) (by kernel_rfl) (by kernel_rfl) (by exact fun _ _ _ h => h) (Or.inr ⟨by rfl, rfl⟩) (by assumption) ?_
            simp only [Act.put, List.setIfInBounds_toArray, List.set_cons_zero, List.set_cons_succ]
            refine wpAnyH_take (i := 15) (oi := _) (v := undef) (by rw [List.getElem?_toArray]; rfl) (by kernel_rfl) (by kernel_rfl) (by kernel_rfl) (by exact fun _ _ _ h => h) (Or.inr ⟨by rfl, rfl⟩) (by assumption) ?_
            simp only [Act.put, List.setIfInBounds_toArray, List.set_cons_zero, List.set_cons_succ]
            refine wpAnyH_take (i := 16) (oi := _) (v := undef) (by rw [List.getElem?_toArray]; rfl) (by kernel_rfl) (by kernel_rfl) (by kernel_rfl) (by exact fun _ _ _ h => h) (Or.inr ⟨by rfl, rfl⟩) (by assumption) ?_
            simp only [Act.put, List.setIfInBounds_toArray, List.set_cons_zero, List.set_cons_succ]
            refine wpAnyH_take (i := 17) (oi := _) (v := undef) (by rw [List.getElem?_toArray]; rfl) (by kernel_rfl) (by kernel_rfl) (by kernel_rfl) (by exact fun _ _ _ h => h) (Or.inr ⟨by rfl, rfl⟩) (by assumption) ?_
            simp only [Act.put, List.setIfInBounds_toArray, List.set_cons_zero, List.set_cons_succ]
            refine wpAnyH_take (i := 18) (oi := _) (v := undef) (by rw [List.getElem?_toArray]; rfl) (by kernel_rfl) (by kernel_rfl) (by kernel_rfl) (by exact fun _ _ _ h => h) (Or.inr ⟨by rfl, rfl⟩) (by assumption) ?_
            simp only [Act.put, List.setIfInBounds_toArray, List.set_cons_zero, List.set_cons_succ]
            refine wpAnyH_take (i := 19) (oi := _) (v := undef) (by rw [List.getElem?_toArray]; rfl) (by kernel_rfl) (by kernel_rfl) (by kernel_rfl) (by exact fun _ _ _ h => h) (Or.inr ⟨by rfl, rfl⟩) (by assumption) ?_
            simp only [Act.put, List.setIfInBounds_toArray, List.set_cons_zero, List.set_cons_succ]
            refine wpAnyH_take (i := 20) (oi := _) (v := ?_) (by rw [List.getElem?_toArray]; rfl) (by kernel_rfl) (by kernel_rfl) (by kernel_rfl) (by exact fun _ _ _ h => h) (Or.inl ⟨by rfl, ?_⟩) (by assumption) ?_
            rotate_left
            · intro w hSw
              try simp only [Cells, blk, List.cons_append, List.nil_append, and_true, Nat.reduceAdd, Nat.add_zero, Nat.zero_add] at hSw
              go_simp
              try with_reducible rfl
            simp only [Act.put, List.setIfInBounds_toArray, List.set_cons_zero, List.set_cons_succ]
            refine wpAnyH_take (i := 21) (oi := _) (v := ?_) (by rw [List.getElem?_toArray]; rfl) (by kernel_rfl) (by kernel_rfl) (by kernel_rfl) (by exact fun _ _ _ h => h) (Or.inl ⟨by rfl, ?_⟩) (by assumption) ?_
            rotate_left
            · intro w hSw
              try simp only [Cells, blk, List.cons_append, List.nil_append, and_true, Nat.reduceAdd, Nat.add_zero, Nat.zero_add] at hSw
              go_simp
              try with_reducible rfl
            simp only [Act.put, List.setIfInBounds_toArray, List.set_cons_zero, List.set_cons_succ]
            refine wpAnyH_take (i := 22) (oi := _) (v := ?_) (by rw [List.getElem?_toArray]; rfl) (by kernel_rfl) (by kernel_rfl) (by kernel_rfl) (by exact fun _ _ _ h => h) (Or.inl ⟨by rfl, ?_⟩) (by assumption) ?_
            rotate_left
            · intro w hSw
              try simp only [Cells, blk, List.cons_append, List.nil_append, and_true, Nat.reduceAdd, Nat.add_zero, Nat.zero_add] at hSw
              go_simp
              try with_reducible rfl
            simp only [Act.put, List.setIfInBounds_toArray, List.set_cons_zero, List.set_cons_succ]
            refine wpAnyH_done (by kernel_rfl) ?_ _
            go_wp2_with fail
            go_meet
            exact ⟨by rw [hpf]; rfl, (Below.refl _ _).drew⟩
          · have t2 : (x2 != 0) = true := by simpa using hx2
            have hpf : P1 = insB db x2 sh sl ch cl := by rw [← HP1.out]; unfold p1B; simp [hx2]
            have HPF := Lib.hid hpf
            clear hx2 hpf
            refine wp_region_held_drew (S := (fun W' : World => Cells W' ([(g, o + k * 6 + 2, .int .u16 x2)] ++ (blk w.heap.size 0 0 [.int .u64 sh, .int .u64 sl, .int .u64 ch, .int .u64 cl])))) (by kernel_rfl) (T6.drew) (fun hHeld => ?_)
            refine wpAnyH_take (i := 0) (oi := _) (v := ?_) (by rw [List.getElem?_toArray]; rfl) (by kernel_rfl) (by kernel_rfl) (by kernel_rfl) (by exact fun _ _ _ h => h) (Or.inl ⟨by rfl, ?_⟩) (by assumption) ?_
            rotate_left
            · intro w hSw
              try simp only [Cells, blk, List.cons_append, List.nil_append, and_true, Nat.reduceAdd, Nat.add_zero, Nat.zero_add] at hSw
              go_simp
              try with_reducible rfl
            simp only [Act.put, List.setIfInBounds_toArray, List.set_cons_zero, List.set_cons_succ]
            refine wpAnyH_take (i := 1) (oi := _) (v := ?_) (by rw [List.getElem?_toArray]; rfl) (by kernel_rfl) (by kernel_rfl) (by kernel_rfl) (by exact fun _ _ _ h => h) (Or.inl ⟨by rfl, ?_⟩) (by assumption) ?_
            rotate_left
            · intro w hSw
              try simp only [Cells, blk, List.cons_append, List.nil_append, and_true, Nat.reduceAdd, Nat.add_zero, Nat.zero_add] at hSw
              go_simp
              try with_reducible rfl
            simp only [Act.put, List.setIfInBounds_toArray, List.set_cons_zero, List.set_cons_succ]
            refine wpAnyH_take (i := 2) (oi := _) (v := ?_) (by rw [List.getElem?_toArray]; rfl) (by kernel_rfl) (by kernel_rfl) (by kernel_rfl) (by exact fun _ _ _ h => h) (Or.inl ⟨by rfl, ?_⟩) (by assumption) ?_
            rotate_left
            · intro w hSw
              try simp only [Cells, blk, List.cons_append, List.nil_append, and_true, Nat.reduceAdd, Nat.add_zero, Nat.zero_add] at hSw
              go_simp
              try with_reducible rfl
            simp only [Act.put, List.setIfInBounds_toArray, List.set_cons_zero, List.set_cons_succ]
            refine wpAnyH_take (i := 3) (oi := _) (v := ?_) (by rw [List.getElem?_toArray]; rfl) (by kernel_rfl) (by kernel_rfl) (by kernel_rfl) (by exact fun _ _ _ h => h) (Or.inl ⟨by rfl, ?_⟩) (by assumption) ?_
            rotate_left
            · intro w hSw
              try simp only [Cells, blk, List.cons_append, List.nil_append, and_true, Nat.reduceAdd, Nat.add_zero, Nat.zero_add] at hSw
              go_simp
              try with_reducible rfl
            simp only [Act.put, List.setIfInBounds_toArray, List.set_cons_zero, List.set_cons_succ]
            refine wpAnyH_take (i := 4) (oi := _) (v := ?_) (by rw [List.getElem?_toArray]; rfl) (by kernel_rfl) (by kernel_rfl) (by kernel_rfl) (by exact fun _ _ _ h => h) (Or.inl ⟨by rfl, ?_⟩) (by assumption) ?_
            rotate_left
            · intro w hSw
              try simp only [Cells, blk, List.cons_append, List.nil_append, and_true, Nat.reduceAdd, Nat.add_zero, Nat.zero_add] at hSw
              go_simp
              try with_reducible rfl
            simp only [Act.put, List.setIfInBounds_toArray, List.set_cons_zero, List.set_cons_succ]
            refine wpAnyH_take (i := 5) (oi := _) (v := ?_) (by rw [List.getElem?_toArray]; rfl) (by kernel_rfl) (by kernel_rfl) (by kernel_rfl) (by exact fun _ _ _ h => h) (Or.inl ⟨by rfl, ?_⟩) (by assumption) ?_
            rotate_left
            · intro w hSw
              try simp only [Cells, blk, List.cons_append, List.nil_append, and_true, Nat.reduceAdd, Nat.add_zero, Nat.zero_add] at hSw
              go_simp
              try with_reducible rfl
            simp only [Act.put, List.setIfInBounds_toArray, List.set_cons_zero, List.set_cons_succ]
            refine wpAnyH_take (i := 6) (oi := _) (v := ?_) (by rw [List.getElem?_toArray]; rfl) (by kernel_rfl) (by kernel_rfl) (by kernel_rfl) (by exact fun _ _ _ h => h) (Or.inl ⟨by rfl, ?_⟩) (by assumption) ?_
            rotate_left
            · intro w hSw
              try simp only [Cells, blk, List.cons_append, List.nil_append, and_true, Nat.reduceAdd, Nat.add_zero, Nat.zero_add] at hSw
              go_simp
              try with_reducible rfl
            simp only [Act.put, List.setIfInBounds_toArray, List.set_cons_zero, List.set_cons_succ]
            refine wpAnyH_take (i := 7) (oi := _) (v := ?_) (by rw [List.getElem?_toArray]; rfl) (by kernel_rfl) (by kernel_rfl) (by kernel_rfl) (by exact fun _ _ _ h => h) (Or.inl ⟨by rfl, ?_⟩) (by assumption) ?_
            rotate_left
            · intro w hSw
              try simp only [Cells, blk, List.cons_append, List.nil_append, and_true, Nat.reduceAdd, Nat.add_zero, Nat.zero_add] at hSw
              go_simp
              try with_reducible rfl
            simp only [Act.put, List.setIfInBounds_toArray, List.set_cons_zero, List.set_cons_succ]
            refine wpAnyH_take (i := 8) (oi := _) (v := ?_) (by rw [List.getElem?_toArray]; rfl) (by kernel_rfl) (by kernel_rfl) (by kernel_rfl) (by exact fun _ _ _ h => h) (Or.inl ⟨by rfl, ?_⟩) (by assumption) ?_
            rotate_left
            · intro w hSw
              try simp only [Cells, blk, List.cons_append, List.nil_append, and_true, Nat.reduceAdd, Nat.add_zero, Nat.zero_add] at hSw
              go_simp
              try with_reducible rfl
            simp only [Act.put, List.setIfInBounds_toArray, List.set_cons_zero, List.set_cons_succ]
            refine wpAnyH_take (i := 9) (oi := _) (v := ?_) (by rw [List.getElem?_toArray]; rfl) (by kernel_rfl) (by kernel_rfl) (by kernel_rfl) (by exact fun _ _ _ h => h) (Or.inl ⟨by rfl, ?_⟩) (by assumption) ?_
            rotate_left
            · intro w hSw
              try simp only [Cells, blk, List.cons_append, List.nil_append, and_true, Nat.reduceAdd, Nat.add_zero, Nat.zero_add] at hSw
              go_simp
              try with_reducible rfl
            simp only [Act.put, List.setIfInBounds_toArray, List.set_cons_zero, List.set_cons_succ]
            refine wpAnyH_take (i := 10) (oi := _) (v := ?_) (by rw [List.getElem?_toArray]; rfl) (by kernel_rfl) (by kernel_rfl) (by kernel_rfl) (by exact fun _ _ _ h => h) (Or.inl ⟨by rfl, ?_⟩) (by assumption) ?_
            rotate_left
            · intro w hSw
              try simp only [Cells, blk, List.cons_append, List.nil_append, and_true, Nat.reduceAdd, Nat.add_zero, Nat.zero_add] at hSw
              go_simp
              try with_reducible rfl
            simp only [Act.put, List.setIfInBounds_toArray, List.set_cons_zero, List.set_cons_succ]
            refine wpAnyH_take (i := 11) (oi := _) (v := ?_) (by rw [List.getElem?_toArray]; rfl) (by kernel_rfl) (by kernel_rfl) (by kernel_rfl) (by exact fun _ _ _ h => h) (Or.inl ⟨by rfl, ?_⟩) (by assumption) ?_
            rotate_left
            · intro w hSw
              try simp only [Cells, blk, List.cons_append, List.nil_append, and_true, Nat.reduceAdd, Nat.add_zero, Nat.zero_add] at hSw
              go_simp
              try with_reducible rfl
            simp only [Act.put, List.setIfInBounds_toArray, List.set_cons_zero, List.set_cons_succ]
            refine wpAnyH_take (i := 12) (oi := _) (v := ?_) (by rw [List.getElem?_toArray]; rfl) (by kernel_rfl) (by kernel_rfl) (by kernel_rfl) (by exact fun _ _ _ h => h) (Or.inl ⟨by rfl, ?_⟩) (by assumption) ?_
            rotate_left
            · intro w hSw
              try simp only [Cells, blk, List.cons_append, List.nil_append, and_true, Nat.reduceAdd, Nat.add_zero, Nat.zero_add] at hSw
              go_simp
              try with_reducible rfl
            simp only [Act.put, List.setIfInBounds_toArray, List.set_cons_zero, List.set_cons_succ]
            refine wpAnyH_take (i := 13) (oi := _) (v := ?_) (by rw [List.getElem?_toArray]; rfl) (by kernel_rfl) (by kernel_rfl) (by kernel_rfl) (by exact fun _ _ _ h => h) (Or.inl ⟨by rfl, ?_⟩) (by assumption) ?_
            rotate_left
            · intro w hSw
              try simp only [Cells, blk, List.cons_append, List.nil_append, and_true, Nat.reduceAdd, Nat.add_zero, Nat.zero_add] at hSw
              go_simp
              try with_reducible rfl
            simp only [Act.put, List.setIfInBounds_toArray, List.set_cons_zero, List.set_cons_succ]
            refine wpAnyH_take (i := 14) (oi := _) (v := ?_) (by rw [List.getElem?_toArray]; rfl) (by kernel_rfl) (by kernel_rfl) (by kernel_rfl) (by exact fun _ _ _ h => h) (Or.inl ⟨by rfl, ?_⟩) (by assumption) ?_
            rotate_left
            · intro w hSw
              try simp only [Cells, blk, List.cons_append, List.nil_append, and_true, Nat.reduceAdd, Nat.add_zero, Nat.zero_add] at hSw
              go_simp
              try with_reducible rfl
            simp only [Act.put, List.setIfInBounds_toArray, List.set_cons_zero, List.set_cons_succ]
            refine wpAnyH_take (i := 15) (oi := _) (v := ?_) (by rw [List.getElem?_toArray]; rfl) (by kernel_rfl) (by kernel_rfl) (by kernel_rfl) (by exact fun _ _ _ h => h) (Or.inl ⟨by rfl, ?_⟩) (by assumption) ?_
            rotate_left
            · intro w hSw
              try simp only [Cells, blk, List.cons_append, List.nil_append, and_true, Nat.reduceAdd, Nat.add_zero, Nat.zero_add] at hSw
              go_simp
              try with_reducible rfl
            simp only [Act.put, List.setIfInBounds_toArray, List.set_cons_zero, List.set_cons_succ]
            refine wpAnyH_take (i := 16) (oi := _) (v := ?_) (by rw [List.getElem?_toArray]; rfl) (by kernel_rfl) (by kernel_rfl) (by kernel_rfl) (by exact fun _ _ _ h => h) (Or.inl ⟨by rfl, ?_⟩) (by assumption) ?_
            rotate_left
            · intro w hSw
              try simp only [Cells, blk, List.cons_append, List.nil_append, and_true, Nat.reduceAdd, Nat.add_zero, Nat.zero_add] at hSw
              go_simp
              try with_reducible rfl
            simp only [Act.put, List.setIfInBounds_toArray, List.set_cons_zero, List.set_cons_succ]
            refine wpAnyH_take (i := 17) (oi := _) (v := ?_) (by rw [List.getElem?_toArray]; rfl) (by kernel_rfl) (by kernel_rfl) (by kernel_rfl) (by exact fun _ _ _ h => h) (Or.inl ⟨by rfl, ?_⟩) (by assumption) ?_
            rotate_left
            · intro w hSw
              try simp only [Cells, blk, List.cons_append, List.nil_append, and_true, Nat.reduceAdd, Nat.add_zero, Nat.zero_add] at hSw
              go_simp
              try with_reducible rfl
            simp only [Act.put, List.setIfInBounds_toArray, List.set_cons_zero, List.set_cons_succ]
            refine wpAnyH_take (i := 18) (oi := _) (v := ?_) (by rw [List.getElem?_toArray]; rfl) (by kernel_rfl) (by kernel_rfl) (by kernel_rfl) (by exact fun _ _ _ h => h) (Or.inl ⟨by rfl, ?_⟩) (by assumption) ?_
            rotate_left
            · intro w hSw
              try simp only [Cells, blk, List.cons_append, List.nil_append, and_true, Nat.reduceAdd, Nat.add_zero, Nat.zero_add] at hSw
              go_simp
              try with_reducible rfl
            simp only [Act.put, List.setIfInBounds_toArray, List.set_cons_zero, List.set_cons_succ]
            refine wpAnyH_ready (rs := [19]) (by kernel_rfl) (by simp) (AllReadyH.cons (o := _) (by rw [List.getElem?_toArray]; rfl) (fun K hK => ?_) AllReadyH.nil)
            go_simp
            go_at_call 24
            refine (inside_any a n c db x2 sh sl ch cl _ (HD.out.below (HB2.out.trans (HBW.out.mono HB2.out.size)).drew) HN.out (by omega) HG.out).mono ?_
            rintro e w7 ⟨rfl, hC⟩
            clear hHeld
            refine hK.out _ _ (T6.drew.keep hC) (fun hHeld => ?_)
            clear hK K
            try simp only [Act.put, List.setIfInBounds_toArray, List.set_cons_zero, List.set_cons_succ]
            refine wpAnyH_take (i := 20) (oi := _) (v := ?_) (by rw [List.getElem?_toArray]; rfl) (by kernel_rfl) (by kernel_rfl) (by kernel_rfl) (by exact fun _ _ _ h => h) (Or.inl ⟨by rfl, ?_⟩) (by assumption) ?_
            rotate_left
            · intro w hSw
              try simp only [Cells, blk, List.cons_append, List.nil_append, and_true, Nat.reduceAdd, Nat.add_zero, Nat.zero_add] at hSw
              go_simp
              try with_reducible rfl
            simp only [Act.put, List.setIfInBounds_toArray, List.set_cons_zero, List.set_cons_succ]
            refine wpAnyH_take (i := 21) (oi := _) (v := ?_) (by rw [List.getElem?_toArray]; rfl) (by kernel_rfl) (by kernel_rfl) (by kernel_rfl) (by exact fun _ _ _ h => h) (Or.inl ⟨by rfl, ?_⟩) (by assumption) ?_
            rotate_left
            · intro w hSw
              try simp only [Cells, blk, List.cons_append, List.nil_append, and_true, Nat.reduceAdd, Nat.add_zero, Nat.zero_add] at hSw
              go_simp
              try with_reducible rfl
            simp only [Act.put, List.setIfInBounds_toArray, List.set_cons_zero, List.set_cons_succ]
            refine wpAnyH_take (i := 22) (oi := _) (v := ?_) (by rw [List.getElem?_toArray]; rfl) (by kernel_rfl) (by kernel_rfl) (by kernel_rfl) (by exact fun _ _ _ h => h) (Or.inl ⟨by rfl, ?_⟩) (by assumption) ?_
            rotate_left
            · intro w hSw
              try simp only [Cells, blk, List.cons_append, List.nil_append, and_true, Nat.reduceAdd, Nat.add_zero, Nat.zero_add] at hSw
              go_simp
              try with_reducible rfl
            simp only [Act.put, List.setIfInBounds_toArray, List.set_cons_zero, List.set_cons_succ]
            refine wpAnyH_done (by kernel_rfl) ?_ _
            go_wp2_with fail
            go_meet
            exact ⟨by rw [HPF.out]; rfl, (Below.refl _ _).drew.trans hC⟩
      case rest =>
        obtain ⟨rfl, hBY⟩ := hcut
        rename World => Y
        have HBY := Lib.hid (HBW.out.trans (hBY.mono HBW.out.size))
        have HOY := Lib.hid (own_below HOW.out hBY)
        have c2 := kc Q2.out HBY.out
        clear hBY T6 HOW HBW
        have hr1 : ((fdL db).take (k + 1)).any (p1B db sh sl ch cl) = (T0 || P1) := by rw [AN1.out, HT0.out, HP1.out]
        have hr2 : ((fdL db).take (k + 1)).any (p2B va) = (C0 || (d0 && d1)) := by rw [AN2.out, HC0.out, HP2.out]
        have HR1 := Lib.hid hr1
        have HR2 := Lib.hid hr2
        clear hr1 hr2
        cases C0
        · cases d0
          all_goals
            go_wp2
            go_roundw
            case rel => exact ⟨k + 1, by go_num, by omega, by rw [HR1.out], by rw [HR2.out]; rfl, HOY, HBY.out⟩
            case measure => simp [intOf]; omega
        · go_wp2
          go_roundw
          case rel => exact ⟨k + 1, by go_num, by omega, by rw [HR1.out], by rw [HR2.out]; rfl, HOY, HBY.out⟩
          case measure => simp [intOf]; omega
    · have ek : k = N := by omega
      have g2 : decide (k < N) = false := by simpa using hlt
      have g2i : decide ((k : Int) < (N : Int)) = false := by simp; omega
      have htk : (fdL db).take k = fdL db := List.take_of_length_le (by rw [HNN.out, ek]; exact Nat.le_refl _)
      have hpos : ∀ x ∈ fdL db, 0 < x.ha := fun x hx => by
        obtain ⟨i, hi, hf⟩ := mem_fdL.1 hx
        rw [fdAt_ha hf]
        exact HG.out.pos i hi
      have htb : rlTo (turnL (fdL db) by' k) (turnL (fdL db) by' k).length = fdL db := by
        rw [turnL_len, ek, ← HNN.out]
        exact turn_back (fdL_asc HG.out) hpos by'
      have hsr := SR.of_own hown.out (fcells_one _) (by rw [turnL_len]; unfold maxLen; omega)
      have hle := learn_ca u10 (turnL (fdL db) by' k) 1 wr hsr (by rw [turnL_len]; omega)
      rw [htb] at hle
      rw [htk]
      obtain ⟨TH, hTH⟩ : ∃ x, (fdL db).any (p1B db sh sl ch cl) = x := ⟨_, rfl⟩
      obtain ⟨CF, hCF⟩ : ∃ x, (fdL db).any (p2B va) = x := ⟨_, rfl⟩
      rw [hTH, hCF]
      obtain ⟨u1, u2⟩ := use_ok HG.out sh sl ch cl
      have u1' : ((useL (fdL db) sh sl ch cl).2 == 0) = TH := by rw [u1, ← hTH]; rfl
      obtain ⟨g1', g2'⟩ := cfg_ok HG.out va
      have hCFB : confB db va = CF := by rw [← hCF]; rfl
      rw [hCFB] at g2'
      have HLE := Lib.hid hle
      have HU1 := Lib.hid u1'
      have HU2 := Lib.hid u2
      have HC1 := Lib.hid g1'
      have HC2 := Lib.hid g2'
      have HBW := Lib.hid (HB2.out.trans (hB.mono HB2.out.size))
      have HTW := Lib.hid (HT2.out.keep hB)
      have hfl : (fdL db).length ≤ 1000000 := by rw [HNN.out]; omega
      have HFL := Lib.hid hfl
      clear htk hpos htb hsr hle hTH hCF u1 u2 u1' g1' g2' hCFB hown hB hfl ek hlt
      go_wp2_with fail
      refine HLE.out.mono ?_
      rintro e w3 ⟨v14, rfl, hk, hC⟩
      have HB3 := Lib.hid (HBW.out.trans (hC.mono HBW.out.size))
      have HT3 := Lib.hid (HTW.out.keep hC)
      obtain ⟨ca, cn, cc, rfl⟩ := hk.lit
      have HK := Lib.hid hk
      clear hk hC HBW HTW HLE
      go_upto_region 13 with fail
      generalize hX : World.alloc w3 _ = Z
      obtain ⟨h6, hB6, h6z⟩ := alloc_named hX
      have b6 : Blk Z w3.heap.size 26 [.bool true, .int .u64 1, .slice ca cn cc, .bool false] := h6
      have HBZ := Lib.hid (HB3.out.trans (hB6.mono HB3.out.size))
      have HKZ := Lib.hid (HK.out.below hB6)
      have HTZ := Lib.hid ((HT3.out.keep hB6).app b6.cells)
      have hus := use_any _ ⟨true, 1, fdL db, false⟩ sh sl ch cl Z HKZ.out.1 HFL.out
      have e0 : useC ⟨true, 1, fdL db, false⟩ sh sl ch cl = useL (fdL db) sh sl ch cl := rfl
      rw [e0] at hus
      obtain ⟨UH, hUH⟩ : ∃ x, (useL (fdL db) sh sl ch cl).1 = x := ⟨_, rfl⟩
      obtain ⟨UE, hUE⟩ : ∃ x, (useL (fdL db) sh sl ch cl).2 = x := ⟨_, rfl⟩
      have hu1 := HU1.out
      have hu2 := HU2.out
      rw [hUH, hUE] at hus hu2
      rw [hUE] at hu1
      have HUS := Lib.hid hus
      have HV2 := Lib.hid hu2
      clear hX h6 hB6 h6z b6 hus e0 hUH hUE hu2 HU1 HU2 HB3 HT3 HK
      have T2 := HTZ.out
      have hOpen := T2
      simp only [Cells, blk, List.cons_append, List.nil_append, and_true, Nat.reduceAdd, Nat.add_zero, Nat.zero_add] at hOpen
      obtain ⟨m0, m1, m2, m3, n0, n1, n2, n3⟩ := hOpen
      clear T2
      go_wp2_with fail
      refine HUS.out.mono ?_
      rintro e w4 ⟨rfl, hC⟩
      have HB4 := Lib.hid (HBZ.out.trans (hC.mono HBZ.out.size))
      have HK4 := Lib.hid (HKZ.out.below hC)
      have HT4 := Lib.hid (HTZ.out.keep hC)
      clear hC m0 m1 m2 m3 n0 n1 n2 n3 HBZ HKZ HTZ HUS
      go_upto_region 14 with fail
      go_cut [112] (fun b wx => b = .bool false ∧ Below w4.heap.size w4 wx)
      case first =>
        by_cases hu : UE = 0
        · have t1 : (UE == 0) = true := by simpa using hu
          rw [t1] at hu1
          subst hu1
          have hin := HV2.out hu
          have HIA := Lib.hid (inside_any a n c db UH sh sl ch cl w4 (HD.out.below HB4.out) HN.out (by omega) HG.out)
          have hia := HIA.out
          rw [hin] at hia
          have HIB := Lib.hid hia
          have T2 := HT4.out
          have hOpen := T2
          simp only [Cells, blk, List.cons_append, List.nil_append, and_true, Nat.reduceAdd, Nat.add_zero, Nat.zero_add] at hOpen
          obtain ⟨m0, m1, m2, m3, n0, n1, n2, n3⟩ := hOpen
          clear T2 hin hia HIA hu
          go_wp2_with fail
          refine HIB.out.mono ?_
          rintro e w5 ⟨rfl, hC⟩
          go_wp2_with fail
          go_meet
          exact ⟨rfl, hC⟩
        · have t1 : (UE == 0) = false := by simpa using hu
          rw [t1] at hu1
          subst hu1
          clear hu
          go_wp2_with fail
          go_meet
          exact ⟨rfl, Below.refl _ _⟩
      case rest =>
        obtain ⟨rfl, hC⟩ := hcut
        rename World => Y
        have HB5 := Lib.hid (HB4.out.trans (hC.mono HB4.out.size))
        have HK5 := Lib.hid (HK4.out.below hC)
        have HT5 := Lib.hid (HT4.out.keep hC)
        clear hC HB4 HK4 HT4 hu1
        have hcg := cfg_any _ ⟨true, 1, fdL db, false⟩ va Y HK5.out HFL.out
        have e0 : cfgC ⟨true, 1, fdL db, false⟩ va = cfgL va (fdL db) := rfl
        rw [e0] at hcg
        obtain ⟨CG, hCG⟩ : ∃ x, (cfgL va (fdL db)).1 = x := ⟨_, rfl⟩
        obtain ⟨CE, hCE⟩ : ∃ x, (cfgL va (fdL db)).2 = x := ⟨_, rfl⟩
        have hc1 := HC1.out
        have hc2 := HC2.out
        rw [hCG, hCE] at hcg hc2
        rw [hCE] at hc1
        have HCG := Lib.hid hcg
        have HD2 := Lib.hid hc2
        clear hcg e0 hCG hCE hc2 HC1 HC2
        have T2 := HT5.out
        have hOpen := T2
        simp only [Cells, blk, List.cons_append, List.nil_append, and_true, Nat.reduceAdd, Nat.add_zero, Nat.zero_add] at hOpen
        obtain ⟨m0, m1, m2, m3, n0, n1, n2, n3⟩ := hOpen
        clear T2
        rcases hc1 with rfl | rfl
        rotate_left
        · go_wp2_with fail
          refine HCG.out.mono ?_
          rintro e w6 ⟨rfl, hC⟩
          have HB6 := Lib.hid (HB5.out.trans (hC.mono HB5.out.size))
          clear hC m0 m1 m2 m3 n0 n1 n2 n3
          go_wp2_with fail
          refine (example_any _).mono ?_
          rintro e w7 ⟨rfl, hC⟩
          have HB7 := Lib.hid (HB6.out.trans (hC.mono HB6.out.size))
          clear hC
          go_wp2
          go_ret
          exact ⟨rfl, HB7.out⟩
        · obtain ⟨q1, q2, q3, q4⟩ := HD2.out rfl
          subst q1
          obtain ⟨p, hp⟩ : ∃ p, findN db CG = p := ⟨_, rfl⟩
          rw [hp] at q3 q4
          rw [HN.out] at q3
          have hfi : fI db CG = (p : Nat) := by unfold fI; rw [hp, if_pos (by rw [HN.out]; exact q3)]
          have hfd := fun (W : World) (hW : Below w.heap.size w W) => find_any a n c db CG W (HD.out.below hW) HN.out (by omega)
          simp only [hfi] at hfd
          have HFD := Lib.hid hfd
          have HQ3 := Lib.hid q3
          have HQ4 := Lib.hid q4
          have t3 : decide ((va : Int) < CG) = true := by simpa using q2
          clear hp hfi hfd q2 q3 q4
          go_wp2_with fail
          refine HCG.out.mono ?_
          rintro e w6 ⟨rfl, hC⟩
          have HB6 := Lib.hid (HB5.out.trans (hC.mono HB5.out.size))
          clear hC m0 m1 m2 m3 n0 n1 n2 n3
          go_wp2_with fail
          refine (HFD.out _ HB6.out).mono ?_
          rintro e w7 ⟨rfl, rfl⟩
          obtain ⟨b, off, rfl, hbb, hat⟩ := (HD.out.below HB6.out).at HN.out (by have := HQ3.out; omega)
          obtain ⟨ra, rc, d0, d1, d2, d3, d4, _, _⟩ := hat p HQ3.out
          have q4 := HQ4.out
          obtain ⟨⟨ha, hh, lo, pe, bs⟩, he⟩ : ∃ r, atI db p = r := ⟨_, rfl⟩
          rw [he] at d1 d2 q4
          simp only at d1 d2 q4
          unfold cfU isU at q4
          simp only [Bool.and_eq_true, beq_iff_eq] at q4
          obtain ⟨rfl, rfl⟩ := q4
          have T7 : Cells w6 [(b, off + p * 5 + 1, .int .u64 45088566677504), (b, off + p * 5 + 2, .int .u64 9223372588214596859)] := ⟨d1, d2, trivial⟩
          have hp0 : (0 : Int) ≤ (p : Int) := by omega
          have hp1 : (p : Int) < (n : Int) := by have := HQ3.out; omega
          have g7 : decide ((0 : Int) ≤ (p : Int)) = true := by simp
          clear hat d0 d1 d2 d3 d4 he HQ4
          go_upto_region 20 with fail
          refine wp_region_held_drew (S := (fun W' : World => Cells W' [(b, off + p * 5 + 1, .int .u64 45088566677504), (b, off + p * 5 + 2, .int .u64 9223372588214596859)])) (by kernel_rfl) (T7.drew) (fun hHeld => ?_)
          refine wpAnyH_take (i := 0) (oi := _) (v := ?_) (by rw [List.getElem?_toArray]; rfl) (by kernel_rfl) (by kernel_rfl) (by kernel_rfl) (by exact fun _ _ _ h => h) (Or.inl ⟨by rfl, ?_⟩) (by assumption) ?_
          rotate_left
          · intro w hSw
            try simp only [Cells, blk, List.cons_append, List.nil_append, and_true, Nat.reduceAdd, Nat.add_zero, Nat.zero_add] at hSw
            go_simp
            try with_reducible rfl
          simp only [Act.put, List.setIfInBounds_toArray, List.set_cons_zero, List.set_cons_succ]
          refine wpAnyH_take (i := 1) (oi := _) (v := ?_) (by rw [List.getElem?_toArray]; rfl) (by kernel_rfl) (by kernel_rfl) (by kernel_rfl) (by exact fun _ _ _ h => h) (Or.inl ⟨by rfl, ?_⟩) (by assumption) ?_
          rotate_left
          · intro w hSw
            try simp only [Cells, blk, List.cons_append, List.nil_append, and_true, Nat.reduceAdd, Nat.add_zero, Nat.zero_add] at hSw
            go_simp
            try with_reducible rfl
          simp only [Act.put, List.setIfInBounds_toArray, List.set_cons_zero, List.set_cons_succ]
          refine wpAnyH_take (i := 2) (oi := _) (v := ?_) (by rw [List.getElem?_toArray]; rfl) (by kernel_rfl) (by kernel_rfl) (by kernel_rfl) (by exact fun _ _ _ h => h) (Or.inl ⟨by rfl, ?_⟩) (by assumption) ?_
          rotate_left
          · intro w hSw
            try simp only [Cells, blk, List.cons_append, List.nil_append, and_true, Nat.reduceAdd, Nat.add_zero, Nat.zero_add] at hSw
            go_simp
            try with_reducible rfl
          simp only [Act.put, List.setIfInBounds_toArray, List.set_cons_zero, List.set_cons_succ]
          refine wpAnyH_take (i := 3) (oi := _) (v := ?_) (by rw [List.getElem?_toArray]; rfl) (by kernel_rfl) (by kernel_rfl) (by kernel_rfl) (by exact fun _ _ _ h => h) (Or.inl ⟨by rfl, ?_⟩) (by assumption) ?_
          rotate_left
          · intro w hSw
            try simp only [Cells, blk, List.cons_append, List.nil_append, and_true, Nat.reduceAdd, Nat.add_zero, Nat.zero_add] at hSw
            go_simp
            try with_reducible rfl
          simp only [Act.put, List.setIfInBounds_toArray, List.set_cons_zero, List.set_cons_succ]
          refine wpAnyH_take (i := 4) (oi := _) (v := ?_) (by rw [List.getElem?_toArray]; rfl) (by kernel_rfl) (by kernel_rfl) (by kernel_rfl) (by exact fun _ _ _ h => h) (Or.inl ⟨by rfl, ?_⟩) (by assumption) ?_
          rotate_left
          · intro w hSw
            try simp only [Cells, blk, List.cons_append, List.nil_append, and_true, Nat.reduceAdd, Nat.add_zero, Nat.zero_add] at hSw
            go_simp
            try with_reducible rfl
          simp only [Act.put, List.setIfInBounds_toArray, List.set_cons_zero, List.set_cons_succ]
          refine wpAnyH_take (i := 5) (oi := _) (v := ?_) (by rw [List.getElem?_toArray]; rfl) (by kernel_rfl) (by kernel_rfl) (by kernel_rfl) (by exact fun _ _ _ h => h) (Or.inl ⟨by rfl, ?_⟩) (by assumption) ?_
          rotate_left
          · intro w hSw
            try simp only [Cells, blk, List.cons_append, List.nil_append, and_true, Nat.reduceAdd, Nat.add_zero, Nat.zero_add] at hSw
            go_simp
            try with_reducible rfl
          simp only [Act.put, List.setIfInBounds_toArray, List.set_cons_zero, List.set_cons_succ]
          refine wpAnyH_take (i := 6) (oi := _) (v := ?_) (by rw [List.getElem?_toArray]; rfl) (by kernel_rfl) (by kernel_rfl) (by kernel_rfl) (by exact fun _ _ _ h => h) (Or.inl ⟨by rfl, ?_⟩) (by assumption) ?_
          rotate_left
          · intro w hSw
            try simp only [Cells, blk, List.cons_append, List.nil_append, and_true, Nat.reduceAdd, Nat.add_zero, Nat.zero_add] at hSw
            go_simp
            try with_reducible rfl
          simp only [Act.put, List.setIfInBounds_toArray, List.set_cons_zero, List.set_cons_succ]
          refine wpAnyH_take (i := 7) (oi := _) (v := ?_) (by rw [List.getElem?_toArray]; rfl) (by kernel_rfl) (by kernel_rfl) (by kernel_rfl) (by exact fun _ _ _ h => h) (Or.inl ⟨by rfl, ?_⟩) (by assumption) ?_
          rotate_left
          · intro w hSw
            try simp only [Cells, blk, List.cons_append, List.nil_append, and_true, Nat.reduceAdd, Nat.add_zero, Nat.zero_add] at hSw
            go_simp
            try with_reducible rfl
          simp only [Act.put, List.setIfInBounds_toArray, List.set_cons_zero, List.set_cons_succ]
          refine wpAnyH_take (i := 8) (oi := _) (v := ?_) (by rw [List.getElem?_toArray]; rfl) (by kernel_rfl) (by kernel_rfl) (by kernel_rfl) (by exact fun _ _ _ h => h) (Or.inl ⟨by rfl, ?_⟩) (by assumption) ?_
          rotate_left
          · intro w hSw
            try simp only [Cells, blk, List.cons_append, List.nil_append, and_true, Nat.reduceAdd, Nat.add_zero, Nat.zero_add] at hSw
            go_simp
            try with_reducible rfl
          simp only [Act.put, List.setIfInBounds_toArray, List.set_cons_zero, List.set_cons_succ]
          refine wpAnyH_take (i := 9) (oi := _) (v := ?_) (by rw [List.getElem?_toArray]; rfl) (by kernel_rfl) (by kernel_rfl) (by kernel_rfl) (by exact fun _ _ _ h => h) (Or.inl ⟨by rfl, ?_⟩) (by assumption) ?_
          rotate_left
          · intro w hSw
            try simp only [Cells, blk, List.cons_append, List.nil_append, and_true, Nat.reduceAdd, Nat.add_zero, Nat.zero_add] at hSw
            go_simp
            try with_reducible rfl
          simp only [Act.put, List.setIfInBounds_toArray, List.set_cons_zero, List.set_cons_succ]
          refine wpAnyH_take (i := 10) (oi := _) (v := ?_) (by rw [List.getElem?_toArray]; rfl) (by kernel_rfl) (by kernel_rfl) (by kernel_rfl) (by exact fun _ _ _ h => h) (Or.inl ⟨by rfl, ?_⟩) (by assumption) ?_
          rotate_left
          · intro w hSw
            try simp only [Cells, blk, List.cons_append, List.nil_append, and_true, Nat.reduceAdd, Nat.add_zero, Nat.zero_add] at hSw
            go_simp
            try with_reducible rfl
          simp only [Act.put, List.setIfInBounds_toArray, List.set_cons_zero, List.set_cons_succ]
          refine wpAnyH_take (i := 11) (oi := _) (v := ?_) (by rw [List.getElem?_toArray]; rfl) (by kernel_rfl) (by kernel_rfl) (by kernel_rfl) (by exact fun _ _ _ h => h) (Or.inl ⟨by rfl, ?_⟩) (by assumption) ?_
          rotate_left
          · intro w hSw
            try simp only [Cells, blk, List.cons_append, List.nil_append, and_true, Nat.reduceAdd, Nat.add_zero, Nat.zero_add] at hSw
            go_simp
            try with_reducible rfl
          simp only [Act.put, List.setIfInBounds_toArray, List.set_cons_zero, List.set_cons_succ]
          refine wpAnyH_take (i := 12) (oi := _) (v := ?_) (by rw [List.getElem?_toArray]; rfl) (by kernel_rfl) (by kernel_rfl) (by kernel_rfl) (by exact fun _ _ _ h => h) (Or.inl ⟨by rfl, ?_⟩) (by assumption) ?_
          rotate_left
          · intro w hSw
            try simp only [Cells, blk, List.cons_append, List.nil_append, and_true, Nat.reduceAdd, Nat.add_zero, Nat.zero_add] at hSw
            go_simp
            try with_reducible rfl
          simp only [Act.put, List.setIfInBounds_toArray, List.set_cons_zero, List.set_cons_succ]
          refine wpAnyH_take (i := 13) (oi := _) (v := ?_) (by rw [List.getElem?_toArray]; rfl) (by kernel_rfl) (by kernel_rfl) (by kernel_rfl) (by exact fun _ _ _ h => h) (Or.inl ⟨by rfl, ?_⟩) (by assumption) ?_
          rotate_left
          · intro w hSw
            try simp only [Cells, blk, List.cons_append, List.nil_append, and_true, Nat.reduceAdd, Nat.add_zero, Nat.zero_add] at hSw
            go_simp
            try with_reducible rfl
          simp only [Act.put, List.setIfInBounds_toArray, List.set_cons_zero, List.set_cons_succ]
          refine wpAnyH_take (i := 14) (oi := _) (v := ?_) (by rw [List.getElem?_toArray]; rfl) (by kernel_rfl) (by kernel_rfl) (by kernel_rfl) (by exact fun _ _ _ h => h) (Or.inl ⟨by rfl, ?_⟩) (by assumption) ?_
          rotate_left
          · intro w hSw
            try simp only [Cells, blk, List.cons_append, List.nil_append, and_true, Nat.reduceAdd, Nat.add_zero, Nat.zero_add] at hSw
            go_simp
            try with_reducible rfl
          simp only [Act.put, List.setIfInBounds_toArray, List.set_cons_zero, List.set_cons_succ]
          refine wpAnyH_take (i := 15) (oi := _) (v := ?_) (by rw [List.getElem?_toArray]; rfl) (by kernel_rfl) (by kernel_rfl) (by kernel_rfl) (by exact fun _ _ _ h => h) (Or.inl ⟨by rfl, ?_⟩) (by assumption) ?_
          rotate_left
          · intro w hSw
            try simp only [Cells, blk, List.cons_append, List.nil_append, and_true, Nat.reduceAdd, Nat.add_zero, Nat.zero_add] at hSw
            go_simp
            try with_reducible rfl
          simp only [Act.put, List.setIfInBounds_toArray, List.set_cons_zero, List.set_cons_succ]
          refine wpAnyH_ready (rs := [16]) (by kernel_rfl) (by simp) (AllReadyH.cons (o := _) (by rw [List.getElem?_toArray]; rfl) (fun K hK => ?_) AllReadyH.nil)
          go_simp
          go_at_call 26
          refine (rshort_c _).mono ?_
          rintro e w8 ⟨rfl, hC8⟩
          clear hHeld
          refine hK.out _ _ (T7.drew.keep hC8) (fun hHeld => ?_)
          clear hK K
          try simp only [Act.put, List.setIfInBounds_toArray, List.set_cons_zero, List.set_cons_succ]
          refine wpAnyH_take (i := 17) (oi := _) (v := ?_) (by rw [List.getElem?_toArray]; rfl) (by kernel_rfl) (by kernel_rfl) (by kernel_rfl) (by exact fun _ _ _ h => h) (Or.inl ⟨by rfl, ?_⟩) (by assumption) ?_
          rotate_left
          · intro w hSw
            try simp only [Cells, blk, List.cons_append, List.nil_append, and_true, Nat.reduceAdd, Nat.add_zero, Nat.zero_add] at hSw
            go_simp
            try with_reducible rfl
          simp only [Act.put, List.setIfInBounds_toArray, List.set_cons_zero, List.set_cons_succ]
          refine wpAnyH_take (i := 18) (oi := _) (v := ?_) (by rw [List.getElem?_toArray]; rfl) (by kernel_rfl) (by kernel_rfl) (by kernel_rfl) (by exact fun _ _ _ h => h) (Or.inl ⟨by rfl, ?_⟩) (by assumption) ?_
          rotate_left
          · intro w hSw
            try simp only [Cells, blk, List.cons_append, List.nil_append, and_true, Nat.reduceAdd, Nat.add_zero, Nat.zero_add] at hSw
            go_simp
            try with_reducible rfl
          simp only [Act.put, List.setIfInBounds_toArray, List.set_cons_zero, List.set_cons_succ]
          refine wpAnyH_take (i := 19) (oi := _) (v := ?_) (by rw [List.getElem?_toArray]; rfl) (by kernel_rfl) (by kernel_rfl) (by kernel_rfl) (by exact fun _ _ _ h => h) (Or.inl ⟨by rfl, ?_⟩) (by assumption) ?_
          rotate_left
          · intro w hSw
            try simp only [Cells, blk, List.cons_append, List.nil_append, and_true, Nat.reduceAdd, Nat.add_zero, Nat.zero_add] at hSw
            go_simp
            try with_reducible rfl
          simp only [Act.put, List.setIfInBounds_toArray, List.set_cons_zero, List.set_cons_succ]
          refine wpAnyH_ready (rs := [20]) (by kernel_rfl) (by simp) (AllReadyH.cons (o := _) (by rw [List.getElem?_toArray]; rfl) (fun K hK => ?_) AllReadyH.nil)
          go_simp
          go_at_call 8
          refine (example_any _).mono ?_
          rintro e w9 ⟨rfl, hC9⟩
          have hB9 := HB6.out.drew.trans ((hC8.trans (hC9.mono hC8.size)).mono HB6.out.drew.size)
          clear hHeld
          refine hK.out _ _ ((T7.drew.keep hC8).keep hC9) (fun hHeld => ?_)
          clear hK K
          try simp only [Act.put, List.setIfInBounds_toArray, List.set_cons_zero, List.set_cons_succ]
          refine wpAnyH_take (i := 21) (oi := _) (v := ?_) (by rw [List.getElem?_toArray]; rfl) (by kernel_rfl) (by kernel_rfl) (by kernel_rfl) (by exact fun _ _ _ h => h) (Or.inl ⟨by rfl, ?_⟩) (by assumption) ?_
          rotate_left
          · intro w hSw
            try simp only [Cells, blk, List.cons_append, List.nil_append, and_true, Nat.reduceAdd, Nat.add_zero, Nat.zero_add] at hSw
            go_simp
            try with_reducible rfl
          simp only [Act.put, List.setIfInBounds_toArray, List.set_cons_zero, List.set_cons_succ]
          refine wpAnyH_take (i := 22) (oi := _) (v := ?_) (by rw [List.getElem?_toArray]; rfl) (by kernel_rfl) (by kernel_rfl) (by kernel_rfl) (by exact fun _ _ _ h => h) (Or.inl ⟨by rfl, ?_⟩) (by assumption) ?_
          rotate_left
          · intro w hSw
            try simp only [Cells, blk, List.cons_append, List.nil_append, and_true, Nat.reduceAdd, Nat.add_zero, Nat.zero_add] at hSw
            go_simp
            try with_reducible rfl
          simp only [Act.put, List.setIfInBounds_toArray, List.set_cons_zero, List.set_cons_succ]
          refine wpAnyH_done (by kernel_rfl) ?_ _
          have HB9 := Lib.hid hB9
          clear hB9 hC8 hC9 T7 hHeld
          go_wp2
          go_ret
          exact ⟨rfl, HB9.out⟩
end Go.Proofs.Yteblimdbkiiaaaa
