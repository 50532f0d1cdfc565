/- capture: arguments; few; CaptureWrites. -/
import Derived.Test.YtccknpdnapoboaaDoorCqG
import Derived.Test.YtccknpdnapoboaaDoorCqI
namespace Go.Proofs.YtccknpdnapoboaaDoor
open Go.RowKit

theorem Tryd.cells_int : Tryd.prog.cellsOf 3 = 1 := by kernel_rfl
theorem Tryd.cells_byte : Tryd.prog.cellsOf 5 = 1 := by kernel_rfl
theorem Tryd.cells_bytes : Tryd.prog.cellsOf 25 = 1 := by kernel_rfl
theorem Tryd.cells_tx : Tryd.prog.cellsOf 35 = 5 := by kernel_rfl
theorem Tryd.bytes_byte : Tryd.prog.bytesOf 5 = 1 := by kernel_rfl
theorem Tryd.bytes_tx : Tryd.prog.bytesOf 35 = 56 := by kernel_rfl
theorem rd_bytes {w : World} {v : Value} (h : Rd Tryd.prog w 25 [v]) : ∃ bs, BytesAt w v bs := by
  obtain ⟨u, e, hs⟩ := h.slIn Tryd.underlying25
  simp only [List.cons.injEq, and_true] at e
  subst e
  exact bytes_of_in Tryd.underlying5 Tryd.cells_byte Tryd.bytes_byte hs
theorem five_cp {w : World} (c0 c1 c2 c3 c4 : Value) (f0 : Rd Tryd.prog w 3 (([c0, c1, c2, c3, c4].drop 0).take (Tryd.prog.cellsOf 3))) (f1 : Rd Tryd.prog w 3 (([c0, c1, c2, c3, c4].drop 1).take (Tryd.prog.cellsOf 3)))
    (f2 : Rd Tryd.prog w 3 (([c0, c1, c2, c3, c4].drop 2).take (Tryd.prog.cellsOf 3))) (f3 : Rd Tryd.prog w 3 (([c0, c1, c2, c3, c4].drop 3).take (Tryd.prog.cellsOf 3))) (f4 : Rd Tryd.prog w 25 (([c0, c1, c2, c3, c4].drop 4).take (Tryd.prog.cellsOf 25))) :
    ∃ (t : Cp) (a : Option Addr) (c : Nat), [c0, c1, c2, c3, c4] = [.int .i64 t.t, .int .i64 t.c, .int .i64 t.f, .int .i64 t.k, .slice a t.bs.length c] ∧ BytesAt w (.slice a t.bs.length c) t.bs ∧ i64b t.t ∧ i64b t.c ∧ i64b t.f ∧ i64b t.k := by
  simp only [Tryd.cells_int, Tryd.cells_bytes, List.drop_succ_cons, List.drop_zero, List.take_succ_cons, List.take_zero] at f0 f1 f2 f3 f4
  obtain ⟨x0, e0, q0⟩ := f0.i64 Tryd.underlying3
  obtain ⟨x1, e1, q1⟩ := f1.i64 Tryd.underlying3
  obtain ⟨x2, e2, q2⟩ := f2.i64 Tryd.underlying3
  obtain ⟨x3, e3, q3⟩ := f3.i64 Tryd.underlying3
  obtain ⟨bs, hb⟩ := rd_bytes f4
  obtain ⟨a, c, rfl⟩ := hb.1.val
  simp only [List.cons.injEq, and_true] at e0 e1 e2 e3
  subst e0 e1 e2 e3
  exact ⟨⟨x0, x1, x2, x3, bs⟩, a, c, rfl, hb, q0, q1, q2, q3⟩
theorem rd_cp {w : World} (cs : List Value) (h : Rd Tryd.prog w 35 cs) : ∃ (t : Cp) (a : Option Addr) (c : Nat), cs = [.int .i64 t.t, .int .i64 t.c, .int .i64 t.f, .int .i64 t.k, .slice a t.bs.length c] ∧ BytesAt w (.slice a t.bs.length c) t.bs ∧ i64b t.t ∧ i64b t.c ∧ i64b t.f ∧ i64b t.k := by
  obtain ⟨hl, hf⟩ := h.struct Tryd.underlying35
  rw [Tryd.cells_tx] at hl
  obtain ⟨c0, c1, c2, c3, c4, rfl⟩ := list5 cs hl
  exact five_cp c0 c1 c2 c3 c4 (hf 0 _ rfl) (hf 1 _ rfl) (hf 2 _ rfl) (hf 3 _ rfl) (hf 4 _ rfl)
theorem arg_cps {w : World} {v : Value} (h : Arg Tryd.prog w 22 v) : ∃ ts, Cps w v ts ∧ ts.length * 56 ≤ 140737488355328 ∧ ∀ t ∈ ts, i64b t.t ∧ i64b t.c ∧ i64b t.f ∧ i64b t.k := by
  obtain ⟨l, h1, h2, h3⟩ := sr_of_in (α := Cp × Option Addr × Nat) (fun x => [.int .i64 x.1.t, .int .i64 x.1.c, .int .i64 x.1.f, .int .i64 x.1.k, .slice x.2.1 x.1.bs.length x.2.2]) (fun x => BytesAt w (.slice x.2.1 x.1.bs.length x.2.2) x.1.bs ∧ i64b x.1.t ∧ i64b x.1.c ∧ i64b x.1.f ∧ i64b x.1.k) 5 56 (fun _ => rfl)
    (fun x _ u hu => by simp at hu; rcases hu with rfl | rfl | rfl | rfl | rfl <;> rfl) (by decide) Tryd.cells_tx Tryd.bytes_tx (fun cs hcs => by obtain ⟨t, a, c, e, hb⟩ := rd_cp cs hcs; exact ⟨(t, a, c), e, hb⟩) (h.slIn Tryd.underlying22)
  unfold reachBytes at h2
  obtain ⟨q1, _, _, ao, cap, rfl, _, hc⟩ := h1
  refine ⟨l.map (·.1), ⟨by rw [List.length_map]; exact q1, ao, cap, by rw [List.length_map], fun h0 => ?_⟩, by rw [List.length_map]; omega, fun t ht => by
    obtain ⟨x, hx, rfl⟩ := List.mem_map.1 ht
    exact (h3 x hx).2⟩
  rw [List.length_map] at h0
  obtain ⟨b, off, rfl, hb, hcell⟩ := hc h0
  refine ⟨b, off, rfl, hb, fun k hk => ?_⟩
  have hk' : k < l.length := by simpa using hk
  have g := fun j (hj : j < 5) => flat_get (fun x : Cp × Option Addr × Nat => [Value.int .i64 x.1.t, .int .i64 x.1.c, .int .i64 x.1.f, .int .i64 x.1.k, .slice x.2.1 x.1.bs.length x.2.2]) 5 (fun _ => rfl) l k j hk' hj
  simp only [List.getElem_map]
  exact ⟨l[k].2.1, l[k].2.2, hcell _ _ (g 0 (by decide)), hcell _ _ (g 1 (by decide)), hcell _ _ (g 2 (by decide)), hcell _ _ (g 3 (by decide)), hcell _ _ (g 4 (by decide)), (h3 _ (List.getElem_mem hk')).1⟩

theorem few_any (a : Option Addr) (n c : Nat) (w : World) : Calls Tryd.prog 10 #[.slice a n c] w fun e w' => e = .returned (.bool (decide (n ≤ 64))) ∧ w = w' := by
  obtain ⟨B, hB⟩ : ∃ B, decide (n ≤ 64) = B := ⟨_, rfl⟩
  have hB' : decide ((n : Int) ≤ (64 : Int)) = B := by rw [← hB]; congr 1; simp only [eq_iff_iff]; omega
  rw [hB]
  go_enter Tryd.func10, Tryd.ntmps10
  go_wp2
  go_ret
  exact ⟨rfl, rfl⟩
set_option linter.unusedSimpArgs false in
set_option linter.unusedVariables false in
set_option maxRecDepth 100000 in
set_option maxHeartbeats 4000000 in
theorem captureWrites_walk (v0 : Value) (w : World) (a0 : Arg Tryd.prog w 22 v0) (hs : Sums w) (hp : Pow10 w) :
    Calls Tryd.prog 3 #[v0] w fun e w' => e = .returned (.bool true) ∧ Below w.heap.size w w' := by
  obtain ⟨l, hl, hbd, _⟩ := arg_cps a0
  clear a0
  have HLV := Lib.hid (lives_any w hs hp)
  have HS := Lib.hid hs
  obtain ⟨n, hn⟩ : ∃ n, l.length = n := ⟨_, rfl⟩
  rw [hn] at hbd
  have hv : ∃ a c, v0 = .slice a n c := by
    obtain ⟨_, ao, cap, rfl, _⟩ := hl
    exact ⟨ao, cap, by rw [hn]⟩
  obtain ⟨a, c, rfl⟩ := hv
  have HC := Lib.hid hl
  have HN := Lib.hid hn
  clear hs hp hl hn
  by_cases hbig : n ≤ 64
  rotate_left
  · have t1 : decide (n ≤ 64) = false := by simpa using hbig
    go_enter Tryd.func3, Tryd.ntmps3
    go_wp2_with fail
    refine HLV.out.mono ?_
    rintro e w1 ⟨rfl, hB1⟩
    have HB1 := Lib.hid hB1
    clear hB1 HLV
    go_wp2_with fail
    refine (few_any a n c w1).mono ?_
    rintro e w' ⟨rfl, rfl⟩
    go_wp2
    go_ret
    exact ⟨rfl, HB1.out⟩
  have t1 : decide (n ≤ 64) = true := by simpa using hbig
  go_enter Tryd.func3, Tryd.ntmps3
  go_wp2_with fail
  refine HLV.out.mono ?_
  rintro e w1 ⟨rfl, hB1⟩
  have HB1 := Lib.hid hB1
  clear hB1 HLV
  go_wp2_with fail
  refine (few_any a n c w1).mono ?_
  rintro e w' ⟨rfl, rfl⟩
  have HCP := Lib.hid (copy_any (.slice a n c) l w1 (HC.out.below HB1.out) (by rw [HN.out]; omega))
  go_wp2_with fail
  refine HCP.out.mono ?_
  rintro e w2 ⟨v2, vs2, rfl, hinv, hB2⟩
  have HB2 := Lib.hid (HB1.out.trans (hB2.mono HB1.out.size))
  have HWR := Lib.hid (write_any v2 l w2 (HS.out.keep HB2.out) hinv.cps (by rw [HN.out]; omega))
  clear hinv hB2 HCP HB1
  go_wp2_with fail
  refine HWR.out.mono ?_
  rintro e w3 ⟨v3, rfl, hB3, hok3, hbad3⟩
  have HB3 := Lib.hid (HB2.out.trans (hB3.mono HB2.out.size))
  have HRW := Lib.hid (rwrite_any (.slice a n c) l w3 (HC.out.below HB3.out) (by rw [HN.out]; omega))
  have HOK := Lib.hid hok3
  have HBD := Lib.hid hbad3
  clear hB3 HB2 HWR hok3 hbad3
  go_wp2_with fail
  refine HRW.out.mono ?_
  rintro e w4 ⟨v4, rfl, hB4, hok4, hbad4⟩
  have HB4 := Lib.hid (HB3.out.trans (hB4.mono HB3.out.size))
  have hby : ∃ bs, BytesAt w4 v3 bs ∧ BytesAt w4 v4 bs := by
    by_cases h0 : cpW l l.length = 0
    · exact ⟨_, (HOK.out h0).1.below hB4, (hok4 h0).1⟩
    · rw [HBD.out h0, hbad4 h0]
      exact ⟨[], bytesAt_nil w4, bytesAt_nil w4⟩
  obtain ⟨bs, hb3, hb4⟩ := hby
  have k3 := run_convert_b (P := Tryd.prog) hb3 25 5 9 Tryd.underlying25 Tryd.underlying5 Tryd.underlying9
  have k4 := run_convert_b (P := Tryd.prog) hb4 25 5 9 Tryd.underlying25 Tryd.underlying5 Tryd.underlying9
  obtain ⟨X, hX⟩ : ∃ X, strB bs = X := ⟨_, rfl⟩
  obtain ⟨E, hE⟩ : ∃ E, cpW l l.length = E := ⟨_, rfl⟩
  rw [hX] at k3 k4
  rw [hE]
  have hq : (X.toList == X.toList) = true := by simp
  clear hB4 HB3 HRW hok4 hbad4 hb3 hb4 HOK HBD hE hX
  go_wp2
  go_ret
  exact ⟨rfl, HB4.out⟩
end Go.Proofs.YtccknpdnapoboaaDoor
