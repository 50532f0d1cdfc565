/- client: the law ClientNews walked. -/
import Derived.Test.YtldcihjddebciaaCnE
import Derived.Test.YtldcihjddebciaaFrame2
namespace Go.Proofs.Ytldcihjddebciaa
open Go.RowKit

theorem ok_Z : ClOk cZ := ⟨by simp [cZ], by simp [cZ], by simp [cZ, tk0], by simp [cZ, tk0], by simp [cZ, pd0], ⟨0, rfl, by omega⟩, by simp [cZ, tk0]⟩
/-- both functions New: the same client, the same error -/
theorem news (mx : Int) : ∃ (V : Value) (c : Cl) (E : Int), (∀ w, Calls Try.prog 6 #[.int .i64 mx] w fun e w' => e = .returned (.tuple #[V, .int .i64 E]) ∧ Below w.heap.size w w') ∧
    (∀ w, Calls Try.prog 7 #[.int .i64 mx] w fun e w' => e = .returned (.tuple #[V, .int .i64 E]) ∧ Below w.heap.size w w') ∧ ClOk c ∧ ∀ w, ClV w V c := by
  by_cases h1 : mx < 23
  · exact ⟨_, cZ, 5, fun w => new_low mx w h1, fun w => rnew_low mx w h1, ok_Z, fun w => clv_zero w⟩
  · by_cases h2 : 517 < mx
    · exact ⟨_, cZ, 5, fun w => new_high mx w (by omega) h2, fun w => rnew_high mx w (by omega) h2, ok_Z, fun w => clv_zero w⟩
    · exact ⟨_, cN mx, 0, fun w => new_ok mx w (by omega) (by omega), fun w => rnew_ok mx w (by omega) (by omega), ok_N mx, fun w => clv_new w mx⟩
set_option linter.unusedSimpArgs false in
set_option linter.unusedVariables false in
set_option maxRecDepth 100000 in
set_option maxHeartbeats 4000000 in
theorem clientNews_walk (v0 : Value) (w : World) (a0 : Arg Try.prog w 3 v0) :
    Calls Try.prog 3 #[v0] w fun e w' => e = .returned (.bool true) ∧ Below w.heap.size w w' := by
  obtain ⟨mx, rfl, -, -⟩ := a0.i64 Try.underlying3
  obtain ⟨V, c, E, n1, n2, hok, hv⟩ := news mx
  obtain ⟨k, rfl, one⟩ := (hv w).kv
  go_enter Try.func3, Try.ntmps3
  go_wp2_with fail
  refine (n1 w).mono ?_
  rintro e w1a ⟨rfl, hBa⟩
  have bX := Blk.new w1a 35 [.int .i64 0, .int .i64 0, .int .i64 0, .int .u16 0, .int .u16 0, .int .u16 0, .slice none 0 0, .int .i64 0, .slice none 0 0, .bool false, .int .i64 0, .int .i64 0, .int .u16 0, .int .u16 0, .int .u64 0, .int .u64 0, .int .i64 0, .int .i64 0, .int .i64 0, .bool false, .slice none 0 0, .slice none 0 0, .bool false, .int .i64 0, .bool false, .slice none 0 0]
  have hth := bX.there 0 26 (by simp)
  have HBa := Lib.hid hBa
  clear hBa
  go_upto_region 2 with (refine wpList_store_mid rfl 35 _ _ rfl w1a.heap.size 0 (k.cells c).toArray rfl rfl hth (by kernel_rfl) one ?_; simp only [Act.put]; generalize hW : World.setCells _ w1a.heap.size 0 _ = w1; have HW := Lib.hid hW; clear hW)
  have bX1 := bX.putAll (vs := k.cells c) rfl
  have hg2 := setCells_grown w1a.heap.size (k.cells c) 0 (w1a.alloc (.cells #[.int .i64 0, .int .i64 0, .int .i64 0, .int .u16 0, .int .u16 0, .int .u16 0, .slice none 0 0, .int .i64 0, .slice none 0 0, .bool false, .int .i64 0, .int .i64 0, .int .u16 0, .int .u16 0, .int .u64 0, .int .u64 0, .int .i64 0, .int .i64 0, .int .i64 0, .bool false, .slice none 0 0, .slice none 0 0, .bool false, .int .i64 0, .bool false, .slice none 0 0] 35))
  rw [show World.setCells _ w1a.heap.size 0 (k.cells c) = w1 from HW.out] at bX1 hg2
  have hA := HBa.out.trans ((((Below.refl w1a.heap.size w1a).alloc (Nat.le_refl _) _).grown hg2 (by simp) (fun k hk => by cases hk; exact Nat.le_refl _)).mono HBa.out.size)
  have hB1 := hA
  clear hA
  obtain ⟨X1, hX1⟩ : ∃ x, w1a.heap.size = x := ⟨_, rfl⟩
  rw [hX1] at bX1 ⊢
  clear bX hth HW hg2 hX1 HBa
  go_wp2_with fail
  refine (n2 w1).mono ?_
  rintro e w2a ⟨rfl, hBa⟩
  have bX := Blk.new w2a 35 [.int .i64 0, .int .i64 0, .int .i64 0, .int .u16 0, .int .u16 0, .int .u16 0, .slice none 0 0, .int .i64 0, .slice none 0 0, .bool false, .int .i64 0, .int .i64 0, .int .u16 0, .int .u16 0, .int .u64 0, .int .u64 0, .int .i64 0, .int .i64 0, .int .i64 0, .bool false, .slice none 0 0, .slice none 0 0, .bool false, .int .i64 0, .bool false, .slice none 0 0]
  have hth := bX.there 0 26 (by simp)
  have HBa := Lib.hid hBa
  clear hBa
  go_upto_region 3 with (refine wpList_store_mid rfl 35 _ _ rfl w2a.heap.size 0 (k.cells c).toArray rfl rfl hth (by kernel_rfl) one ?_; simp only [Act.put]; generalize hW : World.setCells _ w2a.heap.size 0 _ = w2; have HW := Lib.hid hW; clear hW)
  have bX2 := bX.putAll (vs := k.cells c) rfl
  have hg2 := setCells_grown w2a.heap.size (k.cells c) 0 (w2a.alloc (.cells #[.int .i64 0, .int .i64 0, .int .i64 0, .int .u16 0, .int .u16 0, .int .u16 0, .slice none 0 0, .int .i64 0, .slice none 0 0, .bool false, .int .i64 0, .int .i64 0, .int .u16 0, .int .u16 0, .int .u64 0, .int .u64 0, .int .i64 0, .int .i64 0, .int .i64 0, .bool false, .slice none 0 0, .slice none 0 0, .bool false, .int .i64 0, .bool false, .slice none 0 0] 35))
  rw [show World.setCells _ w2a.heap.size 0 (k.cells c) = w2 from HW.out] at bX2 hg2
  have hA := HBa.out.trans ((((Below.refl w2a.heap.size w2a).alloc (Nat.le_refl _) _).grown hg2 (by simp) (fun k hk => by cases hk; exact Nat.le_refl _)).mono HBa.out.size)
  have bX1 := bX1.below hA
  have hB2 := hB1.trans (hA.mono hB1.size)
  clear hA hB1
  obtain ⟨X2, hX2⟩ : ∃ x, w2a.heap.size = x := ⟨_, rfl⟩
  rw [hX2] at bX2 ⊢
  clear bX hth HW hg2 hX2 HBa
  have hr1 := bX1.range 0 (k.cells c) (fun j v hv => by rw [Nat.zero_add]; exact hv)
  have hr2 := bX2.range 0 (k.cells c) (fun j v hv => by rw [Nat.zero_add]; exact hv)
  clear bX1 bX2
  go_wp2_with (first | (refine wpList_load_midG (by rfl) 35 _ rfl X1 0 rfl (k.cells c) _ hr1 Try.underlying35 rfl (by kernel_rfl) ?_) | (refine wpList_load_midG (by rfl) 35 _ rfl X2 0 rfl (k.cells c) _ hr2 Try.underlying35 rfl (by kernel_rfl) ?_))
  refine (sameClient_eq c _ _ w2 (hv w2) (hv w2) hok).mono ?_
  rintro e w3 ⟨rfl, hB3⟩
  have hB4 := hB2.trans (hB3.mono hB2.size)
  clear hr1 hr2 hB3 hB2
  go_wp2_with fail
  refine (example_any w3).mono ?_
  rintro e w4 ⟨rfl, hB5⟩
  go_wp2
  go_ret
  exact ⟨rfl, hB4.trans (hB5.mono hB4.size)⟩
end Go.Proofs.Ytldcihjddebciaa
