/- server: New, by its reference. -/
import Derived.Test.YtldcihjddebciaaGreatVSdM
set_option linter.unusedSimpArgs false
set_option linter.unusedVariables false
set_option maxRecDepth 100000
set_option maxHeartbeats 4000000
namespace Go.Proofs.YtldcihjddebciaaGreat
open Go.RowKit
theorem Tryz.info_sub : (Tryz.prog.info? 111).map (fun i => (i.zero,i.size,i.bytes)) = some (some (.agg #[.int .u16 0,.int .i64 0]),2,16) := by kernel_rfl
theorem vnew_any (da : Option Addr) (dn dc : Nat) (db : List At) (mx : Int) (w : World) (hd : DbR w (.slice da dn dc) db) (hn : db.length = dn) :
 Calls Tryz.prog 22 #[.slice da dn dc,.int .i64 mx,.int .i64 2,.bool false,.int .i64 2,.slice none 0 0] w fun e w' => ∃ sv E,e = .returned (.tuple #[sv,.int .i64 E]) ∧ ((E ≠ 0 ∧ sv = .agg #[.slice none 0 0,.int .i64 0,.int .i64 0,.int .i64 0,.slice none 0 0,.int .i64 0,.bool false,.slice none 0 0,.slice none 0 0,.bool false,.int .i64 0]) ∨ (E = 0 ∧ 23 ≤ mx ∧ mx ≤ 517 ∧ Gdb db ∧ SvV w' sv ⟨db,23,mx,[]⟩)) ∧ Below w.heap.size w w' := by
 obtain ⟨i0,hi0,hi1,hi2,hi3⟩ := info_parts Tryz.info_at
 obtain ⟨j0,hj0,hj1,hj2,hj3⟩ := info_parts Tryz.info_sub
 have bR := Blk.new w 57 [.slice none 0 0,.int .i64 0,.int .i64 0,.int .i64 0,.slice none 0 0,.int .i64 0,.bool false,.slice none 0 0,.slice none 0 0,.bool false,.int .i64 0]
 have hB := (Below.refl w.heap.size w).alloc (Nat.le_refl _) (.cells #[.slice none 0 0,.int .i64 0,.int .i64 0,.int .i64 0,.slice none 0 0,.int .i64 0,.bool false,.slice none 0 0,.slice none 0 0,.bool false,.int .i64 0] 57)
 have hM : dn ≤ maxLen := by rw [← hn]; exact hd.dbs.1
 have HD := Lib.hid (And.intro hd hn)
 have HCK := Lib.hid (fun W (hW : Below w.heap.size w W) => check_any da dn dc db W (hd.dbs.below hW) hn)
 clear hd hn
 go_enter Tryz.func22,Tryz.ntmps22
 go_upto_region 1 with fail
 generalize hX : World.alloc w _ = V at bR hB ⊢
 clear hX
 go_upto_region 2 with (go_at_call 38; refine (HCK.out _ hB).mono ?_; rintro e w2 ⟨E,rfl,hE,hC⟩; have bR := bR.below hC; have hB := hB.trans (hC.mono hB.size); clear hC)
 have hth := bR.there 0 11 (by simp)
 have one : (#[.slice none 0 0,.int .i64 0,.int .i64 0,.int .i64 0,.slice none 0 0,.int .i64 0,.bool false,.slice none 0 0,.slice none 0 0,.bool false,.int .i64 0] : Array Value).all (·.oneCell') = true := by simp [Value.oneCell']
 have HE := Lib.hid hE
 clear hE HCK
 by_cases hE0 : E = 0
 rotate_left
 ·have g1 : (E != 0) = true := by simpa using hE0
  have HE0 := Lib.hid hE0
  clear hE0
  go_wp2_with (refine wpList_store_mid rfl 57 _ _ rfl w.heap.size 0 #[.slice none 0 0,.int .i64 0,.int .i64 0,.int .i64 0,.slice none 0 0,.int .i64 0,.bool false,.slice none 0 0,.slice none 0 0,.bool false,.int .i64 0] rfl rfl hth (by kernel_rfl) one ?_; simp only [Act.put]; generalize hW : World.setCells _ w.heap.size 0 _ = w9; have HW := Lib.hid hW; clear hW)
  obtain ⟨hg9,bR9⟩ := put_namedB bR HW.out rfl
  have hB := hB.grown hg9 hB.size (fun k hk => by cases hk; omega)
  have hl := run_loadVar_row (P := Tryz.prog) _ w.heap.size 57 57 _ (0,0) _ bR9 Tryz.underlying57 rfl (by kernel_rfl)
  refine bodyPost_ret (v := .tuple #[.agg #[.slice none 0 0,.int .i64 0,.int .i64 0,.int .i64 0,.slice none 0 0,.int .i64 0,.bool false,.slice none 0 0,.slice none 0 0,.bool false,.int .i64 0],.int .i64 E]) (by rw [results_cell_tmp rfl]; simp [asAddr,hl] <;> rfl) rfl ⟨_,_,rfl,.inl ⟨HE0.out,rfl⟩,hB⟩
 ·have hg := HE.out hE0
  subst hE0
  by_cases hlo : mx < 23
  ·have g1 : decide (mx < 23) = true := by simpa using hlo
   clear hlo hg
   go_wp2_with (refine wpList_store_mid rfl 57 _ _ rfl w.heap.size 0 #[.slice none 0 0,.int .i64 0,.int .i64 0,.int .i64 0,.slice none 0 0,.int .i64 0,.bool false,.slice none 0 0,.slice none 0 0,.bool false,.int .i64 0] rfl rfl hth (by kernel_rfl) one ?_; simp only [Act.put]; generalize hW : World.setCells _ w.heap.size 0 _ = w9; have HW := Lib.hid hW; clear hW)
   obtain ⟨hg9,bR9⟩ := put_namedB bR HW.out rfl
   have hB := hB.grown hg9 hB.size (fun k hk => by cases hk; omega)
   have hl := run_loadVar_row (P := Tryz.prog) _ w.heap.size 57 57 _ (0,0) _ bR9 Tryz.underlying57 rfl (by kernel_rfl)
   refine bodyPost_ret (v := .tuple #[.agg #[.slice none 0 0,.int .i64 0,.int .i64 0,.int .i64 0,.slice none 0 0,.int .i64 0,.bool false,.slice none 0 0,.slice none 0 0,.bool false,.int .i64 0],.int .i64 5]) (by rw [results_cell_tmp rfl]; simp [asAddr,hl] <;> rfl) rfl ⟨_,5,rfl,.inl ⟨by decide,rfl⟩,hB⟩
  have g1 : decide (mx < 23) = false := by simpa using hlo
  by_cases hhi : 517 < mx
  ·have g2 : decide (517 < mx) = true := by simpa using hhi
   clear hlo hhi hg
   go_wp2_with (refine wpList_store_mid rfl 57 _ _ rfl w.heap.size 0 #[.slice none 0 0,.int .i64 0,.int .i64 0,.int .i64 0,.slice none 0 0,.int .i64 0,.bool false,.slice none 0 0,.slice none 0 0,.bool false,.int .i64 0] rfl rfl hth (by kernel_rfl) one ?_; simp only [Act.put]; generalize hW : World.setCells _ w.heap.size 0 _ = w9; have HW := Lib.hid hW; clear hW)
   obtain ⟨hg9,bR9⟩ := put_namedB bR HW.out rfl
   have hB := hB.grown hg9 hB.size (fun k hk => by cases hk; omega)
   have hl := run_loadVar_row (P := Tryz.prog) _ w.heap.size 57 57 _ (0,0) _ bR9 Tryz.underlying57 rfl (by kernel_rfl)
   refine bodyPost_ret (v := .tuple #[.agg #[.slice none 0 0,.int .i64 0,.int .i64 0,.int .i64 0,.slice none 0 0,.int .i64 0,.bool false,.slice none 0 0,.slice none 0 0,.bool false,.int .i64 0],.int .i64 5]) (by rw [results_cell_tmp rfl]; simp [asAddr,hl] <;> rfl) rfl ⟨_,5,rfl,.inl ⟨by decide,rfl⟩,hB⟩
  have g2 : decide (517 < mx) = false := by simpa using hhi
  have HG := Lib.hid (And.intro hg (And.intro (show 23 ≤ mx by omega) (show mx ≤ 517 by omega)))
  clear hlo hhi hg hth one HE
  go_upto_region 7 with fail
  go_loop [15] (fun v => v = .int .i64 0) (fun _ => 0)
  case atStart => rfl
  case round =>
   subst hrel
   go_upto_region 15 with fail
   obtain ⟨qs,hqs,hqsr,hqbv⟩ := HD.out.1
   have hql : qs.length = dn := by rw [← HD.out.2,← hqs,List.length_map]
   rw [hql] at hqsr
   have hA := (Below.refl w2.heap.size w2).alloc (Nat.le_refl _) (.cells #[] 29)
   have hsra := SR.below (SR.below hqsr hB) hA
   have hby : dn * 56 ≤ 140737488355328 := by have h1 := HG.out.1.big; have h2 := HD.out.2; omega
   have hoz := own_zero w2 29 5 w2.heap.size (Nat.le_refl _)
   have HQ := Lib.hid (And.intro hqs (And.intro hqbv (And.intro hql hqsr)))
   have HB := Lib.hid (And.intro hB bR)
   clear hqs hqbv hql hqsr hM hB bR
   have hsl : ∀ (W : World),SR W (.slice none 0 0) 0 2 [] := fun W => SR.nil W 2
   go_wp2_with (first | (refine wpList_app_own0 rfl _ _ 22 rfl w2.heap.size 29 i0 _ 5 56 Tryz.underlying22 hi0 hi1 hi2 hi3 rfl (by decide) (.slice (some ⟨w2.heap.size,0,none⟩) 0 0) rfl hoz (.slice da dn dc) dn (qs.flatMap aenc) rfl hsra hby (by simp) ?_; intro l0 w3 hown3 hg3; obtain ⟨a,c,rfl⟩ := own_form hown3; have hB3 : Below w2.heap.size w2 w3 := hA.grown hg3 (by simp) (fun k hk => by simp [Value.ownBlock] at hk; omega); have HO3 := Lib.hid (And.intro hown3 hB3); clear hown3 hB3 hg3 hoz hA hsra) | (refine wpList_app0 rfl _ _ 54 rfl 111 j0 _ 2 16 Tryz.underlying54 hj0 hj1 hj2 hj3 rfl (by decide) w3.heap.size rfl (.slice none 0 0) 0 [] rfl (hsl _) (by omega) ?_; intro ua uc w5 hsr5 hc5 hB5 ho5; have hB5' := ((Below.refl w3.heap.size w3).alloc (Nat.le_refl _) (.cells #[] 111)).trans (hB5.mono (by simp)); have hB2 := HO3.out.2.trans (hB5'.mono HO3.out.2.size); have bR5 := HB.out.2.below hB2; have hth := bR5.there 0 11 (by simp); have one : (#[.slice a dn c,.int .i64 23,.int .i64 mx,.int .i64 2,.slice none 0 0,.int .i64 2,.bool false,.slice ua 0 uc,.slice none 0 0,.bool false,.int .i64 0] : Array Value).all (·.oneCell') = true := by simp [Value.oneCell']) | (refine wpList_store_mid rfl 57 _ _ rfl w.heap.size 0 #[.slice a dn c,.int .i64 23,.int .i64 mx,.int .i64 2,.slice none 0 0,.int .i64 2,.bool false,.slice ua 0 uc,.slice none 0 0,.bool false,.int .i64 0] rfl rfl hth (by kernel_rfl) one ?_; simp only [Act.put]; generalize hW : World.setCells _ w.heap.size 0 _ = w9; have HW := Lib.hid hW; clear hW))
   obtain ⟨hg9,bR9⟩ := put_namedB bR5 HW.out rfl
   have hB := HB.out.1.trans (hB2.mono HB.out.1.size)
   have hdb : DbR w5 (.slice a dn c) db := by
    obtain ⟨q1,q2,q3,q4⟩ := HQ.out
    have hall : ∀ q ∈ qs,BV w5 q.2 q.1.bs := fun q hq => (q2 q hq).below hB
    refine ⟨qs,q1,?_,hall⟩
    rw [q3]
    exact SR.of_own (own_below HO3.out.1 hB5') (aenc_one hall) (by unfold maxLen; have h1 := HG.out.1.big; have h2 := HD.out.2; omega)
   have hdb := hdb.kept (nox_code (by simp only [List.map_cons,List.map_nil,code]; decide) (by simp only [List.map_cons,List.map_nil,code]; decide) (by simp only [List.map_cons,List.map_nil,code]; decide) (by simp only [List.map_cons,List.map_nil,code]; decide) (by simp only [List.map_cons,List.map_nil,code]; decide)) bR5 hg9
   have hB := hB.grown hg9 hB.size (fun k hk => by cases hk; omega)
   have hl := run_loadVar_row (P := Tryz.prog) _ w.heap.size 57 57 _ (0,0) _ bR9 Tryz.underlying57 rfl (by kernel_rfl)
   refine bodyPost_ret (v := .tuple #[.agg #[.slice a dn c,.int .i64 23,.int .i64 mx,.int .i64 2,.slice none 0 0,.int .i64 2,.bool false,.slice ua 0 uc,.slice none 0 0,.bool false,.int .i64 0],.int .i64 0]) (by rw [results_cell_tmp rfl]; simp [asAddr,hl] <;> rfl) rfl ⟨_,0,rfl,.inr ⟨rfl,HG.out.2.1,HG.out.2.2,HG.out.1,DQ.svv (s := ⟨db,23,mx,[]⟩) ⟨hdb,QuR.nil _⟩⟩,hB⟩
end Go.Proofs.YtldcihjddebciaaGreat
