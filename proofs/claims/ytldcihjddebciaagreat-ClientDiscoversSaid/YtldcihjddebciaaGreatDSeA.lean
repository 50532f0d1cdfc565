/- server: New, by its reference. And what follows it. -/
import Derived.Test.YtldcihjddebciaaGreatDSdM
import Derived.Test.YtldcihjddebciaaGreatDSdH
import Derived.Maps.AppendAt
set_option linter.unusedSimpArgs false
set_option linter.unusedVariables false
set_option maxRecDepth 100000
set_option maxHeartbeats 8000000
namespace Go.Proofs.YtldcihjddebciaaGreat
open Go.RowKit
theorem Tryz.info_sub : (Tryz.prog.info? 111).map (fun i => (i.zero,i.size,i.bytes)) = some (some (.agg #[.int .u16 0,.int .i64 0]),2,16) := by kernel_rfl
theorem vnew_any (da : Option Addr) (dn dc : Nat) (db : List At) (mx : Int) (w : World) (hd : DbR w (.slice da dn dc) db) (hn : db.length = dn) :
 Calls Tryz.prog 22 #[.slice da dn dc,.int .i64 mx,.int .i64 2,.bool false,.int .i64 2,.slice none 0 0] w fun e w' => ∃ sv E,e = .returned (.tuple #[sv,.int .i64 E]) ∧ ((E ≠ 0 ∧ sv = .agg #[.slice none 0 0,.int .i64 0,.int .i64 0,.int .i64 0,.slice none 0 0,.int .i64 0,.bool false,.slice none 0 0,.slice none 0 0,.bool false,.int .i64 0]) ∨ (E = 0 ∧ 23 ≤ mx ∧ mx ≤ 517 ∧ Gdb db ∧ SvV w' sv ⟨db,23,mx,[]⟩)) ∧ Below w.heap.size w w' := by
 obtain ⟨i0,hi0,hi1,hi2,hi3⟩ := info_parts Tryz.info_at
 obtain ⟨j0,hj0,hj1,hj2,hj3⟩ := info_parts Tryz.info_sub
 have bR := Blk.new w 57 [.slice none 0 0,.int .i64 0,.int .i64 0,.int .i64 0,.slice none 0 0,.int .i64 0,.bool false,.slice none 0 0,.slice none 0 0,.bool false,.int .i64 0]
 have hB := (Below.refl w.heap.size w).alloc (Nat.le_refl _) (.cells #[.slice none 0 0,.int .i64 0,.int .i64 0,.int .i64 0,.slice none 0 0,.int .i64 0,.bool false,.slice none 0 0,.slice none 0 0,.bool false,.int .i64 0] 57)
 have hM : dn ≤ maxLen := by rw [← hn]; exact hd.dbs.1
 have HD := Lib.hid (And.intro hd hn)
 have HCK := Lib.hid (fun W (hW : Below w.heap.size w W) => check_any da dn dc db W (hd.dbs.below hW) hn)
 clear hd hn
 go_enter Tryz.func22,Tryz.ntmps22
 go_upto_region 1 with fail
 generalize hX : World.alloc w _ = V at bR hB ⊢
 clear hX
 go_upto_region 2 with (go_at_call 38; refine (HCK.out _ hB).mono ?_; rintro e w2 ⟨E,rfl,hE,hC⟩; have bR := bR.below hC; have hB := hB.trans (hC.mono hB.size); clear hC)
 have hth := bR.there 0 11 (by simp)
 have one : (#[.slice none 0 0,.int .i64 0,.int .i64 0,.int .i64 0,.slice none 0 0,.int .i64 0,.bool false,.slice none 0 0,.slice none 0 0,.bool false,.int .i64 0] : Array Value).all (·.oneCell') = true := by simp [Value.oneCell']
 have HE := Lib.hid hE
 clear hE HCK
 by_cases hE0 : E = 0
 rotate_left
 ·have g1 : (E != 0) = true := by simpa using hE0
  have HE0 := Lib.hid hE0
  clear hE0
  go_wp2_with (refine wpList_store_mid rfl 57 _ _ rfl w.heap.size 0 #[.slice none 0 0,.int .i64 0,.int .i64 0,.int .i64 0,.slice none 0 0,.int .i64 0,.bool false,.slice none 0 0,.slice none 0 0,.bool false,.int .i64 0] rfl rfl hth (by kernel_rfl) one ?_; simp only [Act.put]; generalize hW : World.setCells _ w.heap.size 0 _ = w9; have HW := Lib.hid hW; clear hW)
  obtain ⟨hg9,bR9⟩ := put_namedB bR HW.out rfl
  have hB := hB.grown hg9 hB.size (fun k hk => by cases hk; omega)
  have hl := run_loadVar_row (P := Tryz.prog) _ w.heap.size 57 57 _ (0,0) _ bR9 Tryz.underlying57 rfl (by kernel_rfl)
  refine bodyPost_ret (v := .tuple #[.agg #[.slice none 0 0,.int .i64 0,.int .i64 0,.int .i64 0,.slice none 0 0,.int .i64 0,.bool false,.slice none 0 0,.slice none 0 0,.bool false,.int .i64 0],.int .i64 E]) (by rw [results_cell_tmp rfl]; simp [asAddr,hl] <;> rfl) rfl ⟨_,_,rfl,.inl ⟨HE0.out,rfl⟩,hB⟩
 ·have hg := HE.out hE0
  subst hE0
  by_cases hlo : mx < 23
  ·have g1 : decide (mx < 23) = true := by simpa using hlo
   clear hlo hg
   go_wp2_with (refine wpList_store_mid rfl 57 _ _ rfl w.heap.size 0 #[.slice none 0 0,.int .i64 0,.int .i64 0,.int .i64 0,.slice none 0 0,.int .i64 0,.bool false,.slice none 0 0,.slice none 0 0,.bool false,.int .i64 0] rfl rfl hth (by kernel_rfl) one ?_; simp only [Act.put]; generalize hW : World.setCells _ w.heap.size 0 _ = w9; have HW := Lib.hid hW; clear hW)
   obtain ⟨hg9,bR9⟩ := put_namedB bR HW.out rfl
   have hB := hB.grown hg9 hB.size (fun k hk => by cases hk; omega)
   have hl := run_loadVar_row (P := Tryz.prog) _ w.heap.size 57 57 _ (0,0) _ bR9 Tryz.underlying57 rfl (by kernel_rfl)
   refine bodyPost_ret (v := .tuple #[.agg #[.slice none 0 0,.int .i64 0,.int .i64 0,.int .i64 0,.slice none 0 0,.int .i64 0,.bool false,.slice none 0 0,.slice none 0 0,.bool false,.int .i64 0],.int .i64 5]) (by rw [results_cell_tmp rfl]; simp [asAddr,hl] <;> rfl) rfl ⟨_,5,rfl,.inl ⟨by decide,rfl⟩,hB⟩
  have g1 : decide (mx < 23) = false := by simpa using hlo
  by_cases hhi : 517 < mx
  ·have g2 : decide (517 < mx) = true := by simpa using hhi
   clear hlo hhi hg
   go_wp2_with (refine wpList_store_mid rfl 57 _ _ rfl w.heap.size 0 #[.slice none 0 0,.int .i64 0,.int .i64 0,.int .i64 0,.slice none 0 0,.int .i64 0,.bool false,.slice none 0 0,.slice none 0 0,.bool false,.int .i64 0] rfl rfl hth (by kernel_rfl) one ?_; simp only [Act.put]; generalize hW : World.setCells _ w.heap.size 0 _ = w9; have HW := Lib.hid hW; clear hW)
   obtain ⟨hg9,bR9⟩ := put_namedB bR HW.out rfl
   have hB := hB.grown hg9 hB.size (fun k hk => by cases hk; omega)
   have hl := run_loadVar_row (P := Tryz.prog) _ w.heap.size 57 57 _ (0,0) _ bR9 Tryz.underlying57 rfl (by kernel_rfl)
   refine bodyPost_ret (v := .tuple #[.agg #[.slice none 0 0,.int .i64 0,.int .i64 0,.int .i64 0,.slice none 0 0,.int .i64 0,.bool false,.slice none 0 0,.slice none 0 0,.bool false,.int .i64 0],.int .i64 5]) (by rw [results_cell_tmp rfl]; simp [asAddr,hl] <;> rfl) rfl ⟨_,5,rfl,.inl ⟨by decide,rfl⟩,hB⟩
  have g2 : decide (517 < mx) = false := by simpa using hhi
  have HG := Lib.hid (And.intro hg (And.intro (show 23 ≤ mx by omega) (show mx ≤ 517 by omega)))
  clear hlo hhi hg hth one HE
  go_upto_region 7 with fail
  go_loop [15] (fun v => v = .int .i64 0) (fun _ => 0)
  case atStart => rfl
  case round =>
   subst hrel
   go_upto_region 15 with fail
   obtain ⟨qs,hqs,hqsr,hqbv⟩ := HD.out.1
   have hql : qs.length = dn := by rw [← HD.out.2,← hqs,List.length_map]
   rw [hql] at hqsr
   have hA := (Below.refl w2.heap.size w2).alloc (Nat.le_refl _) (.cells #[] 29)
   have hsra := SR.below (SR.below hqsr hB) hA
   have hby : dn * 56 ≤ 140737488355328 := by have h1 := HG.out.1.big; have h2 := HD.out.2; omega
   have hoz := own_zero w2 29 5 w2.heap.size (Nat.le_refl _)
   have HQ := Lib.hid (And.intro hqs (And.intro hqbv (And.intro hql hqsr)))
   have HB := Lib.hid (And.intro hB bR)
   clear hqs hqbv hql hqsr hM hB bR
   have hsl : ∀ (W : World),SR W (.slice none 0 0) 0 2 [] := fun W => SR.nil W 2
   go_wp2_with (first | (refine wpList_app_own0 rfl _ _ 22 rfl w2.heap.size 29 i0 _ 5 56 Tryz.underlying22 hi0 hi1 hi2 hi3 rfl (by decide) (.slice (some ⟨w2.heap.size,0,none⟩) 0 0) rfl hoz (.slice da dn dc) dn (qs.flatMap aenc) rfl hsra hby (by simp) ?_; intro l0 w3 hown3 hg3; obtain ⟨a,c,rfl⟩ := own_form hown3; have hB3 : Below w2.heap.size w2 w3 := hA.grown hg3 (by simp) (fun k hk => by simp [Value.ownBlock] at hk; omega); have HO3 := Lib.hid (And.intro hown3 hB3); clear hown3 hB3 hg3 hoz hA hsra) | (refine wpList_app0 rfl _ _ 54 rfl 111 j0 _ 2 16 Tryz.underlying54 hj0 hj1 hj2 hj3 rfl (by decide) w3.heap.size rfl (.slice none 0 0) 0 [] rfl (hsl _) (by omega) ?_; intro ua uc w5 hsr5 hc5 hB5 ho5; have hB5' := ((Below.refl w3.heap.size w3).alloc (Nat.le_refl _) (.cells #[] 111)).trans (hB5.mono (by simp)); have hB2 := HO3.out.2.trans (hB5'.mono HO3.out.2.size); have bR5 := HB.out.2.below hB2; have hth := bR5.there 0 11 (by simp); have one : (#[.slice a dn c,.int .i64 23,.int .i64 mx,.int .i64 2,.slice none 0 0,.int .i64 2,.bool false,.slice ua 0 uc,.slice none 0 0,.bool false,.int .i64 0] : Array Value).all (·.oneCell') = true := by simp [Value.oneCell']) | (refine wpList_store_mid rfl 57 _ _ rfl w.heap.size 0 #[.slice a dn c,.int .i64 23,.int .i64 mx,.int .i64 2,.slice none 0 0,.int .i64 2,.bool false,.slice ua 0 uc,.slice none 0 0,.bool false,.int .i64 0] rfl rfl hth (by kernel_rfl) one ?_; simp only [Act.put]; generalize hW : World.setCells _ w.heap.size 0 _ = w9; have HW := Lib.hid hW; clear hW))
   obtain ⟨hg9,bR9⟩ := put_namedB bR5 HW.out rfl
   have hB := HB.out.1.trans (hB2.mono HB.out.1.size)
   have hdb : DbR w5 (.slice a dn c) db := by
    obtain ⟨q1,q2,q3,q4⟩ := HQ.out
    have hall : ∀ q ∈ qs,BV w5 q.2 q.1.bs := fun q hq => (q2 q hq).below hB
    refine ⟨qs,q1,?_,hall⟩
    rw [q3]
    exact SR.of_own (own_below HO3.out.1 hB5') (aenc_one hall) (by unfold maxLen; have h1 := HG.out.1.big; have h2 := HD.out.2; omega)
   have hdb := hdb.kept (nox_code (by simp only [List.map_cons,List.map_nil,code]; decide) (by simp only [List.map_cons,List.map_nil,code]; decide) (by simp only [List.map_cons,List.map_nil,code]; decide) (by simp only [List.map_cons,List.map_nil,code]; decide) (by simp only [List.map_cons,List.map_nil,code]; decide)) bR5 hg9
   have hB := hB.grown hg9 hB.size (fun k hk => by cases hk; omega)
   have hl := run_loadVar_row (P := Tryz.prog) _ w.heap.size 57 57 _ (0,0) _ bR9 Tryz.underlying57 rfl (by kernel_rfl)
   refine bodyPost_ret (v := .tuple #[.agg #[.slice a dn c,.int .i64 23,.int .i64 mx,.int .i64 2,.slice none 0 0,.int .i64 2,.bool false,.slice ua 0 uc,.slice none 0 0,.bool false,.int .i64 0],.int .i64 0]) (by rw [results_cell_tmp rfl]; simp [asAddr,hl] <;> rfl) rfl ⟨_,0,rfl,.inr ⟨rfl,HG.out.2.1,HG.out.2.2,HG.out.1,DQ.svv (s := ⟨db,23,mx,[]⟩) ⟨hdb,QuR.nil _⟩⟩,hB⟩
theorem Tryz.info_fd : (Tryz.prog.info? 39).map (fun i => (i.zero,i.size,i.bytes)) = some (some (.agg #[.int .u16 0,.int .u16 0,.int .u16 0,.int .i64 0,.int .u64 0,.int .u64 0]),6,32) := by kernel_rfl
/-- what is found at a place -/
def fdAt (db : List At) (i : Nat) : Option Fd :=
 if 0 < i ∧ chA db (i - 1) = true then none else
 if svA db i = true then some ⟨(atI db i).ha,lastOf (atI db i).ha (db.drop (i + 1)),0,0,((decR (atI db i).bs).1 : Nat),((decR (atI db i).bs).2.1 : Nat)⟩ else
 if chA db i = true then some ⟨(atI db i).ha,0,(chP (atI db i).bs).2.1,(chP (atI db i).bs).1,(chP (atI db i).bs).2.2.1,(chP (atI db i).bs).2.2.2.1⟩ else
  some ⟨(atI db i).ha,0,0,0,(atI db i).hi,(atI db i).lo⟩
def fdTo (db : List At) (k : Nat) : List Fd := (List.range k).filterMap (fdAt db)
def fdL (db : List At) : List Fd := fdTo db db.length
theorem fdTo_succ (db : List At) (k : Nat) : fdTo db (k + 1) = fdTo db k ++ (match fdAt db k with | some x => [x] | none => []) := by
 unfold fdTo
 rw [List.range_succ,List.filterMap_append]
 congr 1
 cases h : fdAt db k <;> simp [h]
theorem drop_at {db : List At} {k : Nat} (h : k < db.length) : db.drop k = atI db k :: db.drop (k + 1) := by
 rw [List.drop_eq_getElem_cons h,atI_get h]
theorem group_any (a : Option Addr) (n c : Nat) (db : List At) (i : Nat) (H : Int) (w : World) (h : Dbs w (.slice a n c) db) (hn : db.length = n) (hi : i < n) (hm : n ≤ 1000) (hg : Gdb db) (hsv : svA db i = true) (hH : (atI db i).ha = H) :
 Calls Tryz.prog 25 #[.slice a n c,.int .u16 H] w fun e w' => e = .returned (.tuple #[.int .u16 (lastOf H (db.drop (i + 1))),.bool true]) ∧ Below w.heap.size w w' := by
 have hfi : fI db H = (i : Nat) := by
  unfold fI
  rw [← hH,findN_at hg (by omega),if_pos (by omega)]
 have hfa := find_any a n c db H w h hn hm
 rw [hfi] at hfa
 obtain ⟨R,hR⟩ : ∃ R,lastOf H (db.drop (i + 1)) = R := ⟨_,rfl⟩
 rw [hR]
 have HN := Lib.hid hn
 have HFA := Lib.hid hfa
 have HR := Lib.hid hR
 obtain ⟨b,off,rfl,hb,hat⟩ := h.at hn (by omega)
 have HAT := Lib.hid hat
 have hB := Below.refl w.heap.size w
 obtain ⟨ra,rc,d0,d1,d2,d3,d4,hcap,hby⟩ := (HAT.out (i) (by omega)).below hB
 obtain ⟨⟨ha,hh,lo,pe,bs⟩,he⟩ : ∃ r,atI db (i) = r := ⟨_,rfl⟩
 rw [he] at d0 d1 d2 d3 d4 hby hcap
 simp only at d0 d1 d2 d3 d4 hby hcap
 obtain ⟨L,hL⟩ : ∃ L,bs.length = L := ⟨_,rfl⟩
 rw [hL] at d4 hby hcap
 unfold svA at hsv
 rw [he] at hsv
 simp only at hsv
 have hs1 := fun W => isSv_any ha hh lo pe (.slice ra L rc) W
 simp only [hsv] at hs1
 have HS1 := Lib.hid hs1
 have hi0 : (0 : Int) ≤ (i : Int) := by omega
 have hi1 : (i : Int) < (n : Int) := by omega
 have g1 : decide ((i : Int) < 0) = false := by simp
 have w1 : IntKind.i64.wrap ((i : Int) + 1) = ((i + 1 : Nat) : Int) := by rw [IntWalk.i64_in _ (by omega)]; omega
 clear h hn hfi hfa hR hat he hsv hs1 hby hcap hL hH hg
 go_enter Tryz.func25,Tryz.ntmps25
 go_wp2_with fail
 refine HFA.out.mono ?_
 rintro e w' ⟨rfl,rfl⟩
 go_wp2_with fail
 refine (HS1.out _).mono ?_
 rintro e w2 ⟨rfl,hB2⟩
 have HB2 := Lib.hid hB2
 clear d0 d1 d2 d3 d4 hB hB2
 go_wp2_with fail
 go_loopw [7,8] (fun l v W => ∃ (k : Nat) (lv : Int),v = .int .i64 k ∧ k ≤ n ∧ l = .int .u16 lv ∧ Hid (lastOf lv (db.drop k) = R) ∧ Below w.heap.size w W) (fun _ v _ => n - (intOf v).toNat)
 case atStart => exact ⟨i + 1,H,rfl,by omega,rfl,HR,HB2.out⟩
 case round =>
  obtain ⟨k,lv,rfl,hk,rfl,hrl,hB⟩ := hrel
  by_cases hlt : k < n
  ·have g2 : decide (k < n) = true := by simpa using hlt
   have g2i : decide ((k : Int) < (n : Int)) = true := by simp; omega
   have hdr := drop_at (db := db) (k := k) (by rw [HN.out]; exact hlt)
   have hrl2 := hrl.out
   rw [hdr] at hrl2
   obtain ⟨ra2,rc2,d02,d12,d22,d32,d42,hcap2,hby2⟩ := (HAT.out (k) (by omega)).below hB
   obtain ⟨⟨ha2,hh2,lo2,pe2,bs2⟩,he2⟩ : ∃ r,atI db (k) = r := ⟨_,rfl⟩
   rw [he2] at d02 d12 d22 d32 d42 hby2 hcap2
   simp only at d02 d12 d22 d32 d42 hby2 hcap2
   obtain ⟨L2,hL2⟩ : ∃ L,bs2.length = L := ⟨_,rfl⟩
   rw [hL2] at d42 hby2 hcap2
   rw [he2,lastOf] at hrl2
   simp only at hrl2
   have hs2 := fun W => isSv_any ha2 hh2 lo2 pe2 (.slice ra2 L2 rc2) W
   obtain ⟨SV,hSV⟩ : ∃ x,svU hh2 lo2 = x := ⟨_,rfl⟩
   rw [hSV] at hrl2
   simp only [hSV] at hs2
   have HS2 := Lib.hid hs2
   have HRL := Lib.hid hrl2
   have D0 := Lib.hid d02
   have hj0 : (0 : Int) ≤ (k : Int) := by omega
   have hj1 : (k : Int) < (n : Int) := by omega
   have w2 : IntKind.i64.wrap ((k : Int) + 1) = (k : Int) + 1 := by rw [IntWalk.i64_in _ (by omega)]
   clear hdr hrl hrl2 he2 hs2 hSV hby2 hcap2 hL2
   cases SV with
   |true =>
    go_wp2_with fail
    refine (HS2.out _).mono ?_
    rintro e w4 ⟨rfl,hC⟩
    have HB4 := Lib.hid (hB.trans (hC.mono hB.size))
    clear d02 d12 d22 d32 d42 hC hB
    have hr := HRL.out
    simp only [if_true] at hr
    subst hr
    go_wp2
    refine bodyPost_ret (v := .tuple #[.int .u16 lv,.bool true]) (by simp [results,Tryz.results25,go_sem]) rfl ?_
    exact ⟨rfl,HB4.out⟩
   |false =>
    go_wp2_with fail
    refine (HS2.out _).mono ?_
    rintro e w4 ⟨rfl,hC⟩
    have HB4 := Lib.hid (hB.trans (hC.mono hB.size))
    clear d02 d12 d22 d32 d42
    have d02 := kc D0.out hC
    clear hC hB
    have hr := HRL.out
    simp only [Bool.false_eq_true,if_false] at hr
    have HR2 := Lib.hid hr
    clear hr HRL
    go_wp2
    go_roundw
    case rel => exact ⟨k + 1,ha2,by go_num,by omega,rfl,HR2,HB4.out⟩
    case measure => simp [intOf]; omega
  ·have ek : k = n := by omega
   have g2 : decide (k < n) = false := by simpa using hlt
   have g2i : decide ((k : Int) < (n : Int)) = false := by simp; omega
   have hr := hrl.out
   rw [List.drop_of_length_le (by rw [HN.out,ek]; exact Nat.le_refl _)] at hr
   have hr2 : lv = R := hr
   subst hr2
   clear hr hrl ek hlt
   go_wp2
   refine bodyPost_ret (v := .tuple #[.int .u16 lv,.bool true]) (by simp [results,Tryz.results25,go_sem]) rfl ?_
   exact ⟨rfl,hB⟩
theorem fcells_app (l l' : List Fd) : fcells (l ++ l') = fcells l ++ fcells l' := by simp [fcells]
theorem own_add {w : World} {base : Nat} {v : Value} {n : Nat} {l : List Fd} {x : Fd} (h : w.ownsRow base 39 6 v (n + 1) (fcells l ++ [.int .u16 x.ha,.int .u16 x.la,.int .u16 x.va,.int .i64 x.pr,.int .u64 x.hi,.int .u64 x.lo])) (hn : n = l.length) : w.ownsRow base 39 6 v (l ++ [x]).length (fcells (l ++ [x])) := by
 rw [fcells_app,List.length_append,List.length_singleton,← hn]
 exact h
theorem fdAt_skip {db : List At} {i : Nat} (h0 : 0 < i) (h1 : chA db (i - 1) = true) : fdAt db i = none := by
 unfold fdAt
 rw [if_pos ⟨h0,h1⟩]
theorem fdAt_sv {db : List At} {i : Nat} (h : ¬ (0 < i ∧ chA db (i - 1) = true)) (h1 : svA db i = true) : fdAt db i = some ⟨(atI db i).ha,lastOf (atI db i).ha (db.drop (i + 1)),0,0,((decR (atI db i).bs).1 : Nat),((decR (atI db i).bs).2.1 : Nat)⟩ := by
 unfold fdAt
 rw [if_neg h,if_pos h1]
theorem fdAt_ch {db : List At} {i : Nat} (h : ¬ (0 < i ∧ chA db (i - 1) = true)) (h1 : svA db i = false) (h2 : chA db i = true) : fdAt db i = some ⟨(atI db i).ha,0,(chP (atI db i).bs).2.1,(chP (atI db i).bs).1,(chP (atI db i).bs).2.2.1,(chP (atI db i).bs).2.2.2.1⟩ := by
 unfold fdAt
 rw [if_neg h,if_neg (by rw [h1]; simp),if_pos h2]
theorem fdAt_de {db : List At} {i : Nat} (h : ¬ (0 < i ∧ chA db (i - 1) = true)) (h1 : svA db i = false) (h2 : chA db i = false) : fdAt db i = some ⟨(atI db i).ha,0,0,0,(atI db i).hi,(atI db i).lo⟩ := by
 unfold fdAt
 rw [if_neg h,if_neg (by rw [h1]; simp),if_neg (by rw [h2]; simp)]
theorem fdTo_none {db : List At} {k : Nat} (h : fdAt db k = none) : fdTo db (k + 1) = fdTo db k := by rw [fdTo_succ,h]; simp
theorem fdTo_some {db : List At} {k : Nat} {x : Fd} (h : fdAt db k = some x) : fdTo db (k + 1) = fdTo db k ++ [x] := by rw [fdTo_succ,h]
theorem fdTo_len (db : List At) (k : Nat) : (fdTo db k).length ≤ k := by
 unfold fdTo
 exact Nat.le_trans (List.length_filterMap_le _ _) (by simp)
theorem dfound_any (a : Option Addr) (n c : Nat) (db : List At) (w : World) (h : Dbs w (.slice a n c) db) (hn : db.length = n) (hm : n ≤ 1000) (hg : Gdb db) :
 Calls Tryz.prog 9 #[.slice a n c] w fun e w' => ∃ v',e = .returned v' ∧ SR w' v' (fdL db).length 6 (fcells (fdL db)) ∧ Below w.heap.size w w' := by
 obtain ⟨i6,hi6,hz0,hz1,hz2⟩ := info_parts Tryz.info_fd
 have HN := Lib.hid hn
 have HD := Lib.hid h
 have HG := Lib.hid hg
 have own0 : w.ownsRow w.heap.size 39 6 (.slice none 0 0) (fdTo db 0).length (fcells (fdTo db 0)) := ⟨rfl,.inl ⟨rfl,rfl⟩⟩
 have HOWN0 := Lib.hid own0
 clear h hn hg own0
 go_enter Tryz.func9,Tryz.ntmps9
 go_wp2_with fail
 go_loopw [3,4,5,6,7,8,9,10,11,12,13] (fun out v _ _ _ _ _ _ _ _ _ W => ∃ k : Nat,v = .int .i64 k ∧ k ≤ n ∧ Hid (W.ownsRow w.heap.size 39 6 out (fdTo db k).length (fcells (fdTo db k))) ∧ Below w.heap.size w W) (fun _ v _ _ _ _ _ _ _ _ _ _ => n - (intOf v).toNat)
 case atStart => exact ⟨0,by simp,Nat.zero_le _,HOWN0,Below.refl _ _⟩
 case round =>
  obtain ⟨k,rfl,hk,hown,hB⟩ := hrel
  by_cases hlt : k < n
  ·have g2 : decide (k < n) = true := by simpa using hlt
   have g2i : decide ((k : Int) < (n : Int)) = true := by simp; omega
   have hlen := fdTo_len db k
   obtain ⟨b,off,rfl,hb,hat⟩ := HD.out.at HN.out (by omega)
   have HAT := Lib.hid hat
   have hl5 := HG.out.len k (by rw [HN.out]; exact hlt)
   have hchk : chA db k = chU (atI db k).hi (atI db k).lo := rfl
   have hsvk : svA db k = svU (atI db k).hi (atI db k).lo := rfl
   obtain ⟨ra,rc,d0,d1,d2,d3,d4,hcap,hby⟩ := (HAT.out (k) (by omega)).below (Below.refl w.heap.size w)
   obtain ⟨⟨ha,hh,lo,pe,bs⟩,he⟩ : ∃ r,atI db (k) = r := ⟨_,rfl⟩
   rw [he] at d0 d1 d2 d3 d4 hby hcap
   simp only at d0 d1 d2 d3 d4 hby hcap
   obtain ⟨L,hL⟩ : ∃ L,bs.length = L := ⟨_,rfl⟩
   rw [hL] at d4 hby hcap
   have HBY := Lib.hid hby
   have HCAP := Lib.hid hcap
   replace d0 := kc d0 hB
   replace d1 := kc d1 hB
   replace d2 := kc d2 hB
   replace d3 := kc d3 hB
   replace d4 := kc d4 hB
   rw [he] at hchk hsvk hl5
   simp only at hchk hsvk hl5
   rw [hL] at hl5
   obtain ⟨CH,hCH⟩ : ∃ x,chU hh lo = x := ⟨_,rfl⟩
   obtain ⟨SV,hSV⟩ : ∃ x,svU hh lo = x := ⟨_,rfl⟩
   have h1 := fun W => isCh_any ha hh lo pe (.slice ra L rc) W
   have h2 := fun W => isSv_any ha hh lo pe (.slice ra L rc) W
   simp only [hCH] at h1
   simp only [hSV] at h2
   rw [hCH] at hchk
   rw [hSV] at hsvk
   have HCH := Lib.hid h1
   have HSV := Lib.hid h2
   have HCK := Lib.hid hchk
   have HSK := Lib.hid hsvk
   have HE := Lib.hid he
   have HL := Lib.hid hL
   have HB := Lib.hid hB
   have hi0 : (0 : Int) ≤ (k : Int) := by omega
   have hi1 : (k : Int) < (n : Int) := by omega
   have w1 : IntKind.i64.wrap ((k : Int) + 1) = (k : Int) + 1 := by rw [IntWalk.i64_in _ (by omega)]
   clear hat he hL hby hB h1 h2 hCH hSV hchk hsvk
   go_upto_region 7 with fail
   generalize hX : World.alloc wr _ = X
   obtain ⟨h6,hB6,h6z⟩ := alloc_named hX
   have b6 : Blk X wr.heap.size 29 [.int .u16 ha,.int .u64 hh,.int .u64 lo,.int .i64 pe,.slice ra L rc] := h6
   have HT := Lib.hid b6.cells
   have HBX := Lib.hid (HB.out.trans (hB6.mono HB.out.size))
   have HOWN := Lib.hid (own_below hown.out hB6)
   have hWX := Below.refl X.heap.size X
   clear hX h6 hB6 h6z b6 d0 d1 d2 d3 d4 hown
   go_cut [32] (fun b wx => ∃ PC : Bool,b = .bool PC ∧ Hid (PC = true ↔ (0 < k ∧ chA db (k - 1) = true)) ∧ Below X.heap.size X wx)
   case first =>
    by_cases hk0 : 0 < k
    ·have t0 : decide (0 < k) = true := by simpa using hk0
     have t0i : decide ((0 : Int) < (k : Int)) = true := by simp; omega
     have w3 : IntKind.i64.wrap ((k : Int) - 1) = ((k - 1 : Nat) : Int) := by rw [IntWalk.i64_in _ (by omega)]; omega
     obtain ⟨k1,hk1⟩ : ∃ k1,k - 1 = k1 := ⟨_,rfl⟩
     rw [hk1] at w3
     have hc1 : chA db (k - 1) = chU (atI db k1).hi (atI db k1).lo := by rw [hk1]; rfl
     have hb := HBX.out
     obtain ⟨ra2,rc2,d02,d12,d22,d32,d42,hcap2,hby2⟩ := (HAT.out (k1) (by omega)).below hb
     obtain ⟨⟨ha2,hh2,lo2,pe2,bs2⟩,he2⟩ : ∃ r,atI db (k1) = r := ⟨_,rfl⟩
     rw [he2] at d02 d12 d22 d32 d42 hby2 hcap2
     simp only at d02 d12 d22 d32 d42 hby2 hcap2
     obtain ⟨L2,hL2⟩ : ∃ L,bs2.length = L := ⟨_,rfl⟩
     rw [hL2] at d42 hby2 hcap2
     rw [he2] at hc1
     simp only at hc1
     obtain ⟨PC,hPC⟩ : ∃ x,chU hh2 lo2 = x := ⟨_,rfl⟩
     have h1 := fun W => isCh_any ha2 hh2 lo2 pe2 (.slice ra2 L2 rc2) W
     simp only [hPC] at h1
     rw [hPC] at hc1
     have H1 := Lib.hid h1
     have HC1 := Lib.hid hc1
     have HK0 := Lib.hid hk0
     have hj0 : (0 : Int) ≤ (k1 : Int) := by omega
     have hj1 : (k1 : Int) < (n : Int) := by omega
     clear hk0 hk1 hc1 he2 hL2 hby2 hcap2 hPC h1 hb
     go_wp2_with fail
     refine (H1.out _).mono ?_
     rintro e w4 ⟨rfl,hC⟩
     go_wp2_with fail
     go_meet
     exact ⟨_,rfl,Lib.hid (by rw [HC1.out]; exact ⟨fun h => ⟨HK0.out,h⟩,fun h => h.2⟩),hC⟩
    ·have t0 : decide (0 < k) = false := by simpa using hk0
     have t0i : decide ((0 : Int) < (k : Int)) = false := by simp; omega
     have HK0 := Lib.hid hk0
     clear hk0
     go_wp2_with fail
     go_meet
     exact ⟨_,rfl,Lib.hid ⟨fun h => by (cases h),fun h => absurd h.1 HK0.out⟩,hWX⟩
   case rest =>
    obtain ⟨PC,rfl,hpc,hBY⟩ := hcut
    rename World => Y
    have HBY2 := Lib.hid (HBX.out.trans (hBY.mono HBX.out.size))
    have HOWN2 := Lib.hid (own_below HOWN.out hBY)
    have HTY := Lib.hid (HT.out.keep hBY)
    clear HOWN HBX HT hBY hWX
    have HOWN := HOWN2
    have HT := HTY
    have HBX := HBY2
    clear HOWN2 HTY HBY2
    cases PC with
    |true =>
     have hst := fdTo_none (fdAt_skip (hpc.out.1 (by simp)).1 (hpc.out.1 (by simp)).2)
     have HOW := Lib.hid (show Y.ownsRow w.heap.size 39 6 u3 (fdTo db (k + 1)).length (fcells (fdTo db (k + 1))) by rw [hst]; exact HOWN.out)
     clear hst hpc HOWN
     go_wp2
     go_roundw
     case rel => exact ⟨k + 1,by go_num,by omega,HOW,HBX.out⟩
     case measure => simp [intOf]; omega
    |false =>
    have HPC := Lib.hid (show ¬ (0 < k ∧ chA db (k - 1) = true) from fun h => by have := hpc.out.2 h; cases this)
    clear hpc
    have T2 := HT.out
    have hOpen := T2
    simp only [Cells,blk,List.cons_append,List.nil_append,and_true,Nat.reduceAdd,Nat.add_zero,Nat.zero_add] at hOpen
    obtain ⟨m0,m1,m2,m3,m4⟩ := hOpen
    clear T2
    go_wp2_with fail
    refine (HSV.out _).mono ?_
    rintro e w4 ⟨rfl,hC⟩
    have HB4 := Lib.hid (HBX.out.trans (hC.mono HBX.out.size))
    have HOWN4 := Lib.hid (own_below HOWN.out hC)
    have HT4 := Lib.hid (HT.out.keep hC)
    clear hC m0 m1 m2 m3 m4 HT HOWN HBX
    have T2 := HT4.out
    have hOpen := T2
    simp only [Cells,blk,List.cons_append,List.nil_append,and_true,Nat.reduceAdd,Nat.add_zero,Nat.zero_add] at hOpen
    obtain ⟨m0,m1,m2,m3,m4⟩ := hOpen
    clear T2
    cases SV with
    |true =>
     have hfa := fdAt_sv HPC.out HSK.out
     rw [HE.out] at hfa
     simp only at hfa
     obtain ⟨LA,hLA⟩ : ∃ x,lastOf ha (db.drop (k + 1)) = x := ⟨_,rfl⟩
     have HGR := fun (W : World) (hW : Below w.heap.size w W) => group_any (some ⟨b,off,none⟩) n c db k ha W (HD.out.below hW) HN.out hlt hm HG.out HSK.out (by rw [HE.out])
     rw [hLA] at hfa
     simp only [hLA] at HGR
     have HGRP := Lib.hid HGR
     have hde := rdecode_any (.slice ra L rc) bs w4 (HBY.out.below HB4.out) (by rw [HL.out]; omega)
     obtain ⟨d1,hd1⟩ : ∃ d,(decR bs).1 = d := ⟨_,rfl⟩
     obtain ⟨d2,hd2⟩ : ∃ d,(decR bs).2.1 = d := ⟨_,rfl⟩
     obtain ⟨d3,hd3⟩ : ∃ d,(decR bs).2.2 = d := ⟨_,rfl⟩
     rw [hd1,hd2,hd3] at hde
     rw [hd1,hd2] at hfa
     have HDE := Lib.hid hde
     have HST := Lib.hid (fdTo_some hfa)
     clear HGR hLA hfa hde hd1 hd2 hd3
     go_wp2_with fail
     refine HDE.out.mono ?_
     rintro e w5 ⟨rfl,hC⟩
     have HB5 := Lib.hid (HB4.out.trans (hC.mono HB4.out.size))
     have HOWN5 := Lib.hid (own_below HOWN4.out hC)
     have HT5 := Lib.hid (HT4.out.keep hC)
     clear hC m0 m1 m2 m3 m4 HT4 HOWN4 HB4 HDE
     go_upto_region 10 with fail
     generalize hX : World.alloc w5 _ = Z
     obtain ⟨h6,hB6,h6z⟩ := alloc_named hX
     have b6 : Blk Z w5.heap.size 26 [.int .u64 (d1 : Nat),.int .u64 (d2 : Nat)] := h6
     have HU := Lib.hid b6.cells
     have HBZ := Lib.hid (HB5.out.trans (hB6.mono HB5.out.size))
     have HOWNZ := Lib.hid (own_below HOWN5.out hB6)
     have HTZ := Lib.hid (HT5.out.keep hB6)
     clear hX h6 hB6 h6z b6 HT5 HOWN5 HB5
     have T2 := HTZ.out
     have hOpen := T2
     simp only [Cells,blk,List.cons_append,List.nil_append,and_true,Nat.reduceAdd,Nat.add_zero,Nat.zero_add] at hOpen
     obtain ⟨m0,m1,m2,m3,m4⟩ := hOpen
     clear T2
     go_wp2_with fail
     refine (HGRP.out _ HBZ.out).mono ?_
     rintro e w7 ⟨rfl,hC⟩
     have HB7 := Lib.hid (HBZ.out.trans (hC.mono HBZ.out.size))
     have HOWN := Lib.hid (own_below HOWNZ.out hC)
     have T2 := (HTZ.out.keep hC).app (HU.out.keep hC)
     clear hC m0 m1 m2 m3 m4 HTZ HOWNZ HBZ HGRP HU
     have hOpen := T2
     simp only [Cells,blk,List.cons_append,List.nil_append,and_true,Nat.reduceAdd,Nat.add_zero,Nat.zero_add] at hOpen
     obtain ⟨m0,m1,m2,m3,m4,n0,n1⟩ := hOpen
     clear T2
     have hbx : Below w7.heap.size w7 (w7.alloc (.cells #[.int .u16 ha,.int .u16 LA,.int .u16 0,.int .i64 0,.int .u64 (d1 : Nat),.int .u64 (d2 : Nat)] 39)) := (Below.refl _ _).alloc (Nat.le_refl _) _
     have HIN := Lib.hid (own_below HOWN.out hbx)
     have hnew : ∀ j u,[Value.int .u16 ha,.int .u16 LA,.int .u16 0,.int .i64 0,.int .u64 (d1 : Nat),.int .u64 (d2 : Nat)][j]? = some u → (w7.alloc (.cells #[.int .u16 ha,.int .u16 LA,.int .u16 0,.int .i64 0,.int .u64 (d1 : Nat),.int .u64 (d2 : Nat)] 39)).cell? ((⟨w7.heap.size,0,none⟩ : Addr).add j) = some u := fun j u hj => by
      rw [addr_add,Nat.zero_add]
      exact cellNew w7 #[.int .u16 ha,.int .u16 LA,.int .u16 0,.int .i64 0,.int .u64 (d1 : Nat),.int .u64 (d2 : Nat)] 39 j u (by simpa using hj)
     have hbase : w.heap.size ≤ (w7.alloc (.cells #[.int .u16 ha,.int .u16 LA,.int .u16 0,.int .i64 0,.int .u64 (d1 : Nat),.int .u64 (d2 : Nat)] 39)).heap.size := by have := HB7.out.size; simp; omega
     have HBX := Lib.hid (HB7.out.trans (hbx.mono (by have := HB7.out.size; omega)))
     clear hbx
     go_wp2_with (at_builtin; refine wpList_append_own_at _ rfl _ _ 36 rfl w.heap.size 39 i6 _ 6 32 Tryz.underlying36 hi6 hz0 hz1 hz2 rfl (by decide) _ _ _ rfl HIN.out ⟨w7.heap.size,0,none⟩ 1 1 [Value.int .u16 ha,.int .u16 LA,.int .u16 0,.int .i64 0,.int .u64 (d1 : Nat),.int .u64 (d2 : Nat)] rfl rfl hnew ?c6 (by unfold maxLen; omega) (by omega) hbase ?_)
     case c6 => intro u hu; simp at hu; rcases hu with rfl | rfl | rfl | rfl | rfl | rfl <;> rfl
     intro v6 w6 hown6 hg6 hnn6 hob6
     have own6 := own_add (x := (⟨ha,LA,0,0,(d1 : Nat),(d2 : Nat)⟩ : Fd)) hown6 rfl
     have hB6 := HBX.out.grown hg6 hbase (fun q hq => (HIN.out.lt q hq).1)
     rw [← HST.out] at own6
     have HOW := Lib.hid own6
     have HBW := Lib.hid hB6
     clear hown6 hg6 hnn6 hob6 hnew hbase HIN HBX own6 hB6
     go_wp2
     go_roundw
     case rel => exact ⟨k + 1,by go_num,by omega,HOW,HBW.out⟩
     case measure => simp [intOf]; omega
    |false =>
     go_wp2_with fail
     refine (HCH.out _).mono ?_
     rintro e w5 ⟨rfl,hC⟩
     have HB5 := Lib.hid (HB4.out.trans (hC.mono HB4.out.size))
     have HOWN := Lib.hid (own_below HOWN4.out hC)
     have HT5 := Lib.hid (HT4.out.keep hC)
     clear hC m0 m1 m2 m3 m4 HT4 HOWN4 HB4
     have T2 := HT5.out
     have hOpen := T2
     simp only [Cells,blk,List.cons_append,List.nil_append,and_true,Nat.reduceAdd,Nat.add_zero,Nat.zero_add] at hOpen
     obtain ⟨m0,m1,m2,m3,m4⟩ := hOpen
     clear T2
     cases CH with
     |true =>
      have hfa := fdAt_ch HPC.out HSK.out HCK.out
      rw [HE.out] at hfa
      simp only at hfa
      have hcp := charParts_any ra L rc bs w5 (HBY.out.below HB5.out) HL.out HCAP.out (by omega)
      obtain ⟨P,H,T1,T3,OK,hP⟩ : ∃ P H T1 T2 OK,chP bs = (P,H,T1,T2,OK) := ⟨_,_,_,_,_,rfl⟩
      rw [hP] at hcp hfa
      simp only at hcp hfa
      have HCP := Lib.hid hcp
      have HST := Lib.hid (fdTo_some hfa)
      clear hfa hcp hP
      go_wp2_with fail
      refine HCP.out.mono ?_
      rintro e w6 ⟨rfl,hC⟩
      have HB6 := Lib.hid (HB5.out.trans (hC.mono HB5.out.size))
      have HOWN6 := Lib.hid (own_below HOWN.out hC)
      have HT6 := Lib.hid (HT5.out.keep hC)
      clear hC m0 m1 m2 m3 m4 HT5 HOWN HB5 HCP
      go_upto_region 14 with fail
      generalize hX : World.alloc w6 _ = Z
      obtain ⟨h6,hB6,h6z⟩ := alloc_named hX
      have b6 : Blk Z w6.heap.size 26 [.int .u64 T1,.int .u64 T3] := h6
      have HBZ := Lib.hid (HB6.out.trans (hB6.mono HB6.out.size))
      have HOWN := Lib.hid (own_below HOWN6.out hB6)
      have T2 := (HT6.out.keep hB6).app b6.cells
      clear hX h6 hB6 h6z b6 HT6 HOWN6 HB6
      have hOpen := T2
      simp only [Cells,blk,List.cons_append,List.nil_append,and_true,Nat.reduceAdd,Nat.add_zero,Nat.zero_add] at hOpen
      obtain ⟨m0,m1,m2,m3,m4,n0,n1⟩ := hOpen
      clear T2
      have hbx : Below Z.heap.size Z (Z.alloc (.cells #[.int .u16 ha,.int .u16 0,.int .u16 H,.int .i64 P,.int .u64 T1,.int .u64 T3] 39)) := (Below.refl _ _).alloc (Nat.le_refl _) _
      have HIN := Lib.hid (own_below HOWN.out hbx)
      have hnew : ∀ j u,[Value.int .u16 ha,.int .u16 0,.int .u16 H,.int .i64 P,.int .u64 T1,.int .u64 T3][j]? = some u → (Z.alloc (.cells #[.int .u16 ha,.int .u16 0,.int .u16 H,.int .i64 P,.int .u64 T1,.int .u64 T3] 39)).cell? ((⟨Z.heap.size,0,none⟩ : Addr).add j) = some u := fun j u hj => by
       rw [addr_add,Nat.zero_add]
       exact cellNew Z #[.int .u16 ha,.int .u16 0,.int .u16 H,.int .i64 P,.int .u64 T1,.int .u64 T3] 39 j u (by simpa using hj)
      have hbase : w.heap.size ≤ (Z.alloc (.cells #[.int .u16 ha,.int .u16 0,.int .u16 H,.int .i64 P,.int .u64 T1,.int .u64 T3] 39)).heap.size := by have := HBZ.out.size; simp; omega
      have HBX := Lib.hid (HBZ.out.trans (hbx.mono (by have := HBZ.out.size; omega)))
      clear hbx
      go_wp2_with (at_builtin; refine wpList_append_own_at _ rfl _ _ 36 rfl w.heap.size 39 i6 _ 6 32 Tryz.underlying36 hi6 hz0 hz1 hz2 rfl (by decide) _ _ _ rfl HIN.out ⟨Z.heap.size,0,none⟩ 1 1 [Value.int .u16 ha,.int .u16 0,.int .u16 H,.int .i64 P,.int .u64 T1,.int .u64 T3] rfl rfl hnew ?c6 (by unfold maxLen; omega) (by omega) hbase ?_)
      case c6 => intro u hu; simp at hu; rcases hu with rfl | rfl | rfl | rfl | rfl | rfl <;> rfl
      intro v6 w6 hown6 hg6 hnn6 hob6
      have own6 := own_add (x := (⟨ha,0,H,P,T1,T3⟩ : Fd)) hown6 rfl
      have hB6 := HBX.out.grown hg6 hbase (fun q hq => (HIN.out.lt q hq).1)
      rw [← HST.out] at own6
      have HOW := Lib.hid own6
      have HBW := Lib.hid hB6
      clear hown6 hg6 hnn6 hob6 hnew hbase HIN HBX own6 hB6
      go_wp2
      go_roundw
      case rel => exact ⟨k + 1,by go_num,by omega,HOW,HBW.out⟩
      case measure => simp [intOf]; omega
     |false =>
      have hfa := fdAt_de HPC.out HSK.out HCK.out
      rw [HE.out] at hfa
      simp only at hfa
      have HST := Lib.hid (fdTo_some hfa)
      clear hfa
      have HBZ := HB5
      have hbx : Below w5.heap.size w5 (w5.alloc (.cells #[.int .u16 ha,.int .u16 0,.int .u16 0,.int .i64 0,.int .u64 hh,.int .u64 lo] 39)) := (Below.refl _ _).alloc (Nat.le_refl _) _
      have HIN := Lib.hid (own_below HOWN.out hbx)
      have hnew : ∀ j u,[Value.int .u16 ha,.int .u16 0,.int .u16 0,.int .i64 0,.int .u64 hh,.int .u64 lo][j]? = some u → (w5.alloc (.cells #[.int .u16 ha,.int .u16 0,.int .u16 0,.int .i64 0,.int .u64 hh,.int .u64 lo] 39)).cell? ((⟨w5.heap.size,0,none⟩ : Addr).add j) = some u := fun j u hj => by
       rw [addr_add,Nat.zero_add]
       exact cellNew w5 #[.int .u16 ha,.int .u16 0,.int .u16 0,.int .i64 0,.int .u64 hh,.int .u64 lo] 39 j u (by simpa using hj)
      have hbase : w.heap.size ≤ (w5.alloc (.cells #[.int .u16 ha,.int .u16 0,.int .u16 0,.int .i64 0,.int .u64 hh,.int .u64 lo] 39)).heap.size := by have := HBZ.out.size; simp; omega
      have HBX := Lib.hid (HBZ.out.trans (hbx.mono (by have := HBZ.out.size; omega)))
      clear hbx
      go_wp2_with (at_builtin; refine wpList_append_own_at _ rfl _ _ 36 rfl w.heap.size 39 i6 _ 6 32 Tryz.underlying36 hi6 hz0 hz1 hz2 rfl (by decide) _ _ _ rfl HIN.out ⟨w5.heap.size,0,none⟩ 1 1 [Value.int .u16 ha,.int .u16 0,.int .u16 0,.int .i64 0,.int .u64 hh,.int .u64 lo] rfl rfl hnew ?c6 (by unfold maxLen; omega) (by omega) hbase ?_)
      case c6 => intro u hu; simp at hu; rcases hu with rfl | rfl | rfl | rfl | rfl | rfl <;> rfl
      intro v6 w6 hown6 hg6 hnn6 hob6
      have own6 := own_add (x := (⟨ha,0,0,0,hh,lo⟩ : Fd)) hown6 rfl
      have hB6 := HBX.out.grown hg6 hbase (fun q hq => (HIN.out.lt q hq).1)
      rw [← HST.out] at own6
      have HOW := Lib.hid own6
      have HBW := Lib.hid hB6
      clear hown6 hg6 hnn6 hob6 hnew hbase HIN HBX own6 hB6
      go_wp2
      go_roundw
      case rel => exact ⟨k + 1,by go_num,by omega,HOW,HBW.out⟩
      case measure => simp [intOf]; omega
  ·have ek : k = n := by omega
   have g2 : decide (k < n) = false := by simpa using hlt
   have g2i : decide ((k : Int) < (n : Int)) = false := by simp; omega
   have hlen := fdTo_len db k
   have hs := SR.of_own hown.out (fcells_one _) (by unfold maxLen; omega)
   have e : fdTo db k = fdL db := by unfold fdL; rw [HN.out,ek]
   rw [e] at hs
   have HS := Lib.hid hs
   clear hs e hown ek hlt
   go_wp2
   go_ret
   exact ⟨_,rfl,HS.out,hB⟩
theorem sameFound_any (l : List Fd) (v1 v2 : Value) (w : World) (h1 : SR w v1 l.length 6 (fcells l)) (h2 : SR w v2 l.length 6 (fcells l)) (hn : l.length ≤ 1000000) :
 Calls Tryz.prog 13 #[v1,v2] w fun e w' => e = .returned (.bool true) ∧ Below w.heap.size w w' := by
 obtain ⟨_,_,_,ao1,c1,rfl,_,H1⟩ := h1
 obtain ⟨_,_,_,ao2,c2,rfl,_,H2⟩ := h2
 obtain ⟨n,hnn⟩ : ∃ n,l.length = n := ⟨_,rfl⟩
 have HN := Lib.hid hnn
 have HH1 := Lib.hid H1
 have HH2 := Lib.hid H2
 rw [hnn] at hn ⊢
 clear hnn H1 H2
 go_enter Tryz.func13,Tryz.ntmps13
 go_wp2
 go_loopw [5] (fun vi wr => ∃ k : Nat,vi = .int .i64 k ∧ k ≤ n ∧ Below w.heap.size w wr) (fun vi _ => n - (intOf vi).toNat)
 case atStart => exact ⟨0,by go_num,Nat.zero_le _,Below.refl _ _⟩
 case round =>
  obtain ⟨k,rfl,hk,hB⟩ := hrel
  by_cases hlt : k < n
  ·have hkl : k < l.length := by rw [HN.out]; exact hlt
   obtain ⟨b1,o1,rfl,l1,x1⟩ := HH1.out (by omega)
   obtain ⟨b2,o2,rfl,l2,x2⟩ := HH2.out (by omega)
   have key : ∀ (b off : Nat),(∀ j u,(fcells l)[j]? = some u → w.cell? ⟨b,off + j,none⟩ = some u) → ∀ j,j < 6 → wr.cell? ⟨b,off + k * 6 + j,none⟩ = (fenc l[k])[j]? := fun b off hcell j hj => by
    have e : (fcells l)[k * 6 + j]? = (fenc l[k])[j]? := flat_get fenc 6 (fun _ => rfl) l k j hkl hj
    obtain ⟨u,hu⟩ : ∃ u,(fenc l[k])[j]? = some u := ⟨_,List.getElem?_eq_getElem (show j < (fenc l[k]).length from hj)⟩
    rw [hu] at e ⊢
    have := kc (hcell _ _ e) hB
    rwa [← Nat.add_assoc] at this
   have q1 := key b1 o1 x1
   have q2 := key b2 o2 x2
   obtain ⟨⟨a0,a1,a2,a3,a4,a5⟩,hx⟩ : ∃ x,l[k] = x := ⟨_,rfl⟩
   rw [hx] at q1 q2
   have T : Cells wr (blk b1 (o1 + k * 6) 0 [.int .u16 a0,.int .u16 a1,.int .u16 a2,.int .i64 a3,.int .u64 a4,.int .u64 a5] ++ blk b2 (o2 + k * 6) 0 [.int .u16 a0,.int .u16 a1,.int .u16 a2,.int .i64 a3,.int .u64 a4,.int .u64 a5]) :=
    (show Cells wr (blk b1 (o1 + k * 6) 0 [.int .u16 a0,.int .u16 a1,.int .u16 a2,.int .i64 a3,.int .u64 a4,.int .u64 a5]) from ⟨q1 0 (by decide),q1 1 (by decide),q1 2 (by decide),q1 3 (by decide),q1 4 (by decide),q1 5 (by decide),trivial⟩).app
    ⟨q2 0 (by decide),q2 1 (by decide),q2 2 (by decide),q2 3 (by decide),q2 4 (by decide),q2 5 (by decide),trivial⟩
   have i1 : (k : Int) < (n : Int) := by omega
   have g1 : decide (k < n) = true := by simpa using hlt
   have w1 : IntKind.i64.wrap ((k : Int) + 1) = (k : Int) + 1 := IntWalk.i64_in _ (by omega)
   have HBD := Lib.hid hB.drew
   clear x1 x2 key q1 q2 hx
   go_wp2_with fail
   refine wp_region_held_drew (S := (fun W' : World => Cells W' (blk b1 (o1 + k * 6) 0 [.int .u16 a0,.int .u16 a1,.int .u16 a2,.int .i64 a3,.int .u64 a4,.int .u64 a5] ++ blk b2 (o2 + k * 6) 0 [.int .u16 a0,.int .u16 a1,.int .u16 a2,.int .i64 a3,.int .u64 a4,.int .u64 a5]))) (by kernel_rfl) (T.drew) (fun hHeld => ?_)
   refine wpAnyH_take (i := 0) (oi := _) (v := ?_) (by rw [List.getElem?_toArray]; rfl) (by kernel_rfl) (by kernel_rfl) (by kernel_rfl) (by exact fun _ _ _ h => h) (Or.inl ⟨by rfl,?_⟩) (by assumption) ?_
   rotate_left
   ·intro w hSw
    try simp only [Cells,blk,List.cons_append,List.nil_append,and_true,Nat.reduceAdd,Nat.add_zero,Nat.zero_add] at hSw
    go_simp
    try with_reducible rfl
   simp only [Act.put,List.setIfInBounds_toArray,List.set_cons_zero,List.set_cons_succ]
   refine wpAnyH_take (i := 1) (oi := _) (v := ?_) (by rw [List.getElem?_toArray]; rfl) (by kernel_rfl) (by kernel_rfl) (by kernel_rfl) (by exact fun _ _ _ h => h) (Or.inl ⟨by rfl,?_⟩) (by assumption) ?_
   rotate_left
   ·intro w hSw
    try simp only [Cells,blk,List.cons_append,List.nil_append,and_true,Nat.reduceAdd,Nat.add_zero,Nat.zero_add] at hSw
    go_simp
    try with_reducible rfl
   simp only [Act.put,List.setIfInBounds_toArray,List.set_cons_zero,List.set_cons_succ]
   refine wpAnyH_take (i := 2) (oi := _) (v := ?_) (by rw [List.getElem?_toArray]; rfl) (by kernel_rfl) (by kernel_rfl) (by kernel_rfl) (by exact fun _ _ _ h => h) (Or.inl ⟨by rfl,?_⟩) (by assumption) ?_
   rotate_left
   ·intro w hSw
    try simp only [Cells,blk,List.cons_append,List.nil_append,and_true,Nat.reduceAdd,Nat.add_zero,Nat.zero_add] at hSw
    go_simp
    try with_reducible rfl
   simp only [Act.put,List.setIfInBounds_toArray,List.set_cons_zero,List.set_cons_succ]
   refine wpAnyH_take (i := 3) (oi := _) (v := ?_) (by rw [List.getElem?_toArray]; rfl) (by kernel_rfl) (by kernel_rfl) (by kernel_rfl) (by exact fun _ _ _ h => h) (Or.inl ⟨by rfl,?_⟩) (by assumption) ?_
   rotate_left
   ·intro w hSw
    try simp only [Cells,blk,List.cons_append,List.nil_append,and_true,Nat.reduceAdd,Nat.add_zero,Nat.zero_add] at hSw
    go_simp
    try with_reducible rfl
   simp only [Act.put,List.setIfInBounds_toArray,List.set_cons_zero,List.set_cons_succ]
   refine wpAnyH_take (i := 4) (oi := _) (v := ?_) (by rw [List.getElem?_toArray]; rfl) (by kernel_rfl) (by kernel_rfl) (by kernel_rfl) (by exact fun _ _ _ h => h) (Or.inl ⟨by rfl,?_⟩) (by assumption) ?_
   rotate_left
   ·intro w hSw
    try simp only [Cells,blk,List.cons_append,List.nil_append,and_true,Nat.reduceAdd,Nat.add_zero,Nat.zero_add] at hSw
    go_simp
    try with_reducible rfl
   simp only [Act.put,List.setIfInBounds_toArray,List.set_cons_zero,List.set_cons_succ]
   refine wpAnyH_take (i := 5) (oi := _) (v := ?_) (by rw [List.getElem?_toArray]; rfl) (by kernel_rfl) (by kernel_rfl) (by kernel_rfl) (by exact fun _ _ _ h => h) (Or.inl ⟨by rfl,?_⟩) (by assumption) ?_
   rotate_left
   ·intro w hSw
    try simp only [Cells,blk,List.cons_append,List.nil_append,and_true,Nat.reduceAdd,Nat.add_zero,Nat.zero_add] at hSw
    go_simp
    try with_reducible rfl
   simp only [Act.put,List.setIfInBounds_toArray,List.set_cons_zero,List.set_cons_succ]
   refine wpAnyH_take (i := 6) (oi := _) (v := ?_) (by rw [List.getElem?_toArray]; rfl) (by kernel_rfl) (by kernel_rfl) (by kernel_rfl) (by exact fun _ _ _ h => h) (Or.inl ⟨by rfl,?_⟩) (by assumption) ?_
   rotate_left
   ·intro w hSw
    try simp only [Cells,blk,List.cons_append,List.nil_append,and_true,Nat.reduceAdd,Nat.add_zero,Nat.zero_add] at hSw
    go_simp
    try with_reducible rfl
   simp only [Act.put,List.setIfInBounds_toArray,List.set_cons_zero,List.set_cons_succ]
   refine wpAnyH_take (i := 7) (oi := _) (v := ?_) (by rw [List.getElem?_toArray]; rfl) (by kernel_rfl) (by kernel_rfl) (by kernel_rfl) (by exact fun _ _ _ h => h) (Or.inl ⟨by rfl,?_⟩) (by assumption) ?_
   rotate_left
   ·intro w hSw
    try simp only [Cells,blk,List.cons_append,List.nil_append,and_true,Nat.reduceAdd,Nat.add_zero,Nat.zero_add] at hSw
    go_simp
    try with_reducible rfl
   simp only [Act.put,List.setIfInBounds_toArray,List.set_cons_zero,List.set_cons_succ]
   refine wpAnyH_take (i := 8) (oi := _) (v := ?_) (by rw [List.getElem?_toArray]; rfl) (by kernel_rfl) (by kernel_rfl) (by kernel_rfl) (by exact fun _ _ _ h => h) (Or.inl ⟨by rfl,?_⟩) (by assumption) ?_
   rotate_left
   ·intro w hSw
    try simp only [Cells,blk,List.cons_append,List.nil_append,and_true,Nat.reduceAdd,Nat.add_zero,Nat.zero_add] at hSw
    go_simp
    try with_reducible rfl
   simp only [Act.put,List.setIfInBounds_toArray,List.set_cons_zero,List.set_cons_succ]
   refine wpAnyH_done (by kernel_rfl) ?_ _
   go_wp2
   refine ⟨⟨k + 1,by simp,hlt,HBD.out⟩,?_⟩
   simp [intOf]
   omega
  ·have g1 : decide (k < n) = false := by simpa using hlt
   go_wp2
   go_ret
   exact ⟨rfl,hB⟩
end Go.Proofs.YtldcihjddebciaaGreat
