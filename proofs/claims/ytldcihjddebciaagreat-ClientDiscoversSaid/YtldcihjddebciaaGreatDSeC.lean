/- server: the attributes of a range, by the database's reference. And what follows it. -/
import Derived.Test.YtldcihjddebciaaGreatDSeA
import Derived.Test.YtldcihjddebciaaGreatDSdH
import Derived.BigQuiet
import Derived.Deep.QuietTactic
import Derived.Maps.AppendAt
import Derived.Lib.SlBytesConst
set_option linter.unusedSimpArgs false
set_option linter.unusedVariables false
set_option maxRecDepth 100000
set_option maxHeartbeats 4000000
namespace Go.Proofs.YtldcihjddebciaaGreat
open Go.RowKit
def inB (A B : Int) (x : At) : Bool := decide (A ≤ x.ha) && decide (x.ha ≤ B)
def rangeL (db : List At) (A B : Int) : List At := db.filter (inB A B)
def rgQ (qs : List (At × Value)) (A B : Int) (k : Nat) : List (At × Value) := (qs.take k).filter fun q => inB A B q.1
theorem rgQ_len (qs : List (At × Value)) (A B : Int) (k : Nat) : (rgQ qs A B k).length ≤ k := Nat.le_trans (List.length_filter_le _ _) (by rw [List.length_take]; omega)
theorem rgQ_yes (qs : List (At × Value)) (A B : Int) (k : Nat) (hk : k < qs.length) (h : inB A B qs[k].1 = true) : rgQ qs A B (k + 1) = rgQ qs A B k ++ [qs[k]] := by
 unfold rgQ
 rw [List.take_succ_eq_append_getElem hk,List.filter_append]
 simp [h]
theorem rgQ_no (qs : List (At × Value)) (A B : Int) (k : Nat) (hk : k < qs.length) (h : inB A B qs[k].1 = false) : rgQ qs A B (k + 1) = rgQ qs A B k := by
 unfold rgQ
 rw [List.take_succ_eq_append_getElem hk,List.filter_append]
 simp [h]
theorem range_any (a : Option Addr) (n c : Nat) (db : List At) (A B : Int) (w : World) (h : DbR w (.slice a n c) db) (hn : db.length = n) (hm : n ≤ 1000) :
 Calls Tryz.prog 11 #[.slice a n c,.int .u16 A,.int .u16 B] w fun e w' => ∃ v',e = .returned v' ∧ DbR w' v' (rangeL db A B) ∧ Below w.heap.size w w' := by
 obtain ⟨i5,hi5,hz0,hz1,hz2⟩ := info_parts Tryz.info_at
 obtain ⟨qs,rfl,hsr,hbv⟩ := h
 rw [List.length_map] at hn
 have HN := Lib.hid hn
 have HQ := Lib.hid (And.intro hsr hbv)
 have own0 : w.ownsRow w.heap.size 29 5 (.slice none 0 0) (rgQ qs A B 0).length ((rgQ qs A B 0).flatMap aenc) := ⟨rfl,.inl ⟨rfl,rfl⟩⟩
 have HOWN0 := Lib.hid own0
 clear hsr hbv hn own0
 go_enter Tryz.func11,Tryz.ntmps11
 go_wp2_with fail
 go_loopw [7,8] (fun out v W => ∃ k : Nat,v = .int .i64 k ∧ k ≤ n ∧ Hid (W.ownsRow w.heap.size 29 5 out (rgQ qs A B k).length ((rgQ qs A B k).flatMap aenc)) ∧ Below w.heap.size w W) (fun _ v _ => n - (intOf v).toNat)
 case atStart => exact ⟨0,by simp,Nat.zero_le _,HOWN0,Below.refl _ _⟩
 case round =>
  clear HOWN0
  obtain ⟨k,rfl,hk,hown,hB⟩ := hrel
  obtain ⟨oa,oc,rfl⟩ := own_form hown.out
  by_cases hlt : k < n
  ·have g2 : decide (k < n) = true := by simpa using hlt
   have g2i : decide ((k : Int) < (n : Int)) = true := by simp; omega
   have hkq : k < qs.length := by rw [HN.out]; exact hlt
   obtain ⟨b,off,cap,e,hat⟩ := sr_rows aenc aenc_len (qs := qs) (by rw [HN.out]; have h := HQ.out.1; rw [HN.out] at h; exact h) (by omega)
   simp only [Value.slice.injEq] at e
   obtain ⟨rfl,-,-⟩ := e
   have hlen := rgQ_len qs A B k
   obtain ⟨ra,rc,hv⟩ := (HQ.out.2 qs[k] (List.getElem_mem hkq)).form
   have hyes := rgQ_yes qs A B k hkq
   have hno := rgQ_no qs A B k hkq
   obtain ⟨⟨⟨ha,hh,lo,pe,bs⟩,bv⟩,he⟩ : ∃ r,qs[k] = r := ⟨_,rfl⟩
   rw [he] at hv hyes hno
   simp only at hv
   subst hv
   obtain ⟨L,hL⟩ : ∃ L,bs.length = L := ⟨_,rfl⟩
   have hd := hat k qs[k] (List.getElem?_eq_getElem hkq)
   rw [he] at hd
   have d0 : wr.cell? ⟨b,off + k * 5,none⟩ = some (.int .u16 ha) := kc (hd 0 (.int .u16 ha) rfl) hB
   have d1 := kc (hd 1 (.int .u64 hh) rfl) hB
   have d2 := kc (hd 2 (.int .u64 lo) rfl) hB
   have d3 := kc (hd 3 (.int .i64 pe) rfl) hB
   have d4 := kc (hd 4 (.slice ra bs.length rc) rfl) hB
   rw [hL] at d4
   have hi0 : (0 : Int) ≤ (k : Int) := by omega
   have hi1 : (k : Int) < (n : Int) := by omega
   have w1 : IntKind.i64.wrap ((k : Int) + 1) = (k : Int) + 1 := by rw [IntWalk.i64_in _ (by omega)]
   have HLN := Lib.hid (And.intro hlen (And.intro hL hlt))
   obtain ⟨PA,hPA⟩ : ∃ x,decide (A ≤ ha) = x := ⟨_,rfl⟩
   obtain ⟨PB,hPB⟩ : ∃ x,decide (ha ≤ B) = x := ⟨_,rfl⟩
   have hin : inB A B ⟨ha,hh,lo,pe,bs⟩ = (PA && PB) := by unfold inB; rw [hPA,hPB]
   rw [hin] at hyes hno
   have HY := Lib.hid hyes
   have HNO := Lib.hid hno
   have HOWN := Lib.hid hown.out
   have HB := Lib.hid hB
   clear hat hd hlen hL hlt hin hyes hno he hown hkq
   cases PA with
   |false =>
    have hno := HNO.out rfl
    have HR := Lib.hid (show wr.ownsRow w.heap.size 29 5 (.slice oa (rgQ qs A B k).length oc) (rgQ qs A B (k + 1)).length ((rgQ qs A B (k + 1)).flatMap aenc) by rw [hno]; exact HOWN.out)
    clear hno HY HNO hB
    go_wp2
    go_roundw
    case rel => exact ⟨k + 1,by go_num,by have := HLN.out.2.2; omega,HR,HB.out⟩
    case measure => have := HLN.out.2.2; simp [intOf]; omega
   |true =>
    cases PB with
    |false =>
     have hno := HNO.out rfl
     have HR := Lib.hid (show wr.ownsRow w.heap.size 29 5 (.slice oa (rgQ qs A B k).length oc) (rgQ qs A B (k + 1)).length ((rgQ qs A B (k + 1)).flatMap aenc) by rw [hno]; exact HOWN.out)
     clear hno HY HNO hB
     go_wp2
     go_roundw
     case rel => exact ⟨k + 1,by go_num,by have := HLN.out.2.2; omega,HR,HB.out⟩
     case measure => have := HLN.out.2.2; simp [intOf]; omega
    |true =>
     have hyes := HY.out rfl
     have hbx : Below wr.heap.size wr (wr.alloc (.cells #[.int .u16 ha,.int .u64 hh,.int .u64 lo,.int .i64 pe,.slice ra L rc] 29)) := (Below.refl _ _).alloc (Nat.le_refl _) _
     have HIN := Lib.hid (own_below HOWN.out hbx)
     have hnew : ∀ j u,[Value.int .u16 ha,.int .u64 hh,.int .u64 lo,.int .i64 pe,.slice ra L rc][j]? = some u → (wr.alloc (.cells #[.int .u16 ha,.int .u64 hh,.int .u64 lo,.int .i64 pe,.slice ra L rc] 29)).cell? ((⟨wr.heap.size,0,none⟩ : Addr).add j) = some u := fun j u hj => by
      rw [addr_add,Nat.zero_add]
      exact cellNew wr #[.int .u16 ha,.int .u64 hh,.int .u64 lo,.int .i64 pe,.slice ra L rc] 29 j u (by simpa using hj)
     have hbase : w.heap.size ≤ (wr.alloc (.cells #[.int .u16 ha,.int .u64 hh,.int .u64 lo,.int .i64 pe,.slice ra L rc] 29)).heap.size := by have := hB.size; simp; omega
     have hlen := HLN.out.1
     have HBX := Lib.hid (hB.trans (hbx.mono hB.size))
     clear hbx HY HNO hB
     go_wp2_with (at_builtin; refine wpList_append_own_at _ rfl _ _ 22 rfl w.heap.size 29 i5 _ 5 56 Tryz.underlying22 hi5 hz0 hz1 hz2 rfl (by decide) _ _ _ rfl HIN.out ⟨wr.heap.size,0,none⟩ 1 1 [Value.int .u16 ha,.int .u64 hh,.int .u64 lo,.int .i64 pe,.slice ra L rc] rfl rfl hnew ?c6 (by unfold maxLen; omega) (by omega) hbase ?_)
     case c6 => intro u hu; simp at hu; rcases hu with rfl | rfl | rfl | rfl | rfl <;> rfl
     intro v6 w6 hown6 hg6 hnn6 hob6
     have own6 : w6.ownsRow w.heap.size 29 5 v6 (rgQ qs A B (k + 1)).length ((rgQ qs A B (k + 1)).flatMap aenc) := by
      rw [hyes,List.length_append,List.flatMap_append]
      have e : ([(⟨ha,hh,lo,pe,bs⟩,.slice ra bs.length rc)] : List (At × Value)).flatMap aenc = [Value.int .u16 ha,.int .u64 hh,.int .u64 lo,.int .i64 pe,.slice ra L rc] := by rw [← HLN.out.2.1]; rfl
      rw [e]
      exact hown6
     have hB6 := HBX.out.grown hg6 hbase (fun q hq => (HIN.out.lt q hq).1)
     have HOW := Lib.hid own6
     have HBW := Lib.hid hB6
     clear hown6 hg6 hnn6 hob6 hnew hbase HIN HBX own6 hB6 hyes hlen
     go_wp2
     go_roundw
     case rel => exact ⟨k + 1,by go_num,by have := HLN.out.2.2; omega,HOW,HBW.out⟩
     case measure => have := HLN.out.2.2; simp [intOf]; omega
  ·obtain rfl : k = n := by omega
   have g2 : decide (k < k) = false := by simp
   have g2i : decide ((k : Int) < (k : Int)) = false := by simp
   have e1 : rgQ qs A B k = qs.filter fun q => inB A B q.1 := by unfold rgQ; rw [List.take_of_length_le (by rw [HN.out]; exact Nat.le_refl _)]
   have e2 : rangeL (qs.map (·.1)) A B = (qs.filter fun q => inB A B q.1).map (·.1) := by unfold rangeL; rw [List.filter_map]; rfl
   have HF : Hid (DbR wr (.slice oa (rgQ qs A B k).length oc) (rangeL (qs.map (·.1)) A B)) := Lib.hid ⟨rgQ qs A B k,by rw [e1,e2],SR.of_own hown.out (fun u hu => by
    obtain ⟨q,hq,hu⟩ := List.mem_flatMap.1 hu
    have hq' : q ∈ qs := by rw [e1] at hq; exact (List.mem_filter.1 hq).1
    obtain ⟨a',c',e⟩ := (HQ.out.2 q hq').form
    simp [aenc] at hu
    rcases hu with rfl | rfl | rfl | rfl | rfl <;> first | rfl | (rw [e]; rfl)) (by have := rgQ_len qs A B k; unfold maxLen; omega),fun q hq => by
    have hq' : q ∈ qs := by rw [e1] at hq; exact (List.mem_filter.1 hq).1
    exact (HQ.out.2 q hq').below hB⟩
   clear e1 e2 hown hlt
   go_wp2
   go_ret
   exact ⟨_,rfl,HF.out,hB⟩
theorem bl_drewN {n : Nat} {w w' : World} (h : Below n w w') : ∀ m : Nat,Below n w (w'.drewN m)
 |0 => h
 |m + 1 => (bl_drewN h m).drew
theorem wrap_u64 (x : Int) : 0 ≤ IntKind.u64.wrap x := by
 have h : IntKind.u64.wrap x = x % 18446744073709551616 := rfl
 omega
theorem wrap_u64' (x : Int) : IntKind.u64.wrap x < 18446744073709551616 := by
 have h : IntKind.u64.wrap x = x % 18446744073709551616 := rfl
 omega
theorem num2_any (n size : Nat) (hn : n < 18446744073709551616) (hs : size ≤ 1000) (w : World) :
 Calls Tryz.prog 53 #[.int .i64 size,.int .u64 n] w fun e w' => ∃ v,e = .returned v ∧ w'.ownsRow w.heap.size 5 1 v size (bcells (putB n size)) ∧ Below w.heap.size w w' := by
 obtain ⟨i0,hi,hz0,hz1,hz2⟩ := info_parts Tryz.info_u8
 go_enter Tryz.func53,Tryz.ntmps53
 go_wp2
 go_loopw [1,5,6] (fun x v i wr => ∃ k : Nat,i = .int .i64 k ∧ k ≤ size ∧ x = .int .u64 ((n / 256 ^ k : Nat) : Int) ∧ wr.ownsRow w.heap.size 5 1 v k (bcells (putB n k)) ∧ Below w.heap.size w wr) (fun _ _ i _ => size - (intOf i).toNat)
 case atStart => exact ⟨0,by simp,Nat.zero_le _,by simp,World.ownsRow_made w #[] 0 (Nat.le_refl _) (by unfold maxLen; omega) rfl,(Below.refl _ _).alloc (Nat.le_refl _) _⟩
 case round =>
  obtain ⟨k,rfl,hk,rfl,hown,hB⟩ := hrel
  by_cases hlt : k < size
  ·have g1 : decide (k < size) = true := by simpa using hlt
   obtain ⟨N,hN⟩ : ∃ N,n / 256 ^ k = N := ⟨_,rfl⟩
   have hNle : N < 18446744073709551616 := by rw [← hN]; exact Nat.lt_of_le_of_lt (Nat.div_le_self _ _) hn
   have hN1 : n / 256 ^ (k + 1) = N / 256 := by rw [← hN,Nat.pow_succ,Nat.div_div_eq_div_mul]
   have hby : byt n k = N % 256 := by unfold byt; rw [hN]
   have HN := Lib.hid hN
   have HN1 := Lib.hid hN1
   have HBY := Lib.hid hby
   have b1 : (N : Int) < 18446744073709551616 := by omega
   have b0 : (0 : Int) ≤ (N : Int) := by omega
   have e1 : IntKind.u8.wrap ((N : Int) % 256) = ((N % 256 : Nat) : Int) := by rw [IntWalk.u8_in _ (by omega)]; simp
   rw [hN]
   have w1 : IntKind.i64.wrap ((k : Int) + 1) = (k : Int) + 1 := IntWalk.i64_in _ (by omega)
   clear hN hN1 hby
   go_wp2_with (at_builtin; refine wpList_append_own _ rfl _ _ 27 rfl w.heap.size 5 i0 (.int .u8 0) 1 1 Tryz.underlying27 hi hz0 hz1 hz2 rfl (by decide) _ _ _ rfl (hown.alloc _) ⟨wr.heap.size,0,none⟩ 1 1 [.int .u8 ((N % 256 : Nat) : Int)] rfl rfl (cell_one_new _ _ _) (by simp [Value.oneCell']) (by unfold maxLen; omega) (by omega) (by have := hB.size; simp; omega) ?_)
   intro v' w2 hown' hgrow _
   obtain ⟨g',c',rfl⟩ := ownsRow_succ hown'
   have hB1 : Below w.heap.size w w2 := (hB.alloc hB.size _).grown hgrow (by have := hB.size; simp; omega) (fun j hj => (hown.lt j hj).1)
   have hown2 : w2.ownsRow w.heap.size 5 1 (.slice (some ⟨g',0,none⟩) (k + 1) c') (k + 1) (bcells (putB n (k + 1))) := by
    rw [putB_succ,HBY.out]
    simpa [bcells] using hown'
   have HR : Hid (∃ k2 : Nat,Value.int .i64 ((k : Int) + 1) = .int .i64 k2 ∧ k2 ≤ size ∧ Value.int .u64 ((N : Int) / 256) = .int .u64 ((n / 256 ^ k2 : Nat) : Int) ∧ w2.ownsRow w.heap.size 5 1 (.slice (some ⟨g',0,none⟩) (k + 1) c') k2 (bcells (putB n k2)) ∧ Below w.heap.size w w2) :=
    Lib.hid ⟨k + 1,by simp,hlt,by rw [HN1.out]; simp,hown2,hB1⟩
   clear hown hgrow hB hown' hown2 hB1
   go_wp2
   refine ⟨HR.out,?_⟩
   simp [intOf]
   omega
  ·have g1 : decide (k < size) = false := by simpa using hlt
   obtain rfl : k = size := by omega
   go_wp2
   go_ret
   exact ⟨_,rfl,hown,hB⟩
theorem value8_any (a : Option Addr) (cap n : Nat) (bs : List Nat) (w : World) (h : BytesAt w (.slice a n cap) bs) (hn : bs.length = n) (hs : n ≤ 8) :
 Calls Tryz.prog 55 #[.slice a n cap] w fun e w' => e = .returned (.int .u64 (vnum bs : Nat)) ∧ w = w' := by
 obtain ⟨hsr,_,hlt⟩ := h
 rw [hn] at hsr
 obtain ⟨_,_,_,ao,cap',e,_,hc⟩ := hsr
 cases e
 have HC := Lib.hid hc
 have HLT := Lib.hid hlt
 have HN := Lib.hid hn
 clear hc hlt hn
 have z0 : IntKind.i64.wrap ((n : Int) - 1) = (n : Int) - 1 := IntWalk.i64_in _ (by omega)
 go_enter Tryz.func55,Tryz.ntmps55
 go_wp2
 clear z0
 go_loop [3,4] (fun x i => ∃ k : Nat,i = .int .i64 ((k : Int) - 1) ∧ k ≤ n ∧ x = .int .u64 (vnum (bs.drop k) : Nat)) (fun _ i => (intOf i + 1).toNat)
 case atStart => exact ⟨n,rfl,Nat.le_refl _,by rw [List.drop_of_length_le (by rw [HN.out]; exact Nat.le_refl _)]; rfl⟩
 case round =>
  obtain ⟨k,rfl,hk,rfl⟩ := hrel
  by_cases hk0 : k = 0
  ·subst hk0
   have g1 : decide ((0 : Int) ≤ ((0 : Nat) : Int) - 1) = false := by decide
   have g2 : decide ((1 : Int) ≤ ((0 : Nat) : Int)) = false := by decide
   go_wp2
   go_ret
   exact ⟨by simp,rfl⟩
  ·obtain ⟨j,rfl⟩ : ∃ j,k = j + 1 := ⟨k - 1,by omega⟩
   have hj : j < n := by omega
   obtain ⟨b,off,rfl,hb,hcell⟩ := HC.out (by omega)
   have hjl : j < bs.length := by rw [HN.out]; omega
   have hst := List.drop_eq_getElem_cons hjl
   have hx2 := HLT.out _ (List.getElem_mem hjl)
   have hcl := hcell j (.int .u8 (bs[j] : Nat)) (by simp [bcells,List.getElem?_eq_getElem hjl])
   obtain ⟨x,hxx⟩ : ∃ x,bs[j] = x := ⟨_,rfl⟩
   rw [hxx] at hst hx2 hcl
   obtain ⟨V,hV⟩ : ∃ V,bs.drop (j + 1) = V := ⟨_,rfl⟩
   have hVl : V.length ≤ 7 := by rw [← hV]; simp [HN.out]; omega
   have hVb := vnum_lt V fun y hy => HLT.out y (by rw [← hV] at hy; exact List.mem_of_mem_drop hy)
   have hVm : vnum V < 72057594037927936 := Nat.lt_of_lt_of_le hVb (Nat.le_trans (Nat.pow_le_pow_right (by decide) hVl) (by decide))
   rw [hV] at hst ⊢
   have hnew : vnum (bs.drop j) = vnum V * 256 + x := by rw [hst]; rfl
   obtain ⟨u,hu⟩ : ∃ u,vnum V = u := ⟨_,rfl⟩
   rw [hu] at hnew hVm ⊢
   have HNEW := Lib.hid hnew
   have e0 : ((j + 1 : Nat) : Int) - 1 = (j : Int) := by omega
   rw [e0]
   have g1 : decide ((0 : Int) ≤ (j : Int)) = true := by simp
   have w1 : IntKind.i64.wrap ((j : Int) - 1) = (j : Int) - 1 := IntWalk.i64_in _ (by omega)
   have w3 : IntKind.u64.wrap ((u : Int) * 256) = (u : Int) * 256 := IntWalk.u64_in _ (by omega)
   have w4 : IntKind.u64.wrap ((u : Int) * 256 + (x : Int)) = (u : Int) * 256 + (x : Int) := IntWalk.u64_in _ (by omega)
   have i1 : (j : Int) < (n : Int) := by omega
   have x1 : (x : Int) < 256 := by omega
   have x0 : (0 : Int) ≤ (x : Int) := by omega
   clear hst hV hVl hVb hu hxx hnew hcell e0 hVm
   go_wp2
   refine ⟨⟨j,rfl,by omega,by rw [HNEW.out]; simp⟩,?_⟩
   simp [intOf]
theorem turn_ex (n : Int) (hn : n = 7 ∨ n = 16) (x : Int) : ∃ r : Int,∀ W : World,Calls Tryz.prog 114 #[.int .u32 x,.int .i64 n] W fun e w' => e = .returned (.int .u32 r) ∧ Below W.heap.size W w' := by
 rcases hn with rfl | rfl
 all_goals
  apply Exists.intro
  case h =>
   intro W
   go_enter Tryz.func114,Tryz.ntmps114
   go_upto_region 1 with fail
   go_quiet (fail)
   go_wp2
   go_ret
   exact ⟨rfl,bl_drewN (Below.refl _ _) _⟩
theorem turn_fn : ∃ F : Int → Int → Int,∀ n : Int,n = 7 ∨ n = 16 → ∀ x : Int,∀ W : World,Calls Tryz.prog 114 #[.int .u32 x,.int .i64 n] W fun e w' => e = .returned (.int .u32 (F n x)) ∧ Below W.heap.size W w' :=
 ⟨fun n x => if h : n = 7 ∨ n = 16 then (turn_ex n h x).choose else 0,fun n h x => by simp only [dif_pos h]; exact (turn_ex n h x).choose_spec⟩
theorem low_ex (k : Int) (i : Nat) (hi : i < 8) : ∃ r : Int,∀ W : World,Calls Tryz.prog 113 #[.int .u64 k,.int .i64 i] W fun e w' => e = .returned (.int .u32 r) ∧ Below W.heap.size W w' := by
 rcases (show i = 0 ∨ i = 1 ∨ i = 2 ∨ i = 3 ∨ i = 4 ∨ i = 5 ∨ i = 6 ∨ i = 7 by omega) with rfl | rfl | rfl | rfl | rfl | rfl | rfl | rfl
 ·apply Exists.intro
  case h =>
   intro W
   go_enter Tryz.func113,Tryz.ntmps113
   go_wp2
   go_ret
   exact ⟨rfl,Below.refl _ _⟩
 all_goals
  apply Exists.intro
  case h =>
   intro W
   go_enter Tryz.func113,Tryz.ntmps113
   go_upto_region 4 with fail
   go_quiet (fail)
   go_wp2
   go_ret
   exact ⟨rfl,bl_drewN (Below.refl _ _) _⟩
theorem low_fn : ∃ F : Int → Nat → Int,∀ k i,i < 8 → ∀ W : World,Calls Tryz.prog 113 #[.int .u64 k,.int .i64 (i : Nat)] W fun e w' => e = .returned (.int .u32 (F k i)) ∧ Below W.heap.size W w' :=
 ⟨fun k i => if h : i < 8 then (low_ex k i h).choose else 0,fun k i h => by simp only [dif_pos h]; exact (low_ex k i h).choose_spec⟩
theorem round_ex (k h : Int) (i : Nat) (hi : i < 8) : ∃ r : Int,∀ W : World,Calls Tryz.prog 100 #[.int .u64 k,.int .i64 i,.int .u32 h] W fun e w' => e = .returned (.int .u32 r) ∧ Below W.heap.size W w' := by
 obtain ⟨F,hF⟩ := low_fn
 obtain ⟨T,hT⟩ := turn_fn
 have HF := Lib.hid (hF k i hi)
 have HT := Lib.hid (hT 7 (.inl rfl))
 have HU := Lib.hid (hT 16 (.inr rfl))
 clear hF hT
 generalize F k i = L at HF
 apply Exists.intro
 case h =>
  intro W
  go_enter Tryz.func100,Tryz.ntmps100
  go_wp2_with fail
  refine (HF.out _).mono ?_
  rintro e w2 ⟨rfl,h2⟩
  go_wp2_with fail
  refine (HT.out _ _).mono ?_
  rintro e w3 ⟨rfl,h3⟩
  go_wp2_with fail
  refine (HU.out _ _).mono ?_
  rintro e w4 ⟨rfl,h4⟩
  have hB := (h2.trans (h3.mono h2.size)).trans (h4.mono (h2.trans (h3.mono h2.size)).size)
  go_wp2
  go_ret
  exact ⟨rfl,hB⟩
theorem round_fn : ∃ F : Int → Nat → Int → Int,∀ k i h,i < 8 → ∀ W : World,Calls Tryz.prog 100 #[.int .u64 k,.int .i64 (i : Nat),.int .u32 h] W fun e w' => e = .returned (.int .u32 (F k i h)) ∧ Below W.heap.size W w' :=
 ⟨fun k i h => if hi : i < 8 then (round_ex k h i hi).choose else 0,fun k i h hi => by simp only [dif_pos hi]; exact (round_ex k h i hi).choose_spec⟩
/-- the halves after some rounds -/
def mixS (F : Nat → Int → Int) (l r : Int) : Nat → Int × Int
 |0 => (l,r)
 |n + 1 => ((mixS F l r n).2,bits .xor .u32 (mixS F l r n).1 (F n (mixS F l r n).2))
theorem mix_ex (k x : Int) : ∃ r : Int,(∀ W : World,Calls Tryz.prog 54 #[.int .u64 k,.int .u64 x] W fun e w' => e = .returned (.int .u64 r) ∧ Below W.heap.size W w') ∧ 0 ≤ r ∧ r < 18446744073709551616 := by
 obtain ⟨F,hF⟩ := round_fn
 have HF := Lib.hid (hF k)
 clear hF
 generalize F k = G at HF
 obtain ⟨L,hL⟩ : ∃ l,IntKind.u64.wrap (x.tdiv 4294967296) % 4294967296 = l := ⟨_,rfl⟩
 obtain ⟨R,hR⟩ : ∃ l,x.tmod 4294967296 % 4294967296 = l := ⟨_,rfl⟩
 have HLL := Lib.hid hL
 have HRR := Lib.hid hR
 clear hL hR
 apply Exists.intro
 case h =>
  constructor
  case left =>
   intro W
   go_enter Tryz.func54,Tryz.ntmps54
   go_wp2_with fail
   rw [HLL.out,HRR.out]
   go_loopw [5,6,7] (fun l r i wr => ∃ j : Nat,i = .int .i64 j ∧ j ≤ 8 ∧ l = .int .u32 (mixS G L R j).1 ∧ r = .int .u32 (mixS G L R j).2 ∧ Below W.heap.size W wr) (fun _ _ i _ => 8 - (intOf i).toNat)
   case atStart => exact ⟨0,by simp,Nat.zero_le _,rfl,rfl,Below.refl _ _⟩
   case round =>
    obtain ⟨j,rfl,hj,rfl,rfl,hB⟩ := hrel
    have w1 : IntKind.i64.wrap ((j : Int) + 1) = (j : Int) + 1 := IntWalk.i64_in _ (by omega)
    by_cases hlt : j < 8
    ·have g1 : decide (j < 8) = true := by simpa using hlt
     have g1i : decide ((j : Int) < 8) = true := by simp; omega
     have hs : mixS G L R (j + 1) = ((mixS G L R j).2,bits .xor .u32 (mixS G L R j).1 (G j (mixS G L R j).2)) := rfl
     obtain ⟨A,hA⟩ : ∃ A,(mixS G L R j).1 = A := ⟨_,rfl⟩
     obtain ⟨C,hC⟩ : ∃ A,(mixS G L R j).2 = A := ⟨_,rfl⟩
     rw [hA,hC] at hs ⊢
     have HS := Lib.hid hs
     have HR := Lib.hid (HF.out j C hlt)
     have HJ := Lib.hid hlt
     clear hs hA hC hlt
     go_wp2_with fail
     refine (HR.out _).mono ?_
     rintro e w2 ⟨rfl,h2⟩
     have hB2 := hB.trans (h2.mono hB.size)
     clear hB h2
     go_wp2
     go_roundw
     case rel => exact ⟨j + 1,by go_num,HJ.out,by rw [HS.out],by rw [HS.out],hB2⟩
     case measure => have := HJ.out; simp [intOf]; omega
    ·obtain rfl : j = 8 := by omega
     have g1 : decide (8 < 8) = false := by decide
     clear hlt w1 hj
     go_wp2
     go_ret
     exact ⟨rfl,hB⟩
  case right => exact ⟨wrap_u64 _,wrap_u64' _⟩
theorem mix_fn (k : Int) : ∃ F : Int → Nat,∀ x,F x < 18446744073709551616 ∧ ∀ W : World,Calls Tryz.prog 54 #[.int .u64 k,.int .u64 x] W fun e w' => e = .returned (.int .u64 (F x : Nat)) ∧ Below W.heap.size W w' :=
 ⟨fun x => (mix_ex k x).choose.toNat,fun x => by
  obtain ⟨h1,h2,h3⟩ := (mix_ex k x).choose_spec
  refine ⟨by show (mix_ex k x).choose.toNat < _; omega,fun W => ?_⟩
  have e : (((mix_ex k x).choose.toNat : Nat) : Int) = (mix_ex k x).choose := by omega
  rw [e]
  exact h1 W⟩
/-- the tag after some rounds -/
def tagS (M : Int → Nat) (bs : List Nat) : Nat → Nat
 |0 => M (bs.length : Int)
 |j + 1 => M (bits .xor .u64 (tagS M bs j : Int) (vnum ((bs.drop (8 * j)).take 8) : Nat))
theorem tag_ex (k : Int) : ∃ T : List Nat → Nat,∀ bs : List Nat,bs.length ≤ 1000000 → T bs < 18446744073709551616 ∧ ∀ (a : Option Addr) (n c : Nat) (W : World),BytesAt W (.slice a n c) bs → bs.length = n → n ≤ c → Calls Tryz.prog 30 #[.int .u64 k,.slice a n c] W fun e w' => e = .returned (.int .u64 (T bs : Nat)) ∧ Below W.heap.size W w' := by
 obtain ⟨M,hM⟩ := mix_fn k
 refine ⟨fun bs => tagS M bs ((bs.length + 7) / 8),fun bs hm => ⟨?_,fun a n c W hby hn hc => ?_⟩⟩
 ·show tagS M bs ((bs.length + 7) / 8) < 18446744073709551616
  cases (bs.length + 7) / 8 with
  |zero => exact (hM _).1
  |succ j => exact (hM _).1
 have HM := Lib.hid hM
 have HBY := Lib.hid hby
 have HN := Lib.hid hn
 have h0 : tagS M bs 0 = M (n : Int) := by rw [← hn]; rfl
 have H0 := Lib.hid h0
 have hm' : n ≤ 1000000 := by omega
 have u1 : IntKind.u64.wrap (n : Int) = (n : Int) := IntWalk.u64_in _ (by omega)
 clear hM hby hn h0 hm
 simp only [HN.out]
 go_enter Tryz.func30,Tryz.ntmps30
 go_wp2_with fail
 refine ((HM.out _).2 _).mono ?_
 rintro e w1 ⟨rfl,hB1⟩
 rw [← H0.out]
 clear u1
 go_wp2_with fail
 go_loopw [5,6] (fun x i wr => ∃ j : Nat,i = .int .i64 ((8 * j : Nat) : Int) ∧ 8 * j < n + 8 ∧ x = .int .u64 (tagS M bs j : Nat) ∧ Below W.heap.size W wr) (fun _ i _ => n - (intOf i).toNat)
 case atStart => exact ⟨0,by simp,by omega,rfl,hB1⟩
 case round =>
  obtain ⟨j,rfl,hj,rfl,hB⟩ := hrel
  obtain ⟨at',hat⟩ : ∃ x,8 * j = x := ⟨_,rfl⟩
  rw [hat] at hj ⊢
  by_cases hlt : at' < n
  ·have g1 : decide (at' < n) = true := by simpa using hlt
   have g1i : decide ((at' : Int) < (n : Int)) = true := by simp; omega
   have w1 : IntKind.i64.wrap ((at' : Int) + 8) = ((at' + 8 : Nat) : Int) := by rw [IntWalk.i64_in _ (by omega)]; simp
   obtain ⟨e8,he8⟩ : ∃ x,at' + 8 = x := ⟨_,rfl⟩
   rw [he8] at w1
   have HST := Lib.hid (show tagS M bs (j + 1) = M (bits .xor .u64 (tagS M bs j : Int) (vnum ((bs.drop (8 * j)).take 8) : Nat)) from rfl)
   have HAT := Lib.hid (And.intro hat (And.intro he8 hlt))
   have htk : ∀ m,m = min e8 n → (bs.drop at').take (m - at') = (bs.drop (8 * j)).take 8 := fun m hm => by
    rw [hat]
    by_cases c8 : e8 ≤ n
    ·rw [show m - at' = 8 by omega]
    ·rw [List.take_of_length_le (by rw [List.length_drop,HN.out]; omega),List.take_of_length_le (by rw [List.length_drop,HN.out]; omega)]
   obtain ⟨bb,hbb⟩ : ∃ x,(bs.drop (8 * j)).take 8 = x := ⟨_,rfl⟩
   simp only [hbb] at htk HST
   by_cases c8 : n < e8
   ·obtain ⟨a',c',hcut,hrun⟩ := bytes_mid W a n c at' n bs HBY.out HN.out hc (by omega) (Nat.le_refl _)
    rw [htk n (by omega)] at hcut
    have hcl : bb.length = n - at' := by have h := htk n (by omega); rw [← h,List.length_take,List.length_drop,HN.out]; omega
    have hsl := fun W2 (hW : Below W.heap.size W W2) => value8_any a' c' (n - at') bb W2 (hcut.below hW) hcl (by omega)
    obtain ⟨ml,hml⟩ : ∃ x,n - at' = x := ⟨_,rfl⟩
    rw [hml] at hrun
    simp only [hml] at hsl
    have HV := Lib.hid hsl
    have hb3 : at' ≤ n := by omega
    generalize vnum bb = vv at HV HST
    generalize tagS M bs j = tt at HST ⊢
    clear hcut htk hcl hml hat he8 hlt hj hbb hsl
    go_wp2_with fail
    refine (HV.out _ hB).mono ?_
    rintro e w2 ⟨rfl,rfl⟩
    go_wp2_with fail
    refine ((HM.out _).2 _).mono ?_
    rintro e w3 ⟨rfl,hC⟩
    rw [← HST.out]
    have hB3 := hB.trans (hC.mono hB.size)
    have w8 : IntKind.i64.wrap ((at' : Int) + 8) = ((8 * (j + 1) : Nat) : Int) := by rw [IntWalk.i64_in _ (by have := HAT.out.2.2; omega)]; have := HAT.out.1; omega
    clear hB hC HV w1 hrun hb3 c8
    go_wp2
    go_roundw
    case rel => exact ⟨j + 1,by go_num,by have := HAT.out; omega,rfl,hB3⟩
    case measure => have := HAT.out; simp [intOf]; omega
   ·obtain ⟨a',c',hcut,hrun⟩ := bytes_mid W a n c at' e8 bs HBY.out HN.out hc (by omega) (by omega)
    rw [htk e8 (by omega)] at hcut
    have hcl : bb.length = e8 - at' := by have h := htk e8 (by omega); rw [← h,List.length_take,List.length_drop,HN.out]; omega
    have hsl := fun W2 (hW : Below W.heap.size W W2) => value8_any a' c' (e8 - at') bb W2 (hcut.below hW) hcl (by omega)
    obtain ⟨ml,hml⟩ : ∃ x,e8 - at' = x := ⟨_,rfl⟩
    rw [hml] at hrun
    simp only [hml] at hsl
    have HV := Lib.hid hsl
    have hb3 : at' ≤ e8 := by omega
    generalize vnum bb = vv at HV HST
    generalize tagS M bs j = tt at HST ⊢
    clear hcut htk hcl hml hat he8 hlt hj hbb hsl
    go_wp2_with fail
    refine (HV.out _ hB).mono ?_
    rintro e w2 ⟨rfl,rfl⟩
    go_wp2_with fail
    refine ((HM.out _).2 _).mono ?_
    rintro e w3 ⟨rfl,hC⟩
    rw [← HST.out]
    have hB3 := hB.trans (hC.mono hB.size)
    have w8 : IntKind.i64.wrap ((at' : Int) + 8) = ((8 * (j + 1) : Nat) : Int) := by rw [IntWalk.i64_in _ (by have := HAT.out.2.2; omega)]; have := HAT.out.1; omega
    clear hB hC HV w1 hrun hb3 c8
    go_wp2
    go_roundw
    case rel => exact ⟨j + 1,by go_num,by have := HAT.out; omega,rfl,hB3⟩
    case measure => have := HAT.out; simp [intOf]; omega
  ·have g1 : decide (at' < n) = false := by simpa using hlt
   have g1i : decide ((at' : Int) < (n : Int)) = false := by simp; omega
   have hjq : (n + 7) / 8 = j := by omega
   have HJQ := Lib.hid hjq
   clear hjq hat hj
   go_wp2
   go_ret
   exact ⟨ret_eq (by rw [HJQ.out]),hB⟩
/-- an append of what is read to a row of one's own -/
theorem wpList_app_ownN {P : Program} {w : World} {ops : Array Oper} {rest : List Oper} {o : Oper} {a : Act} {Q : Exit → Act → World → Prop} (hgd : o.guard = none) (s x : Operand) (t : TypeId)
 (ho : o.op = .call { callee := .builtin .append,args := #[s,x],argTypes := #[t,t] })
 (base : Nat) (e : TypeId) (i : TypeInfo) (z : Value) (size bytes : Nat) (ht : P.underlying t = some (.slice e)) (hi : P.info? e = some i) (hz : i.zero = some z)
 (hsize : i.size = size) (hby : i.bytes = bytes) (hzs : z.cells.size = size) (hsz : 0 < size) (v : Value) (n : Nat) (cs0 : List Value) (hs : a.eval s = v) (hown : w.ownsRow base e size v n cs0)
 (sv : Value) (m : Nat) (cs : List Value) (hx : a.eval x = sv) (hsr : SR w sv m size cs) (hm : n + m ≤ maxLen) (hbytes : (n + m) * bytes ≤ 140737488355328) (hbase : base ≤ w.heap.size)
 (h : ∀ v' w',w'.ownsRow base e size v' (n + m) (cs0 ++ cs) → w.grownBy w' v.ownBlock → wpList P ops Q rest (a.put o.dst v') w') : wpList P ops Q (o :: rest) a w := by
 obtain ⟨_,hl,h1,ao,cap,rfl,hnil,hc⟩ := hsr
 cases ao with
 |none =>
  obtain ⟨rfl,rfl⟩ := hnil rfl
  have hcs : cs = [] := List.eq_nil_of_length_eq_zero (by simpa using hl)
  subst hcs
  exact wpList_append_own_none hgd s x t ho base e i size ht hi v n cs0 hs hown hx (by simpa using h v w (by simpa using hown) (World.grownBy.refl w _))
 |some ad =>
  refine wpList_append_own_at w hgd s x t ho base e i z size bytes ht hi hz hsize hby hzs hsz v n cs0 hs hown ad m cap cs hx hl (fun j u hj => ?_) h1 hm hbytes hbase (fun v' w' h2 h3 _ _ => h v' w' h2 h3)
  have hj' := (List.getElem?_eq_some_iff.1 hj).1
  obtain ⟨b,off,e0,_,hcs⟩ := hc (by
   rcases Nat.eq_zero_or_pos m with h0 | h0
   ·subst h0; omega
   ·exact h0)
  cases e0
  rw [addr_add]
  exact hcs j u hj
/-- bytes at the start of a block, with room behind them -/
def Sap (w : World) (B : Nat) (v : Value) (bs : List Nat) : Prop := ∃ b cap,v = .slice (some ⟨b,0,none⟩) bs.length cap ∧ B ≤ b ∧ b < w.heap.size ∧ bs.length ≤ cap ∧ (∀ j u,(bcells bs)[j]? = some u → w.cell? ⟨b,0 + j,none⟩ = some u) ∧ ∀ j,bs.length ≤ j → j < cap → (w.cell? ⟨b,j,none⟩).isSome = true ∧ w.frozen? ⟨b,j,none⟩ = false
theorem cell_of_heap {w : World} {b : Nat} {c : Array Value} {e : TypeId} {m : Nat × Nat} (h : w.heap[b]? = some (.cells c e m)) (j : Nat) : w.cell? ⟨b,j,none⟩ = c[j]? := by
 simp [World.cell?,h]
theorem Sap.of_own {w : World} {B : Nat} {v : Value} {bs : List Nat} (h : w.ownsRow B 5 1 v bs.length (bcells bs)) (h0 : 0 < bs.length) : Sap w B v bs := by
 rcases h.2 with ⟨_,h1⟩ | ⟨g,cap,cur,rfl,hbg,hg,hnc,hcm,hcs,htake⟩
 ·omega
 ·have hlt : g < w.heap.size := by
   rcases Nat.lt_or_ge g w.heap.size with h' | h'
   ·exact h'
   ·rw [Array.getElem?_eq_none h'] at hg
    cases hg
  refine ⟨g,cap,rfl,hbg,hlt,hnc,fun j u hj => ?_,fun j h1 h2 => ⟨?_,?_⟩⟩
  ·rw [cell_of_heap hg,Nat.zero_add,← htake] at *
   have hj' := (List.getElem?_eq_some_iff.1 hj).1
   rw [List.getElem?_take] at hj
   split at hj
   ·simpa using hj
   ·cases hj
  ·rw [cell_of_heap hg,Array.getElem?_eq_getElem (by omega)]
   rfl
  ·simp [World.frozen?,hg]
theorem Sap.at {w : World} {B : Nat} {v : Value} {bs : List Nat} (h : Sap w B v bs) (hm : bs.length ≤ 1000000) (h8 : ∀ x ∈ bs,x < 256) : ∃ b cap,v = .slice (some ⟨b,0,none⟩) bs.length cap ∧ bs.length ≤ cap ∧ BytesAt w (.slice (some ⟨b,0,none⟩) bs.length cap) bs := by
 obtain ⟨b,cap,rfl,_,h1,h2,h3,_⟩ := h
 exact ⟨b,cap,rfl,h2,⟨by unfold maxLen; omega,by rw [bcells_len]; omega,bcells_one _,_,_,rfl,fun e => (by cases e),fun _ => ⟨b,0,rfl,h1,h3⟩⟩,by unfold reachBytes; omega,h8⟩
theorem Sap.below {w w' : World} {B : Nat} {v : Value} {bs : List Nat} (h : Sap w B v bs) (hb : Below w.heap.size w w') : Sap w' B v bs := by
 obtain ⟨b,cap,rfl,h0,h1,h2,h3,h4⟩ := h
 have hh := hb.block b h1
 refine ⟨b,cap,rfl,h0,Nat.lt_of_lt_of_le h1 hb.size,h2,fun j u hj => kc (h3 j u hj) hb,fun j h5 h6 => ?_⟩
 have := h4 j h5 h6
 unfold World.cell? World.frozen? at this ⊢
 simp only at this ⊢
 rw [hh]
 exact this
theorem wpList_sap {P : Program} {w : World} {ops : Array Oper} {rest : List Oper} {o : Oper} {a : Act} {Q : Exit → Act → World → Prop} (hgd : o.guard = none) (s x : Operand) (t : TypeId)
 (ho : o.op = .call { callee := .builtin .append,args := #[s,x],argTypes := #[t,t] })
 (i : TypeInfo) (ht : P.underlying t = some (.slice 5)) (hi : P.info? 5 = some i) (hz : i.zero = some (.int .u8 0)) (hsize : i.size = 1) (hby : i.bytes = 1)
 (base : Nat) (hb : base ≤ w.heap.size) (v : Value) (bs : List Nat) (hs : a.eval s = v) (hv : Sap w base v bs)
 (ad : Addr) (c : Nat) (ns : List Nat) (hx : a.eval x = .slice (some ad) ns.length c) (hc : ∀ j u,(bcells ns)[j]? = some u → w.cell? (ad.add j) = some u) (hm : bs.length + ns.length ≤ 1000000)
 (h : ∀ v' w',Sap w' base v' (bs ++ ns) → Below base w w' → wpList P ops Q rest (a.put o.dst v') w') : wpList P ops Q (o :: rest) a w := by
 obtain ⟨b,cap,rfl,h0,h1,h2,h3,h4⟩ := hv
 have hbc : bcells (bs ++ ns) = bcells bs ++ bcells ns := by simp [bcells]
 refine wpList_append_arg w hgd s x t ho 5 i (.int .u8 0) 1 1 ht hi hz hsize hby rfl (by decide) b 0 bs.length cap (bcells bs) hs (by rw [bcells_len]; omega) h3 ad ns.length c (bcells ns) hx (by rw [bcells_len]; omega) hc (bcells_one _) (fun hr j hj => ?_) (by unfold maxLen; omega) (by omega) (fun hr => ?_) (fun hg v' w' hown hgr => ?_)
 ·rw [bcells_len] at hj
  exact h4 _ (by omega) (by omega)
 ·refine h _ _ ?_ ?_
  ·have hsz := (setCells_grown b (bcells ns) (0 + bs.length * 1) w).size
   have hin := World.cell?_setCells_in b (bcells ns) (0 + bs.length * 1) w (fun j hj => by rw [bcells_len] at hj; exact (h4 _ (by omega) (by omega)).1)
   refine ⟨b,cap,by rw [List.length_append],h0,by omega,by rw [List.length_append]; exact hr,fun j u hj => ?_,fun j h5 h6 => ?_⟩
   ·rw [hbc] at hj
    by_cases hjl : j < bs.length
    ·rw [World.cell?_setCells_out b _ _ w _ (fun _ _ => .inl (by show 0 + j < _; omega))]
     rw [List.getElem?_append_left (by rw [bcells_len]; exact hjl)] at hj
     exact h3 j u hj
    ·rw [List.getElem?_append_right (by rw [bcells_len]; omega),bcells_len] at hj
     have hj2 := (List.getElem?_eq_some_iff.1 hj).1
     have := hin (j - bs.length) hj2
     rw [show 0 + j = 0 + bs.length * 1 + (j - bs.length) by omega,this,← List.getElem?_eq_getElem hj2]
     exact hj
   ·rw [List.length_append] at h5
    refine ⟨World.isSome_setCells b _ _ _ _ (h4 j (by omega) h6).1,?_⟩
    rw [World.frozen?_setCells]
    exact (h4 j (by omega) h6).2
  ·exact (Below.refl base w).grown (setCells_grown b _ _ w) hb (fun k hk => by injection hk with hk; omega)
 ·by_cases hl0 : bs.length + ns.length = 0
  ·omega
  ·have hown' : w'.ownsRow base 5 1 v' (bs ++ ns).length (bcells (bs ++ ns)) := by
    rw [hbc,List.length_append]
    exact ⟨by rw [List.length_append,bcells_len,bcells_len]; omega,hown.2.imp (fun h => ⟨h.1,by omega⟩) (fun ⟨g,cap,cur,q1,q2,q3,q4,q5,q6,q7⟩ => ⟨g,cap,cur,q1,by omega,q3,q4,q5,q6,q7⟩)⟩
   exact h _ _ (Sap.of_own hown' (by rw [List.length_append]; omega)) ((Below.refl base w).grown hgr hb (fun k hk => by cases hk))
theorem str_bytes (W : World) : ∃ c,(convert 9 27 (.string { data := #[104,97,115,104] })).run Tryz.prog W = .ok (.slice (some ⟨W.heap.size,0,none⟩) 4 c) (W.drew.alloc (.cells (Go.bytesRow { data := #[104,97,115,104] } c) 5 ((Go.bytesRow { data := #[104,97,115,104] } c).size,(Go.bytesRow { data := #[104,97,115,104] } c).size + 1))) ∧ 4 ≤ c := by
 refine ⟨_,run_bytes_of_string W 9 27 5 { data := #[104,97,115,104] } Tryz.underlying9 Tryz.underlying27 Tryz.underlying5,?_⟩
 exact grownCap_ge W 4 0 5
theorem derive_ex : ∃ D : Nat → Nat,∀ t : Nat,t < 18446744073709551616 → D t < 18446744073709551616 ∧ ∀ (H : Nat) (W : World),W.cell? ⟨H,0,none⟩ = some (.int .u64 (t : Nat)) → Calls Tryz.prog 29 #[.int .u64 0,.string { data := #[104,97,115,104] },.slice (some ⟨H,0,none⟩) 1 1] W fun e w' => e = .returned (.int .u64 (D t : Nat)) ∧ Below W.heap.size W w' := by
 obtain ⟨i0,hi,hz0,hz1,hz2⟩ := info_parts Tryz.info_u8
 obtain ⟨T,hT⟩ := tag_ex 0
 refine ⟨fun t => T ([104,97,115,104,0] ++ putB t 8),fun t ht => ⟨(hT _ (by simp [putB_len])).1,fun H W hc => ?_⟩⟩
 have HT := Lib.hid (hT ([104,97,115,104,0] ++ putB t 8) (by simp [putB_len])).2
 show Calls _ _ _ _ fun e w' => e = .returned (.int .u64 (T ([104,97,115,104,0] ++ putB t 8) : Nat)) ∧ Below W.heap.size W w'
 generalize T ([104,97,115,104,0] ++ putB t 8) = R at HT ⊢
 have HNU := Lib.hid (fun W2 => num2_any t 8 ht (by decide) W2)
 obtain ⟨c,hcv,hc4⟩ := str_bytes W
 have hf : (W.drew.alloc (.cells (Go.bytesRow { data := #[104,97,115,104] } c) 5 ((Go.bytesRow { data := #[104,97,115,104] } c).size,(Go.bytesRow { data := #[104,97,115,104] } c).size + 1))).heap[W.heap.size]? = some (.cells (Go.bytesRow { data := #[104,97,115,104] } c) 5 ((Go.bytesRow { data := #[104,97,115,104] } c).size,(Go.bytesRow { data := #[104,97,115,104] } c).size + 1)) := heap_alloc_new W.drew _
 have h4 : ({ data := #[104,97,115,104] } : ByteArray).size = 4 := rfl
 have hsz : (Go.bytesRow { data := #[104,97,115,104] } c).size = c := by simp [Go.bytesRow,h4]; omega
 generalize hX : World.alloc W.drew _ = X at hcv hf
 have hBX : Below W.heap.size W X := by rw [← hX]; exact (Below.refl _ _).drew.alloc (Nat.le_refl _) _
 have hXs : X.heap.size = W.heap.size + 1 := by rw [← hX]; simp
 have sap0 : Sap X W.heap.size (.slice (some ⟨W.heap.size,0,none⟩) 4 c) [104,97,115,104] := by
  refine ⟨W.heap.size,c,rfl,Nat.le_refl _,by omega,hc4,fun j u hj => ?_,fun j h5 h6 => ⟨?_,?_⟩⟩
  ·rw [cell_of_heap hf,Nat.zero_add]
   have hj' : j < 4 := by have := (List.getElem?_eq_some_iff.1 hj).1; simpa [bcells] using this
   unfold Go.bytesRow
   rw [Array.getElem?_append_left (by simpa using hj')]
   simpa [bcells] using hj
  ·rw [cell_of_heap hf,Array.getElem?_eq_getElem (by omega)]
   rfl
  ·have : j < 4 + (c - 4) := by omega
   simp [World.frozen?,hf,Go.bytesRow,h4]
   omega
 have HS0 := Lib.hid sap0
 have HBX := Lib.hid hBX
 have hc2 := kc hc hBX
 have HC0 := Lib.hid hc
 clear hT ht hX hf hsz sap0 hc hc4 hXs h4
 go_enter Tryz.func29,Tryz.ntmps29
 go_upto_region 2 with (refine wpList_sap rfl _ _ 27 rfl i0 Tryz.underlying27 hi hz0 hz1 hz2 W.heap.size (by have := HBX.out.size; simp; omega) _ _ rfl (HS0.out.below ((Below.refl _ _).alloc (Nat.le_refl _) _)) ⟨X.heap.size,0,none⟩ 1 [0] rfl (cell_one_new _ _ _) (by simp) ?_; intro v1 w1 sap1 hb1)
 have hB1 := (HBX.out.alloc HBX.out.size (.cells #[.int .u8 0] 5)).trans hb1
 have hc3 := kc hc2 ((Below.refl _ _).alloc (Nat.le_refl _) (.cells #[.int .u8 0] 5))
 have HCC := Lib.hid HC0.out
 have HS1 := Lib.hid sap1
 clear hc2 hc3 hb1 sap1 hcv HS0 HBX
 go_wp2_with fail
 go_loopw [7,8] (fun v i wr => ∃ k : Nat,i = .int .i64 k ∧ k ≤ 1 ∧ Hid (Sap wr W.heap.size v (if k = 0 then [104,97,115,104,0] else [104,97,115,104,0] ++ putB t 8)) ∧ Below W.heap.size W wr) (fun _ i _ => 1 - (intOf i).toNat)
 case atStart => exact ⟨0,by simp,Nat.zero_le _,Lib.hid HS1.out,hB1⟩
 case round =>
  obtain ⟨k,rfl,hk,hsap,hB⟩ := hrel
  clear HS1 hB1
  rcases (show k = 0 ∨ k = 1 by omega) with rfl | rfl
  ·have hs0 := hsap.out
   rw [if_pos rfl] at hs0
   obtain ⟨b,cap,rfl,hbb⟩ := hs0
   have HS := Lib.hid (show Sap wr W.heap.size (.slice (some ⟨b,0,none⟩) 5 cap) [104,97,115,104,0] from ⟨b,cap,rfl,hbb⟩)
   have hc := kc HCC.out hB
   clear hbb hsap hk
   go_wp2_with fail
   refine (HNU.out _).mono ?_
   rintro e w2 ⟨v2,rfl,hown,hC⟩
   obtain ⟨g2,c2,rfl⟩ := ownsRow_succ hown
   have hB2 := hB.trans (hC.mono hB.size)
   have hsr := SR.of_own hown (bcells_one _) (by decide)
   have hcs : ∀ j u,(bcells (putB t 8))[j]? = some u → w2.cell? ((⟨g2,0,none⟩ : Addr).add j) = some u := fun j u hj => by
    obtain ⟨_,_,_,ao,cp,e,_,hx⟩ := hsr
    cases e
    obtain ⟨b5,o5,e5,_,hy⟩ := hx (by decide)
    cases e5
    rw [addr_add]
    exact hy j u hj
   have HX := Lib.hid (And.intro hcs (And.intro (HS.out.below hC) hB2))
   clear hown hC hsr hcs hB hB2 hc HS
   go_wp2_with (refine wpList_sap rfl _ _ 27 rfl i0 Tryz.underlying27 hi hz0 hz1 hz2 W.heap.size HX.out.2.2.size _ _ rfl HX.out.2.1 ⟨g2,0,none⟩ c2 (putB t 8) (by rw [putB_len]; rfl) HX.out.1 (by rw [putB_len]; decide) ?_; intro v3 w3 sap3 hb3)
   have HR := Lib.hid (And.intro sap3 (HX.out.2.2.trans hb3))
   clear sap3 hb3 HX
   go_wp2
   go_roundw
   case rel => exact ⟨1,by go_num,by decide,Lib.hid (by rw [if_neg (by decide)]; exact HR.out.1),HR.out.2⟩
   case measure => simp [intOf]
  ·have hs1 := hsap.out
   rw [if_neg (by decide)] at hs1
   obtain ⟨b,cap,rfl,hcap,hby⟩ := hs1.at (by simp [putB_len]) (fun x hx => by
    rcases List.mem_append.1 hx with h | h
    ·simp at h; omega
    ·exact putB_lt _ _ x h)
   have HTT := Lib.hid (HT.out _ _ _ wr hby rfl hcap)
   clear hsap hs1 hcap hby
   go_wp2_with fail
   refine HTT.out.mono ?_
   rintro e w2 ⟨rfl,hC⟩
   have hB2 := hB.trans (hC.mono hB.size)
   go_wp2
   go_ret
   exact ⟨rfl,hB2⟩
end Go.Proofs.YtldcihjddebciaaGreat
