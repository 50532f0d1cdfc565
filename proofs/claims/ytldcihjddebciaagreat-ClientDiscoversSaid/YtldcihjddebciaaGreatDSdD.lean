/- server: attributes that are read; the parts of a declaration, by the database's reference. And what follows it. -/
import Derived.Test.YtldcihjddebciaaGreatDSdA
import Derived.Test.YtldcihjddebciaaGreatDClF
set_option linter.unusedSimpArgs false
set_option linter.unusedVariables false
set_option maxRecDepth 100000
set_option maxHeartbeats 4000000
namespace Go.Proofs.YtldcihjddebciaaGreat
open Go.RowKit
/-- an attribute that is read -/
def AtAt (w : World) (b off k : Nat) (a : At) : Prop := ∃ (ra : Option Addr) (rc : Nat),w.cell? ⟨b,off + k * 5,none⟩ = some (.int .u16 a.ha) ∧ w.cell? ⟨b,off + k * 5 + 1,none⟩ = some (.int .u64 a.hi) ∧ w.cell? ⟨b,off + k * 5 + 2,none⟩ = some (.int .u64 a.lo) ∧
 w.cell? ⟨b,off + k * 5 + 3,none⟩ = some (.int .i64 a.pe) ∧ w.cell? ⟨b,off + k * 5 + 4,none⟩ = some (.slice ra a.bs.length rc) ∧ a.bs.length ≤ rc ∧ BytesAt w (.slice ra a.bs.length rc) a.bs
theorem AtAt.below {w w' : World} {b off k : Nat} {t : At} (h : AtAt w b off k t) (hb : Below w.heap.size w w') : AtAt w' b off k t := by
 obtain ⟨a,c,h0,h1,h2,h3,h4,h5,h6⟩ := h
 exact ⟨a,c,kc h0 hb,kc h1 hb,kc h2 hb,kc h3 hb,kc h4 hb,h5,h6.below hb⟩
/-- a database that is read -/
def Dbs (w : World) (v : Value) (db : List At) : Prop := db.length ≤ maxLen ∧ ∃ (ao : Option Addr) (cap : Nat),v = .slice ao db.length cap ∧
 (0 < db.length → ∃ b off,ao = some ⟨b,off,none⟩ ∧ b < w.heap.size ∧ ∀ k (h : k < db.length),AtAt w b off k db[k])
theorem Dbs.below {w w' : World} {v : Value} {db : List At} (h : Dbs w v db) (hb : Below w.heap.size w w') : Dbs w' v db := by
 obtain ⟨h1,ao,cap,rfl,h2⟩ := h
 refine ⟨h1,ao,cap,rfl,fun h0 => ?_⟩
 obtain ⟨b,off,rfl,hlt,hc⟩ := h2 h0
 exact ⟨b,off,rfl,Nat.lt_of_lt_of_le hlt hb.size,fun k hk => (hc k hk).below hb⟩
theorem atI_get {db : List At} {k : Nat} (h : k < db.length) : db[k] = atI db k := by
 unfold atI
 rw [List.getD_eq_getElem?_getD,List.getElem?_eq_getElem h]
 rfl
theorem Dbs.at {w : World} {a : Option Addr} {n c : Nat} {db : List At} (h : Dbs w (.slice a n c) db) (hn : db.length = n) (h0 : 0 < n) : ∃ b off,a = some ⟨b,off,none⟩ ∧ b < w.heap.size ∧ ∀ k,k < n → AtAt w b off k (atI db k) := by
 obtain ⟨_,ao,cap,e,hx⟩ := h
 rw [hn] at e
 cases e
 obtain ⟨b,off,rfl,hb,hc⟩ := hx (by omega)
 refine ⟨b,off,rfl,hb,fun k hk => ?_⟩
 have := hc k (by omega)
 rw [atI_get] at this
 exact this
theorem set2 {W X : World} {i : Nat} {t : TypeId} {x0 x1 y0 y1 : Value} (h : Blk W i t [x0,x1]) (hX : (W.setCell ⟨i,0,none⟩ y0).setCell ⟨i,1,none⟩ y1 = X) : Blk X i t [y0,y1] := by
 subst hX
 exact (h.setAt (j := 0) y0).setAt (j := 1) y1
theorem charParts_any (a : Option Addr) (n c : Nat) (bs : List Nat) (w : World) (h : BytesAt w (.slice a n c) bs) (hn : bs.length = n) (hc : n ≤ c) (hm : n ≤ 1099511627776) :
 Calls Tryz.prog 26 #[.slice a n c] w fun e w' => e = .returned (.tuple #[.int .i64 (chP bs).1,.int .u16 (chP bs).2.1,.agg #[.int .u64 (chP bs).2.2.1,.int .u64 (chP bs).2.2.2.1],.bool (chP bs).2.2.2.2]) ∧ Below w.heap.size w w' := by
 have hz := fun W => run_build0 W
 have hB0 := (Below.refl w.heap.size w).alloc (Nat.le_refl _) (.cells #[.int .u64 0,.int .u64 0] 26)
 have HN := Lib.hid hn
 unfold chP
 rw [hn]
 by_cases h3 : n < 3
 ·rw [if_pos h3]
  have g3 : decide (n < 3) = true := by simpa using h3
  have g3' : decide ((n : Int) < 3) = true := by simp; omega
  clear h hn
  go_enter Tryz.func26,Tryz.ntmps26
  go_wp2
  have b3 := ((Blk.new w 26 [.int .u64 0,.int .u64 0]).setAt (j := 0) (.int .u64 0)).setAt (j := 1) (.int .u64 0)
  obtain ⟨x0,x1,_⟩ := b3.cells
  simp only [Nat.zero_add,Nat.add_zero,List.set_cons_zero,List.set_cons_succ] at x0 x1
  refine bodyPost_ret (v := .tuple #[.int .i64 0,.int .u16 0,.agg #[.int .u64 0,.int .u64 0],.bool false]) (by simp [results,Tryz.results26,go_sem] <;> rfl) rfl ?_
  exact ⟨rfl,hB0⟩
 rw [if_neg h3]
 have g3 : decide (n < 3) = false := by simpa using h3
 have g3' : decide ((n : Int) < 3) = false := by simp; omega
 obtain ⟨a6,c6,hby6,hc6,hrun6⟩ := bytes_from w a n c 3 bs h hn hc (by omega)
 simp only [show ((3 : Nat) : Int) = 3 by rfl] at hrun6
 have hln : (bs.drop 3).length = n - 3 := by rw [List.length_drop,hn]
 obtain ⟨m,hmn⟩ : ∃ m,n - 3 = m := ⟨_,rfl⟩
 rw [hmn] at hby6 hc6 hrun6 hln
 have hde := rdecode_any (.slice a6 m c6) (bs.drop 3) _ (hby6.below hB0) (by rw [hln]; omega)
 obtain ⟨d1,hd1⟩ : ∃ x,(decR (bs.drop 3)).1 = x := ⟨_,rfl⟩
 obtain ⟨d2,hd2⟩ : ∃ x,(decR (bs.drop 3)).2.1 = x := ⟨_,rfl⟩
 obtain ⟨d3,hd3⟩ : ∃ x,(decR (bs.drop 3)).2.2 = x := ⟨_,rfl⟩
 obtain ⟨q,hq⟩ : ∃ q,(d3 == 0) = q := ⟨_,rfl⟩
 rw [hd1,hd2,hd3] at hde ⊢
 rw [hq]
 obtain ⟨x0,hx0⟩ : ∃ x,bs.getD 0 0 = x := ⟨_,rfl⟩
 have hx0' : bs[0]'(by omega) = x0 := by rw [← hx0,List.getD_eq_getElem?_getD,List.getElem?_eq_getElem (by omega)]; rfl
 have hx1 : x0 < 256 := by rw [← hx0']; exact h.2.2 _ (List.getElem_mem _)
 have hnm := fun W (hW : Below w.heap.size w W) => num_any (.slice a n c) bs 1 2 W (h.below hW) (by omega) (by omega) (by omega)
 obtain ⟨V,hV⟩ : ∃ V,vnum ((bs.drop 1).take 2) = V := ⟨_,rfl⟩
 have hVb : V < 65536 := by
  have := vnum_lt ((bs.drop 1).take 2) (fun x hx => h.2.2 x (List.mem_of_mem_drop (List.mem_of_mem_take hx)))
  rw [hV,List.length_take,List.length_drop] at this
  rw [show min 2 (bs.length - 1) = 2 by omega] at this
  simpa using this
 rw [hV] at hnm ⊢
 rw [hx0]
 simp only [show ((1 : Nat) : Int) = 1 by rfl,show ((2 : Nat) : Int) = 2 by rfl] at hnm
 have w1 : IntKind.u16.wrap (V : Int) = (V : Int) := IntWalk.u16_in _ (by omega)
 have w2 : IntKind.i64.wrap (x0 : Int) = (x0 : Int) := IntWalk.i64_in _ (by omega)
 have hcell : ∃ b off,a = some ⟨b,off,none⟩ ∧ w.cell? ⟨b,off,none⟩ = some (.int .u8 (x0 : Nat)) := by
  obtain ⟨⟨_,_,_,ao,cap,e,_,hcl⟩,_,_⟩ := h
  cases e
  obtain ⟨b,off,rfl,hb,hcs⟩ := hcl (by omega)
  exact ⟨b,off,rfl,by have := hcs 0 (.int .u8 (x0 : Nat)) (by simp [bcells,List.getElem?_eq_getElem (show 0 < bs.length by omega),hx0']); simpa using this⟩
 obtain ⟨b,off,rfl,hcl⟩ := hcell
 have HDE := Lib.hid hde
 have HNM := Lib.hid hnm
 have HCL := Lib.hid hcl
 have hi0 : (0 : Int) < (n : Int) := by omega
 have hn0 : 0 < n := by omega
 have hc3 : (3 : Int) ≤ (n : Int) := by omega
 have hmb : m ≤ 1099511627776 := by omega
 clear hde hnm hd1 hd2 hd3 hx0 hx0' hV h hn hby6 hln hmn hcl hc6
 go_enter Tryz.func26,Tryz.ntmps26
 go_wp2_with fail
 refine HDE.out.mono ?_
 rintro e w4 ⟨rfl,hB4⟩
 have hB4' := hB0.trans (hB4.mono hB0.size)
 have b4 := (Blk.new w 26 [.int .u64 0,.int .u64 0]).below hB4
 have HB4 := Lib.hid hB4'
 have HK4 := Lib.hid b4
 have hlt4 : w.heap.size < w4.heap.size := b4.lt
 clear hB4 hB4' b4 HDE
 go_upto_region 4 with fail
 generalize hX : World.alloc w4 _ = X
 obtain ⟨h6,hB6,h6z⟩ := alloc_named hX
 have b6 : Blk X w4.heap.size 26 [.int .u64 d1,.int .u64 d2] := h6
 have b4 := HK4.out.below hB6
 have hBX := HB4.out.trans (hB6.mono HB4.out.size)
 have c0 := kc HCL.out hBX
 have T : Cells X ([(b,off,.int .u8 (x0 : Nat))] ++ blk w4.heap.size 0 0 [.int .u64 d1,.int .u64 d2]) := ⟨c0,b6.cells⟩
 have hbw : b < w.heap.size := World.block_lt_of_cell? w _ HCL.out
 have HT := Lib.hid T
 have HK := Lib.hid b4
 obtain ⟨m0,m1,_⟩ := b4.cells
 simp only [Nat.zero_add,Nat.add_zero] at m0 m1
 have z0 := b4.frozen 0
 have z1 := b4.frozen 1
 have HBX := Lib.hid hBX
 clear hX h6 hB6 h6z b6 b4 hBX c0 HK4 HB4 HCL
 refine wp_region_held_drew (S := (fun W' : World => Cells W' ([(b,off,.int .u8 (x0 : Nat))] ++ blk w4.heap.size 0 0 [.int .u64 d1,.int .u64 d2]))) (by kernel_rfl) (T.drew) (fun hHeld => ?_)
 refine tkU 0 ?_
 refine tkU 1 ?_
 refine tkU 2 ?_
 refine tkU 3 ?_
 refine tkU 4 ?_
 refine tkU 7 ?_
 refine tkU 8 ?_
 refine tkU 9 ?_
 refine rd1 5 fun K hK => ?_
 go_simp
 go_at_call 41
 refine (HNM.out _ HBX.out.drew).mono ?_
 rintro e w5 ⟨rfl,rfl⟩
 clear hHeld
 refine hK.out _ _ (T.drew) (fun hHeld => ?_)
 clear hK K
 try simp only [Act.put,List.setIfInBounds_toArray,List.set_cons_zero,List.set_cons_succ]
 refine tkU 6 ?_
 refine tkU 10 ?_
 refine tkU 11 ?_
 refine rd1 12 fun K hK => ?_
 go_simp
 generalize hY : World.setCell _ _ _ = Y
 have bY := set2 HK.out hY
 have hBY : Below w.heap.size w Y := by
  rw [← hY]
  exact (HBX.out.setCell (p := ⟨w.heap.size,0,none⟩) (by simp) _).setCell (p := ⟨w.heap.size,1,none⟩) (by simp) _
 have TY : Cells Y ([(b,off,.int .u8 (x0 : Nat))] ++ blk w4.heap.size 0 0 [.int .u64 d1,.int .u64 d2]) := by
  rw [← hY]
  exact (T.setCell _ (fun x hx => by simp [blk] at hx; rcases hx with rfl | rfl | rfl <;> (simp; omega))).setCell _ (fun x hx => by simp [blk] at hx; rcases hx with rfl | rfl | rfl <;> (simp; omega))
 clear hHeld
 refine hK.out _ _ (TY.drew) (fun hHeld => ?_)
 clear hK K
 try simp only [Act.put,List.setIfInBounds_toArray,List.set_cons_zero,List.set_cons_succ]
 refine tkU 13 ?_
 refine wpAnyH_done (by kernel_rfl) ?_ _
 have HBY := Lib.hid hBY.drew
 obtain ⟨x0',x1',_⟩ := bY.cells
 simp only [Nat.zero_add,Nat.add_zero] at x0' x1'
 clear T hY TY bY hBY HT HNM hHeld m0 m1 z0 z1
 go_wp2
 refine bodyPost_ret (v := .tuple #[.int .i64 x0,.int .u16 V,.agg #[.int .u64 d1,.int .u64 d2],.bool q]) (by simp [results,Tryz.results26,go_sem,x0',x1']) rfl ?_
 exact ⟨rfl,HBY.out⟩
theorem charOf_any (a : Option Addr) (n c : Nat) (db : List At) (i : Nat) (w : World) (h : Dbs w (.slice a n c) db) (hn : db.length = n) (hi : i < n) (hm : n ≤ 1000) :
 Calls Tryz.prog 117 #[.slice a n c,.int .i64 i] w fun e w' => ∃ k : Int,e = .returned (.int .i64 k) ∧ -1 ≤ k ∧ k ≤ i ∧ Below w.heap.size w w' := by
 obtain ⟨b,off,rfl,hb,hat⟩ := h.at hn (by omega)
 have HAT := Lib.hid hat
 clear hat h
 go_enter Tryz.func117,Tryz.ntmps117
 go_wp2_with fail
 go_loopw [5] (fun v wr => ∃ kk : Nat,v = .int .i64 ((kk : Int) - 1) ∧ kk ≤ i + 1 ∧ Below w.heap.size w wr) (fun v _ => (intOf v + 1).toNat)
 case atStart => exact ⟨i + 1,by simp,Nat.le_refl _,Below.refl _ _⟩
 case round =>
  obtain ⟨kk,rfl,hkk,hB⟩ := hrel
  by_cases hk0 : 0 < kk
  ·obtain ⟨k1,rfl⟩ : ∃ k1,kk = k1 + 1 := ⟨kk - 1,by omega⟩
   have e9 : (((k1 + 1 : Nat) : Int) - 1) = (k1 : Int) := by omega
   simp only [e9]
   have hat := HAT.out k1 (by omega)
   obtain ⟨ra,rc,d0,d1,d2,d3,d4,_,_⟩ := hat
   obtain ⟨⟨ha,hi',lo,pe,bs⟩,he⟩ : ∃ r,atI db k1 = r := ⟨_,rfl⟩
   rw [he] at d0 d1 d2 d3 d4
   simp only at d0 d1 d2 d3 d4
   obtain ⟨L,hL⟩ : ∃ L,bs.length = L := ⟨_,rfl⟩
   rw [hL] at d4
   have D0 := Lib.hid d0
   have D1 := Lib.hid d1
   have D2 := Lib.hid d2
   have D3 := Lib.hid d3
   have D4 := Lib.hid d4
   replace d0 := kc d0 hB
   replace d1 := kc d1 hB
   replace d2 := kc d2 hB
   replace d3 := kc d3 hB
   replace d4 := kc d4 hB
   have hi0 : (0 : Int) ≤ (k1 : Int) := by omega
   have hi1 : (k1 : Int) < (n : Int) := by omega
   have g3 : decide ((0 : Int) ≤ (k1 : Int)) = true := by simp
   have w3 : IntKind.i64.wrap ((k1 : Int) - 1) = (k1 : Int) - 1 := IntWalk.i64_in _ (by omega)
   obtain ⟨B1,hB1⟩ : ∃ x,chU hi' lo = x := ⟨_,rfl⟩
   obtain ⟨B2,hB2⟩ : ∃ x,svU hi' lo = x := ⟨_,rfl⟩
   have h1 := fun W => isCh_any ha hi' lo pe (.slice ra L rc) W
   have h2 := fun W => isSv_any ha hi' lo pe (.slice ra L rc) W
   simp only [hB1] at h1
   simp only [hB2] at h2
   have H1 := Lib.hid h1
   have H2 := Lib.hid h2
   clear h1 h2 hB1 hB2 he hL e9 hk0
   cases B1 with
   |true =>
    go_wp2_with fail
    refine (H1.out _).mono ?_
    rintro e w2 ⟨rfl,hC⟩
    have hB2 := hB.trans (hC.mono hB.size)
    clear hC d0 d1 d2 d3 d4
    go_wp2
    go_ret
    exact ⟨_,rfl,by omega,by omega,hB2⟩
   |false =>
    go_wp2_with fail
    refine (H1.out _).mono ?_
    rintro e w2 ⟨rfl,hC⟩
    have hB2 := hB.trans (hC.mono hB.size)
    clear hC d0 d1 d2 d3 d4
    have d0 := kc D0.out hB2
    have d1 := kc D1.out hB2
    have d2 := kc D2.out hB2
    have d3 := kc D3.out hB2
    have d4 := kc D4.out hB2
    go_wp2_with fail
    refine (H2.out _).mono ?_
    rintro e w4 ⟨rfl,hC⟩
    have hB4 := hB2.trans (hC.mono hB2.size)
    clear hC d0 d1 d2 d3 d4 hB hB2
    cases B2 with
    |true =>
     go_wp2
     go_ret
     exact ⟨_,rfl,by omega,by omega,hB4⟩
    |false =>
     go_wp2
     go_roundw
     case rel => exact ⟨k1,rfl,by omega,hB4⟩
     case measure => simp [intOf]
  ·have hk0' : kk = 0 := by omega
   subst hk0'
   have g3 : decide ((0 : Int) ≤ ((0 : Nat) : Int) - 1) = false := by decide
   have e9 : (((0 : Nat) : Int) - 1) = -1 := by decide
   simp only [e9]
   clear hk0
   go_wp2
   go_ret
   exact ⟨_,rfl,by omega,by omega,hB⟩
theorem configWrong_any (a : Option Addr) (n c : Nat) (db : List At) (i : Nat) (w : World) (h : Dbs w (.slice a n c) db) (hn : db.length = n) (hi : i < n) (hm : n ≤ 1000) :
 Calls Tryz.prog 110 #[.slice a n c,.int .i64 i] w fun e w' => ∃ B : Bool,e = .returned (.bool B) ∧ Below w.heap.size w w' := by
 have HCO := Lib.hid (charOf_any a n c db i w h hn hi hm)
 obtain ⟨b,off,rfl,hb,hat⟩ := h.at hn (by omega)
 have HAT := Lib.hid hat
 obtain ⟨ra,rc,d0,d1,d2,d3,d4,_,_⟩ := hat i hi
 obtain ⟨L,hL⟩ : ∃ L,(atI db i).bs.length = L := ⟨_,rfl⟩
 rw [hL] at d4
 have D4 := Lib.hid d4
 have hi0 : (0 : Int) ≤ (i : Int) := by omega
 have hi1 : (i : Int) < (n : Int) := by omega
 clear hat h d0 d1 d2 d3 hL d4
 go_enter Tryz.func110,Tryz.ntmps110
 go_wp2_with fail
 refine HCO.out.mono ?_
 rintro e w2 ⟨k,rfl,hk1,hk2,hB⟩
 have d4 := kc D4.out hB
 clear HCO
 by_cases hL2 : L = 2
 rotate_left
 ·have g1 : ((L : Int) != 2) = true := by simp; omega
  have g1n : (L != 2) = true := by simpa using hL2
  clear hL2
  go_wp2
  go_ret
  exact ⟨_,rfl,hB⟩
 subst hL2
 by_cases hk0 : k < 0
 ·have g2 : decide (k < 0) = true := by simpa using hk0
  go_wp2
  go_ret
  exact ⟨_,rfl,hB⟩
 have g2 : decide (k < 0) = false := by simpa using hk0
 obtain ⟨k0,rfl⟩ : ∃ k0 : Nat,k = k0 := ⟨k.toNat,by omega⟩
 have HB := Lib.hid hB
 clear hk0 hk1 hB
 go_wp2_with fail
 clear d4
 go_loopw [6] (fun v wr => ∃ kk : Nat,v = .int .i64 kk ∧ kk ≤ i ∧ Below w.heap.size w wr) (fun v _ => i - (intOf v).toNat)
 case atStart => exact ⟨k0,rfl,by omega,HB.out⟩
 case round =>
  obtain ⟨kk,rfl,hkk,hB⟩ := hrel
  by_cases hlt : kk < i
  ·have g3 : decide (kk < i) = true := by simpa using hlt
   have g3i : decide ((kk : Int) < (i : Int)) = true := by simp; omega
   obtain ⟨ra,rc,d0,d1,d2,d3,d4,_,_⟩ := HAT.out kk (by omega)
   obtain ⟨⟨ha,hi',lo,pe,bs⟩,he⟩ : ∃ r,atI db kk = r := ⟨_,rfl⟩
   rw [he] at d1 d2
   simp only at d1 d2
   replace d1 := kc d1 hB
   replace d2 := kc d2 hB
   have hj0 : (0 : Int) ≤ (kk : Int) := by omega
   have hj1 : (kk : Int) < (n : Int) := by omega
   obtain ⟨B1,hB1⟩ : ∃ x,isU 45088566677504 hi' lo = x := ⟨_,rfl⟩
   have h1 := fun W => is_g hi' lo W
   simp only [hB1] at h1
   have H1 := Lib.hid h1
   clear h1 hB1 he d0 d3 d4
   go_wp2_with fail
   refine (H1.out _).mono ?_
   rintro e w4 ⟨rfl,hC⟩
   have hB4 := hB.trans (hC.mono hB.size)
   clear hC d1 d2 hB
   cases B1 with
   |true =>
    go_wp2
    go_ret
    exact ⟨_,rfl,hB4⟩
   |false =>
    go_wp2
    go_roundw
    case rel => exact ⟨kk + 1,by go_num,by omega,hB4⟩
    case measure => simp [intOf]; omega
  ·have g3 : decide (kk < i) = false := by simpa using hlt
   have g3i : decide ((kk : Int) < (i : Int)) = false := by simp; omega
   go_wp2
   go_ret
   exact ⟨_,rfl,hB⟩
/-- what an accepted characteristic says -/
def ChOk (db : List At) (i : Nat) : Prop := i + 1 < db.length ∧ (atI db (i + 1)).ha = (chP (atI db i).bs).2.1 ∧ (atI db (i + 1)).hi = (chP (atI db i).bs).2.2.1 ∧ (atI db (i + 1)).lo = (chP (atI db i).bs).2.2.2.1 ∧ kpU (atI db (i + 1)).hi (atI db (i + 1)).lo = false ∧ (chP (atI db i).bs).2.2.2.2 = true
def SvOk (db : List At) (i : Nat) : Prop := (decR (atI db i).bs).2.2 = 0
theorem charWrong_any (a : Option Addr) (n c : Nat) (db : List At) (i : Nat) (w : World) (h : Dbs w (.slice a n c) db) (hn : db.length = n) (hi : i < n) (hm : n ≤ 1000) (hl5 : (atI db i).bs.length ≤ 512) :
 Calls Tryz.prog 109 #[.slice a n c,.int .i64 i] w fun e w' => ∃ B : Bool,e = .returned (.bool B) ∧ (B = false → ChOk db i) ∧ Below w.heap.size w w' := by
 obtain ⟨b,off,rfl,hb,hat⟩ := h.at hn (by omega)
 have HAT := Lib.hid hat
 obtain ⟨ra,rc,d0,d1,d2,d3,d4,hcap,hby⟩ := hat i hi
 obtain ⟨bs,hbs⟩ : ∃ x,(atI db i).bs = x := ⟨_,rfl⟩
 rw [hbs] at d4 hcap hby
 have HBS := Lib.hid hbs
 obtain ⟨L,hL⟩ : ∃ L,bs.length = L := ⟨_,rfl⟩
 rw [hL] at d4 hcap hby
 have hcp := charParts_any ra L rc bs w hby hL hcap (by rw [hbs,hL] at hl5; omega)
 obtain ⟨P,H,T1,T2,OK,hP⟩ : ∃ P H T1 T2 OK,chP bs = (P,H,T1,T2,OK) := ⟨_,_,_,_,_,rfl⟩
 rw [hP] at hcp
 simp only at hcp
 have HP := Lib.hid hP
 have HCP := Lib.hid hcp
 have hi0 : (0 : Int) ≤ (i : Int) := by omega
 have hi1 : (i : Int) < (n : Int) := by omega
 have wi : IntKind.i64.wrap ((i : Int) + 1) = (i : Int) + 1 := IntWalk.i64_in _ (by omega)
 have HN := Lib.hid hn
 clear hat h d0 d1 d2 d3 hL hcp hP hby hbs hcap hn
 obtain ⟨KB,hKB⟩ : ∃ x,kpU T1 T2 = x := ⟨_,rfl⟩
 have h2 := fun W => kept_any T1 T2 W
 simp only [hKB] at h2
 have H2 := Lib.hid h2
 have HKB := Lib.hid hKB
 clear h2 hKB
 go_enter Tryz.func109,Tryz.ntmps109
 go_wp2_with fail
 refine HCP.out.mono ?_
 rintro e w2 ⟨rfl,hB2⟩
 have HB2 := Lib.hid hB2
 have hlw2 := hB2.size
 clear d4 hB2 HCP
 go_upto_region 2 with fail
 generalize hX : World.alloc w2 _ = X
 obtain ⟨h6,hB6,h6z⟩ := alloc_named hX
 have b6 : Blk X w2.heap.size 26 [.int .u64 T1,.int .u64 T2] := h6
 have HK := Lib.hid b6
 have HBX := Lib.hid (HB2.out.trans (hB6.mono HB2.out.size))
 obtain ⟨m0,m1,_⟩ := b6.cells
 simp only [Nat.zero_add,Nat.add_zero] at m0 m1
 clear hX h6 hB6 h6z b6 HB2
 cases OK with
 |false =>
  clear m0 m1
  go_wp2
  go_ret
  exact ⟨_,rfl,(fun e => by cases e),HBX.out⟩
 |true =>
  cases KB with
  |true =>
   go_wp2_with fail
   refine (H2.out _).mono ?_
   rintro e w3 ⟨rfl,hC⟩
   have HB3 := Lib.hid (HBX.out.trans (hC.mono HBX.out.size))
   clear m0 m1 hC
   go_wp2
   go_ret
   exact ⟨_,rfl,(fun e => by cases e),HB3.out⟩
  |false =>
   by_cases hlast : n ≤ i + 1
   ·have g4 : decide ((n : Int) ≤ (i : Int) + 1) = true := by simp; omega
    go_wp2_with fail
    refine (H2.out _).mono ?_
    rintro e w3 ⟨rfl,hC⟩
    have HB3 := Lib.hid (HBX.out.trans (hC.mono HBX.out.size))
    clear m0 m1 hC
    go_wp2
    go_ret
    exact ⟨_,rfl,(fun e => by cases e),HB3.out⟩
   ·have g4 : decide ((n : Int) ≤ (i : Int) + 1) = false := by simp; omega
    have hj1 : (i : Int) + 1 < (n : Int) := by omega
    have hj0 : (0 : Int) ≤ (i : Int) + 1 := by omega
    have hjn : ((i : Int) + 1).toNat = i + 1 := by omega
    obtain ⟨rb,rd,e0,e1,e2,e3,e4,_,_⟩ := HAT.out (i + 1) (by omega)
    obtain ⟨⟨xa,xh,xl,xp,xb⟩,he⟩ : ∃ r,atI db (i + 1) = r := ⟨_,rfl⟩
    rw [he] at e0 e1 e2
    simp only at e0 e1 e2
    have HE := Lib.hid he
    have E0 := Lib.hid e0
    have E1 := Lib.hid e1
    have E2 := Lib.hid e2
    obtain ⟨c0,hc0⟩ : ∃ x,(xa != H) = x := ⟨_,rfl⟩
    obtain ⟨c1,hc1⟩ : ∃ x,(xh == T1) = x := ⟨_,rfl⟩
    obtain ⟨c2,hc2⟩ : ∃ x,(xl == T2) = x := ⟨_,rfl⟩
    have HLN : Hid (i + 1 < db.length) := Lib.hid (by rw [HN.out]; omega)
    have HC := Lib.hid (And.intro hc0 (And.intro hc1 hc2))
    clear e0 e1 e2 e3 e4 he hlast
    go_wp2_with fail
    refine (H2.out _).mono ?_
    rintro e w3 ⟨rfl,hC⟩
    have HB3 := Lib.hid (HBX.out.trans (hC.mono HBX.out.size))
    have b3 := HK.out.below hC
    have T : Cells w3 ([(b,off + (i + 1) * 5,.int .u16 xa),(b,off + (i + 1) * 5 + 1,.int .u64 xh),(b,off + (i + 1) * 5 + 2,.int .u64 xl)] ++ blk w2.heap.size 0 0 [.int .u64 T1,.int .u64 T2]) := ⟨kc E0.out HB3.out,kc E1.out HB3.out,kc E2.out HB3.out,b3.cells⟩
    clear m0 m1 hC b3
    go_upto_region 4 with fail
    cases c0 with
    |true =>
     refine wp_region_held_drew (S := (fun W' : World => Cells W' ([(b,off + (i + 1) * 5,.int .u16 xa),(b,off + (i + 1) * 5 + 1,.int .u64 xh),(b,off + (i + 1) * 5 + 2,.int .u64 xl)] ++ blk w2.heap.size 0 0 [.int .u64 T1,.int .u64 T2]))) (by kernel_rfl) (T.drew) (fun hHeld => ?_)
     refine tkU 0 ?_
     refine tkU 1 ?_
     refine tkU 2 ?_
     refine tkU 3 ?_
     refine tkU 4 ?_
     refine tkU 5 ?_
     refine tkU 6 ?_
     refine tkU 7 ?_
     refine tkU 8 ?_
     refine tkV 9 ?_
     refine tkV 10 ?_
     refine tkV 11 ?_
     refine tkV 12 ?_
     refine tkV 13 ?_
     refine tkV 14 ?_
     refine tkV 15 ?_
     refine tkV 16 ?_
     refine tkU 17 ?_
     refine tkU 18 ?_
     refine wpAnyH_done (by kernel_rfl) ?_ _
     clear T hHeld
     go_wp2
     go_ret
     exact ⟨_,rfl,(fun e => by cases e),HB3.out.drew⟩
    |false =>
     cases c1 <;> cases c2
     all_goals
      refine wp_region_held_drew (S := (fun W' : World => Cells W' ([(b,off + (i + 1) * 5,.int .u16 xa),(b,off + (i + 1) * 5 + 1,.int .u64 xh),(b,off + (i + 1) * 5 + 2,.int .u64 xl)] ++ blk w2.heap.size 0 0 [.int .u64 T1,.int .u64 T2]))) (by kernel_rfl) (T.drew) (fun hHeld => ?_)
      refine tkU 0 ?_
      refine tkU 1 ?_
      refine tkU 2 ?_
      refine tkU 3 ?_
      refine tkU 4 ?_
      refine tkU 5 ?_
      refine tkU 6 ?_
      refine tkU 7 ?_
      refine tkU 8 ?_
      refine tkU 9 ?_
      refine tkU 10 ?_
      refine tkU 11 ?_
      refine tkU 12 ?_
      refine tkU 13 ?_
      refine tkU 14 ?_
      refine tkU 15 ?_
      refine tkU 16 ?_
      refine tkU 17 ?_
      refine tkU 18 ?_
      refine wpAnyH_done (by kernel_rfl) ?_ _
      clear T hHeld hc0 hc1 hc2
      go_wp2
      go_ret
      refine ⟨_,rfl,fun e => ?_,HB3.out.drew⟩
      first
       |(simp at e; done)
       |(obtain ⟨q0,q1,q2⟩ := HC.out; unfold ChOk; rw [HE.out,HBS.out,HP.out]; exact ⟨HLN.out,by simpa using q0,eq_of_beq q1,eq_of_beq q2,by have hk := HKB.out; rw [eq_of_beq q1,eq_of_beq q2]; exact hk,rfl⟩)
theorem wrong_any (a : Option Addr) (n c : Nat) (db : List At) (i : Nat) (w : World) (h : Dbs w (.slice a n c) db) (hn : db.length = n) (hi : i < n) (hm : n ≤ 1000) (hl5 : (atI db i).bs.length ≤ 512) :
 Calls Tryz.prog 89 #[.slice a n c,.int .i64 i] w fun e w' => ∃ B : Bool,e = .returned (.bool B) ∧ (B = false → (chA db i = true → ChOk db i) ∧ (svA db i = true → SvOk db i)) ∧ Below w.heap.size w w' := by
 have HD := Lib.hid h
 have HN := Lib.hid hn
 have HL5 := Lib.hid hl5
 obtain ⟨b,off,rfl,hb,hat⟩ := h.at hn (by omega)
 obtain ⟨ra,rc,d0,d1,d2,d3,d4,hcap,hby⟩ := hat i hi
 have hch : chA db i = chU (atI db i).hi (atI db i).lo := rfl
 have hsa : svA db i = svU (atI db i).hi (atI db i).lo := rfl
 obtain ⟨⟨ha,hi',lo,pe,bs⟩,he⟩ : ∃ r,atI db i = r := ⟨_,rfl⟩
 have HAE := Lib.hid he
 rw [he] at d0 d1 d2 d3 d4 hby hcap hch hl5 hsa
 simp only at d0 d1 d2 d3 d4 hby hcap hch hl5 hsa
 obtain ⟨L,hL⟩ : ∃ L,bs.length = L := ⟨_,rfl⟩
 rw [hL] at d4 hby hcap hl5
 have HL := Lib.hid hL
 have HBY := Lib.hid hby
 have hi0 : (0 : Int) ≤ (i : Int) := by omega
 have hi1 : (i : Int) < (n : Int) := by omega
 obtain ⟨CH,hCH⟩ : ∃ x,chU hi' lo = x := ⟨_,rfl⟩
 obtain ⟨SV,hSV⟩ : ∃ x,svU hi' lo = x := ⟨_,rfl⟩
 obtain ⟨DB,hDB⟩ : ∃ x,dcU hi' lo = x := ⟨_,rfl⟩
 obtain ⟨CF,hCF⟩ : ∃ x,isU 45088566677504 hi' lo = x := ⟨_,rfl⟩
 have h1 := fun W => isCh_any ha hi' lo pe (.slice ra L rc) W
 have h2 := fun W => isSv_any ha hi' lo pe (.slice ra L rc) W
 have h3 := fun W => declares_any hi' lo W
 have h4 := fun W => is_g hi' lo W
 simp only [hCH] at h1
 simp only [hSV] at h2
 simp only [hDB] at h3
 simp only [hCF] at h4
 have hsc : SV = true → CH = false := fun e => by rw [← hCH]; exact sv_not_ch (by rw [hSV]; exact e)
 rw [hCH] at hch
 rw [hSV] at hsa
 have HSA := Lib.hid hsa
 clear hsa
 have HCH := Lib.hid h1
 have HSV := Lib.hid h2
 have HDC := Lib.hid h3
 have HCF := Lib.hid h4
 have HSC := Lib.hid hsc
 have HCA := Lib.hid hch
 have hB0 : Below w.heap.size w (w.alloc (.cells #[.int .u16 ha,.int .u64 hi',.int .u64 lo,.int .i64 pe,.slice ra L rc] 29)) := (Below.refl _ _).alloc (Nat.le_refl _) _
 have T0 := cells_new w [.int .u16 ha,.int .u64 hi',.int .u64 lo,.int .i64 pe,.slice ra L rc] 29
 clear hat h he hL hby h1 h2 h3 h4 hch hsc hCH hSV hDB hCF hn hcap
 go_enter Tryz.func89,Tryz.ntmps89
 go_upto_region 2 with fail
 generalize hX : World.alloc w _ = X at T0 hB0 ⊢
 have HT := Lib.hid T0
 have HB := Lib.hid hB0
 clear hX d0 d1 d2 d3 d4 T0
 have hBX := Below.refl X.heap.size X
 go_cut [29] (fun b wx => (∃ B : Bool,b = .bool B) ∧ Below X.heap.size X wx)
 case first =>
  have hBW := Below.refl X.heap.size X
  have T2 := HT.out.keep hBW
  have hOpen := T2
  simp only [Cells,blk,List.cons_append,List.nil_append,and_true,Nat.reduceAdd,Nat.add_zero,Nat.zero_add] at hOpen
  obtain ⟨m0,m1,m2,m3,m4⟩ := hOpen
  clear T2
  by_cases hi00 : i = 0
  ·have g0 : ((i : Int) == 0) = true := by simpa using hi00
   clear hi00
   go_wp2_with fail
   refine (HSV.out _).mono ?_
   rintro e w4 ⟨rfl,hC⟩
   replace hBW := hBW.trans (hC.mono hBW.size)
   clear hC m0 m1 m2 m3 m4
   have T2 := HT.out.keep hBW
   have hOpen := T2
   simp only [Cells,blk,List.cons_append,List.nil_append,and_true,Nat.reduceAdd,Nat.add_zero,Nat.zero_add] at hOpen
   obtain ⟨m0,m1,m2,m3,m4⟩ := hOpen
   clear T2
   cases SV with
   |false =>
    go_wp2_with fail
    go_meet
    exact ⟨⟨_,rfl⟩,hBW⟩
   |true =>
    go_wp2_with fail
    refine (HDC.out _).mono ?_
    rintro e w5 ⟨rfl,hC⟩
    have hD := hBW.trans (hC.mono hBW.size)
    clear hC m0 m1 m2 m3 m4
    have T2 := HT.out.keep hD
    have hOpen := T2
    simp only [Cells,blk,List.cons_append,List.nil_append,and_true,Nat.reduceAdd,Nat.add_zero,Nat.zero_add] at hOpen
    obtain ⟨m0,m1,m2,m3,m4⟩ := hOpen
    clear T2
    cases DB with
    |false =>
     go_wp2_with fail
     go_meet
     exact ⟨⟨_,rfl⟩,hD⟩
    |true =>
     go_wp2_with fail
     go_meet
     exact ⟨⟨_,rfl⟩,hD⟩
  ·have g0 : ((i : Int) == 0) = false := by simp; omega
   clear hi00
   go_wp2_with fail
   refine (HDC.out _).mono ?_
   rintro e w5 ⟨rfl,hC⟩
   have hD := hBW.trans (hC.mono hBW.size)
   clear hC m0 m1 m2 m3 m4
   have T2 := HT.out.keep hD
   have hOpen := T2
   simp only [Cells,blk,List.cons_append,List.nil_append,and_true,Nat.reduceAdd,Nat.add_zero,Nat.zero_add] at hOpen
   obtain ⟨m0,m1,m2,m3,m4⟩ := hOpen
   clear T2
   cases DB with
   |false =>
    go_wp2_with fail
    go_meet
    exact ⟨⟨_,rfl⟩,hD⟩
   |true =>
    go_wp2_with fail
    go_meet
    exact ⟨⟨_,rfl⟩,hD⟩
 case rest =>
  obtain ⟨⟨B,rfl⟩,hBY⟩ := hcut
  rename World => Y
  have HBY1 := Lib.hid hBY
  have HBY2 := Lib.hid (HB.out.trans (hBY.mono HB.out.size))
  clear hBY hBX hB0
  cases B with
  |true =>
   go_wp2
   go_ret
   exact ⟨_,rfl,(fun e => by cases e),HBY2.out⟩
  |false =>
   have T2 := HT.out.keep HBY1.out
   have hOpen := T2
   simp only [Cells,blk,List.cons_append,List.nil_append,and_true,Nat.reduceAdd,Nat.add_zero,Nat.zero_add] at hOpen
   obtain ⟨m0,m1,m2,m3,m4⟩ := hOpen
   clear T2
   go_wp2_with fail
   refine (HSV.out _).mono ?_
   rintro e w4 ⟨rfl,hC⟩
   have HB4 := Lib.hid (HBY1.out.trans (hC.mono HBY1.out.size))
   have HW4 := Lib.hid (HBY2.out.trans (hC.mono HBY2.out.size))
   clear hC m0 m1 m2 m3 m4
   have T2 := HT.out.keep HB4.out
   have hOpen := T2
   simp only [Cells,blk,List.cons_append,List.nil_append,and_true,Nat.reduceAdd,Nat.add_zero,Nat.zero_add] at hOpen
   obtain ⟨m0,m1,m2,m3,m4⟩ := hOpen
   clear T2
   cases SV with
   |true =>
    have HDE := Lib.hid (rdecode_any (.slice ra L rc) bs w4 (HBY.out.below HW4.out) (by rw [HL.out]; omega))
    go_wp2_with fail
    refine HDE.out.mono ?_
    rintro e w5 ⟨rfl,hC⟩
    have HW5 := Lib.hid (HW4.out.trans (hC.mono HW4.out.size))
    clear hC m0 m1 m2 m3 m4 HDE
    obtain ⟨d3,hd3⟩ : ∃ d,(decR bs).2.2 = d := ⟨_,rfl⟩
    rw [hd3]
    have HD3 := Lib.hid hd3
    clear hd3
    go_wp2
    go_ret
    exact ⟨_,rfl,(fun e0 => ⟨fun e => (by rw [HCA.out,HSC.out (by simp)] at e; cases e),fun _ => by unfold SvOk; rw [HAE.out]; simp only; rw [HD3.out]; simpa using e0⟩),HW5.out.alloc HW5.out.size _⟩
   |false =>
    go_wp2_with fail
    refine (HCH.out _).mono ?_
    rintro e w5 ⟨rfl,hC⟩
    have HB5 := Lib.hid (HB4.out.trans (hC.mono HB4.out.size))
    have HW5 := Lib.hid (HW4.out.trans (hC.mono HW4.out.size))
    clear hC m0 m1 m2 m3 m4 HB4 HW4
    have T2 := HT.out.keep HB5.out
    have hOpen := T2
    simp only [Cells,blk,List.cons_append,List.nil_append,and_true,Nat.reduceAdd,Nat.add_zero,Nat.zero_add] at hOpen
    obtain ⟨m0,m1,m2,m3,m4⟩ := hOpen
    clear T2
    cases CH with
    |true =>
     have HCW := Lib.hid (charWrong_any (some ⟨b,off,none⟩) n c db i w5 (HD.out.below HW5.out) HN.out hi hm HL5.out)
     go_wp2_with fail
     refine HCW.out.mono ?_
     rintro e w6 ⟨B3,rfl,hok,hC⟩
     have HOK := Lib.hid hok
     have HB6 := Lib.hid (HB5.out.trans (hC.mono HB5.out.size))
     have HW6 := Lib.hid (HW5.out.trans (hC.mono HW5.out.size))
     clear hC hok m0 m1 m2 m3 m4 HCW HB5 HW5
     have T2 := HT.out.keep HB6.out
     have hOpen := T2
     simp only [Cells,blk,List.cons_append,List.nil_append,and_true,Nat.reduceAdd,Nat.add_zero,Nat.zero_add] at hOpen
     obtain ⟨m0,m1,m2,m3,m4⟩ := hOpen
     clear T2
     cases B3 with
     |true =>
      go_wp2
      go_ret
      exact ⟨_,rfl,(fun e => by cases e),HW6.out⟩
     |false =>
      go_wp2_with fail
      refine (HCF.out _).mono ?_
      rintro e w7 ⟨rfl,hC⟩
      have HW7 := Lib.hid (HW6.out.trans (hC.mono HW6.out.size))
      clear hC m0 m1 m2 m3 m4
      cases CF with
      |false =>
       go_wp2
       go_ret
       exact ⟨_,rfl,(fun _ => ⟨fun _ => HOK.out (by simp),fun e => (by rw [HSA.out] at e; cases e)⟩),HW7.out⟩
      |true =>
       have HGW := Lib.hid (configWrong_any (some ⟨b,off,none⟩) n c db i w7 (HD.out.below HW7.out) HN.out hi hm)
       go_wp2_with fail
       refine HGW.out.mono ?_
       rintro e w8 ⟨B4,rfl,hC⟩
       have HW8 := Lib.hid (HW7.out.trans (hC.mono HW7.out.size))
       clear hC HGW
       go_wp2
       go_ret
       exact ⟨_,rfl,(fun _ => ⟨fun _ => HOK.out (by simp),fun e => (by rw [HSA.out] at e; cases e)⟩),HW8.out⟩
    |false =>
     go_wp2_with fail
     refine (HCF.out _).mono ?_
     rintro e w7 ⟨rfl,hC⟩
     have HW7 := Lib.hid (HW5.out.trans (hC.mono HW5.out.size))
     clear hC m0 m1 m2 m3 m4
     cases CF with
     |false =>
      go_wp2
      go_ret
      exact ⟨_,rfl,(fun _ => ⟨fun e => (by rw [HCA.out] at e; cases e),fun e => (by rw [HSA.out] at e; cases e)⟩),HW7.out⟩
     |true =>
      have HGW := Lib.hid (configWrong_any (some ⟨b,off,none⟩) n c db i w7 (HD.out.below HW7.out) HN.out hi hm)
      go_wp2_with fail
      refine HGW.out.mono ?_
      rintro e w8 ⟨B4,rfl,hC⟩
      have HW8 := Lib.hid (HW7.out.trans (hC.mono HW7.out.size))
      clear hC HGW
      go_wp2
      go_ret
      exact ⟨_,rfl,(fun _ => ⟨fun e => (by rw [HCA.out] at e; cases e),fun e => (by rw [HSA.out] at e; cases e)⟩),HW8.out⟩
/-- accepted so far -/
structure GdTo (db : List At) (k : Nat) : Prop where
 pos : ∀ i,i < k → 0 < (atI db i).ha
 len : ∀ i,i < k → (atI db i).bs.length ≤ 512
 asc : ∀ i,i + 1 < k → (atI db i).ha < (atI db (i + 1)).ha
 chr : ∀ i,i < k → chA db i = true → ChOk db i
 prm : ∀ i,i < k → 0 ≤ (atI db i).pe ∧ (atI db i).pe ≤ 15
 svd : ∀ i,i < k → svA db i = true → SvOk db i
def lastV (db : List At) (k : Nat) : Int := if k = 0 then 0 else (atI db (k - 1)).ha
theorem GdTo.next {db : List At} {k : Nat} (h : GdTo db k) (h1 : lastV db k < (atI db k).ha) (h2 : (atI db k).bs.length ≤ 512) (h3 : (chA db k = true → ChOk db k) ∧ (svA db k = true → SvOk db k)) (h4 : 0 ≤ (atI db k).pe ∧ (atI db k).pe ≤ 15) : GdTo db (k + 1) := by
 unfold lastV at h1
 refine ⟨fun i hi => ?_,fun i hi => ?_,fun i hi => ?_,fun i hi => ?_,fun i hi => ?_,fun i hi => ?_⟩
 ·by_cases c : i = k
  ·subst c
   by_cases c0 : i = 0
   ·rw [if_pos c0] at h1; exact h1
   ·rw [if_neg c0] at h1
    have := h.pos (i - 1) (by omega)
    omega
  ·exact h.pos i (by omega)
 ·by_cases c : i = k
  ·rw [c]; exact h2
  ·exact h.len i (by omega)
 ·by_cases c : i + 1 = k
  ·subst c
   rw [if_neg (by omega),Nat.add_sub_cancel] at h1
   exact h1
  ·exact h.asc i (by omega)
 ·by_cases c : i = k
  ·rw [c]; exact h3.1
  ·exact h.chr i (by omega)
 ·by_cases c : i = k
  ·rw [c]; exact h4
  ·exact h.prm i (by omega)
 ·by_cases c : i = k
  ·rw [c]; exact h3.2
  ·exact h.svd i (by omega)
theorem GdTo.gdb {db : List At} (h : GdTo db db.length) (hb : db.length ≤ 1000) : Gdb db := ⟨h.pos,h.len,h.asc,h.chr,h.prm,hb,h.svd⟩
theorem check_any (a : Option Addr) (n c : Nat) (db : List At) (w : World) (h : Dbs w (.slice a n c) db) (hn : db.length = n) :
 Calls Tryz.prog 38 #[.slice a n c] w fun e w' => ∃ E : Int,e = .returned (.int .i64 E) ∧ (E = 0 → Gdb db) ∧ Below w.heap.size w w' := by
 have HD := Lib.hid h
 have HN := Lib.hid hn
 have hM : n ≤ maxLen := by rw [← hn]; exact h.1
 unfold maxLen at hM
 clear h hn
 by_cases hbig : 1000 < n
 ·have g1 : decide (1000 < n) = true := by simpa using hbig
  have g1i : decide ((1000 : Int) < (n : Int)) = true := by simp; omega
  go_enter Tryz.func38,Tryz.ntmps38
  go_wp2
  go_ret
  exact ⟨_,rfl,(fun e => by omega),Below.refl _ _⟩
 have g1 : decide (1000 < n) = false := by simpa using hbig
 have g1i : decide ((1000 : Int) < (n : Int)) = false := by simp; omega
 go_enter Tryz.func38,Tryz.ntmps38
 go_wp2_with fail
 go_loopw [3,4] (fun l v wr => ∃ k : Nat,v = .int .i64 k ∧ k ≤ n ∧ l = .int .u16 (lastV db k) ∧ Hid (GdTo db k) ∧ Below w.heap.size w wr) (fun _ v _ => n - (intOf v).toNat)
 case atStart => exact ⟨0,by simp,Nat.zero_le _,rfl,⟨fun i h => by omega,fun i h => by omega,fun i h => by omega,fun i h => by omega,fun i h => by omega,fun i h => by omega⟩,Below.refl _ _⟩
 case round =>
  obtain ⟨k,rfl,hk,rfl,hgd,hB⟩ := hrel
  by_cases hlt : k < n
  ·have g2 : decide (k < n) = true := by simpa using hlt
   have g2i : decide ((k : Int) < (n : Int)) = true := by simp; omega
   obtain ⟨b,off,rfl,hb,hat⟩ := (HD.out.below hB).at HN.out (by omega)
   obtain ⟨ra,rc,d0,d1,d2,d3,d4,_,_⟩ := hat k hlt
   have hl5 : (atI db k).bs.length = (atI db k).bs.length := rfl
   have hl6 : lastV db (k + 1) = (atI db k).ha := rfl
   obtain ⟨LV,hLV⟩ : ∃ x,lastV db k = x := ⟨_,rfl⟩
   obtain ⟨HA,hHA⟩ : ∃ x,(atI db k).ha = x := ⟨_,rfl⟩
   obtain ⟨PE,hPE⟩ : ∃ x,(atI db k).pe = x := ⟨_,rfl⟩
   obtain ⟨L,hL⟩ : ∃ x,(atI db k).bs.length = x := ⟨_,rfl⟩
   rw [hHA] at d0 hl6
   rw [hPE] at d3
   rw [hL] at d4
   rw [hLV]
   have HLV := Lib.hid hLV
   have HHA := Lib.hid hHA
   have HL := Lib.hid hL
   have HL6 := Lib.hid hl6
   have hi0 : (0 : Int) ≤ (k : Int) := by omega
   have hi1 : (k : Int) < (n : Int) := by omega
   clear hat d1 d2 hl5 hl6 hLV hHA hL
   by_cases c1 : HA ≤ LV
   ·have t1 : decide (HA ≤ LV) = true := by simpa using c1
    clear c1 hPE
    go_wp2
    go_ret
    exact ⟨_,rfl,(fun e => by omega),hB⟩
   have t1 : decide (HA ≤ LV) = false := by simpa using c1
   by_cases c2 : PE < 0
   ·have t2 : decide (PE < 0) = true := by simpa using c2
    clear c1 c2 hPE
    go_wp2
    go_ret
    exact ⟨_,rfl,(fun e => by omega),hB⟩
   have t2 : decide (PE < 0) = false := by simpa using c2
   by_cases c3 : 15 < PE
   ·have t3 : decide (15 < PE) = true := by simpa using c3
    clear c1 c2 c3 hPE
    go_wp2
    go_ret
    exact ⟨_,rfl,(fun e => by omega),hB⟩
   have t3 : decide (15 < PE) = false := by simpa using c3
   by_cases c4 : 512 < L
   ·have t4 : decide (512 < L) = true := by simpa using c4
    have t4i : decide ((512 : Int) < (L : Int)) = true := by simp; omega
    clear c1 c2 c3 c4 hPE
    go_wp2
    go_ret
    exact ⟨_,rfl,(fun e => by omega),hB⟩
   have t4 : decide (512 < L) = false := by simpa using c4
   have t4i : decide ((512 : Int) < (L : Int)) = false := by simp; omega
   have HWR := Lib.hid (wrong_any (some ⟨b,off,none⟩) n c db k wr (HD.out.below hB) HN.out hlt (by omega) (by rw [HL.out]; omega))
   have D0 := Lib.hid d0
   have HC1 := Lib.hid c1
   have HPE := Lib.hid (show 0 ≤ (atI db k).pe ∧ (atI db k).pe ≤ 15 by rw [hPE]; omega)
   have HC4 := Lib.hid c4
   clear c1 c2 c3 c4 hPE
   go_wp2_with fail
   refine HWR.out.mono ?_
   rintro e w4 ⟨B,rfl,hok,hC⟩
   have HOK := Lib.hid hok
   have HB4 := Lib.hid (hB.trans (hC.mono hB.size))
   clear d0 d3 d4
   have d0 := kc D0.out hC
   clear hok hC HWR hB
   cases B with
   |true =>
    go_wp2
    go_ret
    exact ⟨_,rfl,(fun e => by omega),HB4.out⟩
   |false =>
    have hnx := hgd.out.next (by rw [HLV.out,HHA.out]; have := HC1.out; omega) (by rw [HL.out]; have := HC4.out; omega) (HOK.out (by simp)) HPE.out
    have HNX := Lib.hid hnx
    clear hnx hgd
    go_wp2
    go_roundw
    case rel => exact ⟨k + 1,by go_num,by omega,by rw [HL6.out],HNX,HB4.out⟩
    case measure => simp [intOf]; omega
  ·have ek : k = n := by omega
   have g2 : decide (k < n) = false := by simpa using hlt
   have g2i : decide ((k : Int) < (n : Int)) = false := by simp; omega
   have hfin : Gdb db := by
    refine GdTo.gdb ?_ (by rw [HN.out]; omega)
    rw [HN.out,← ek]
    exact hgd.out
   have HF := Lib.hid hfin
   clear hfin hgd ek hlt
   go_wp2
   go_ret
   exact ⟨_,rfl,(fun _ => HF.out),hB⟩
def fI (db : List At) (h : Int) : Int := if findN db h < db.length then (findN db h : Nat) else -1
theorem findN_hit {db : List At} {h : Int} {k : Nat} (hk : k < db.length) (hn : ∀ j,j < k → (atI db j).ha ≠ h) (hh : (atI db k).ha = h) : findN db h = k := by
 unfold findN
 rw [List.findIdx_eq hk]
 refine ⟨by rw [atI_get hk,hh]; simp,fun j hj => ?_⟩
 rw [atI_get (by omega),beq_eq_false_iff_ne]
 exact hn j hj
theorem findN_miss {db : List At} {h : Int} (hn : ∀ j,j < db.length → (atI db j).ha ≠ h) : findN db h = db.length := by
 unfold findN
 rw [List.findIdx_eq_length]
 intro x hx
 obtain ⟨j,hj,rfl⟩ := List.getElem_of_mem hx
 rw [atI_get hj,beq_eq_false_iff_ne]
 exact hn j hj
theorem find_any (a : Option Addr) (n c : Nat) (db : List At) (H : Int) (w : World) (h : Dbs w (.slice a n c) db) (hn : db.length = n) (hm : n ≤ 1000) :
 Calls Tryz.prog 10 #[.slice a n c,.int .u16 H] w fun e w' => e = .returned (.int .i64 (fI db H)) ∧ w = w' := by
 have HD := Lib.hid h
 have HN := Lib.hid hn
 obtain ⟨R,hR⟩ : ∃ R,fI db H = R := ⟨_,rfl⟩
 rw [hR]
 have HR := Lib.hid hR
 clear h hn hR
 go_enter Tryz.func10,Tryz.ntmps10
 go_wp2
 go_loop [5] (fun v => ∃ k : Nat,v = .int .i64 k ∧ k ≤ n ∧ Hid (∀ j,j < k → (atI db j).ha ≠ H)) (fun v => n - (intOf v).toNat)
 case atStart => exact ⟨0,by simp,Nat.zero_le _,fun j h => by omega⟩
 case round =>
  obtain ⟨k,rfl,hk,hno⟩ := hrel
  by_cases hlt : k < n
  ·have g2 : decide (k < n) = true := by simpa using hlt
   have g2i : decide ((k : Int) < (n : Int)) = true := by simp; omega
   obtain ⟨b,off,rfl,hb,hat⟩ := HD.out.at HN.out (by omega)
   obtain ⟨ra,rc,d0,d1,d2,d3,d4,_,_⟩ := hat k hlt
   obtain ⟨HA,hHA⟩ : ∃ x,(atI db k).ha = x := ⟨_,rfl⟩
   rw [hHA] at d0
   have HHA := Lib.hid hHA
   have hi0 : (0 : Int) ≤ (k : Int) := by omega
   have hi1 : (k : Int) < (n : Int) := by omega
   clear hat d1 d2 d3 d4 hHA
   by_cases c1 : HA = H
   ·have t1 : (HA == H) = true := by simpa using c1
    have hfi : R = (k : Int) := by
     have := findN_hit (db := db) (h := H) (by rw [HN.out]; exact hlt) hno.out (by rw [HHA.out]; exact c1)
     rw [← HR.out]
     unfold fI
     rw [this,if_pos (by rw [HN.out]; exact hlt)]
    have HFI := Lib.hid hfi
    clear c1 hfi hno
    go_wp2
    go_ret
    exact ⟨ret_eq (by rw [HFI.out]),rfl⟩
   ·have t1 : (HA == H) = false := by simpa using c1
    have hno2 : Hid (∀ j,j < k + 1 → (atI db j).ha ≠ H) := Lib.hid (fun j hj => by
     by_cases c : j = k
     ·rw [c,HHA.out]; exact c1
     ·exact hno.out j (by omega))
    clear c1 hno
    go_wp2
    go_round
    case rel => exact ⟨k + 1,by go_num,by omega,hno2⟩
    case measure => simp [intOf]; omega
  ·have ek : k = n := by omega
   have g2 : decide (k < n) = false := by simpa using hlt
   have g2i : decide ((k : Int) < (n : Int)) = false := by simp; omega
   have hfi : R = -1 := by
    have := findN_miss (db := db) (h := H) (by rw [HN.out,← ek]; exact hno.out)
    rw [← HR.out]
    unfold fI
    rw [this,if_neg (by omega)]
   have HFI := Lib.hid hfi
   clear hfi hno ek hlt
   go_wp2
   go_ret
   exact ⟨ret_eq (by rw [HFI.out]),rfl⟩
theorem findN_at {db : List At} (h : Gdb db) {i : Nat} (hi : i < db.length) : findN db (atI db i).ha = i := by
 unfold findN
 rw [List.findIdx_eq hi]
 have e : ∀ j (hj : j < db.length),db[j] = atI db j := fun j hj => by unfold atI; rw [List.getD_eq_getElem?_getD,List.getElem?_eq_getElem hj]; rfl
 refine ⟨by rw [e i hi]; simp,fun j hj => ?_⟩
 rw [e j (by omega),beq_eq_false_iff_ne]
 have := h.lt i hj hi
 omega
end Go.Proofs.YtldcihjddebciaaGreat
