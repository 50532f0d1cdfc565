/- server: the hash of a database by its reference. And what follows it. -/
import Derived.Test.YtldcihjddebciaaGreatDSeC
set_option linter.unusedSimpArgs false
set_option linter.unusedVariables false
set_option maxRecDepth 100000
set_option maxHeartbeats 4000000
namespace Go.Proofs.YtldcihjddebciaaGreat
open Go.RowKit
/-- the fields of attributes lie in their types -/
def DbW (db : List At) : Prop := ∀ i,i < db.length → (0 ≤ (atI db i).ha ∧ (atI db i).ha < 65536) ∧ (0 ≤ (atI db i).hi ∧ (atI db i).hi < 18446744073709551616) ∧ 0 ≤ (atI db i).lo ∧ (atI db i).lo < 18446744073709551616
/-- the bytes of an attribute that are hashed -/
def hshB (a : At) : List Nat := putB a.ha.toNat 2 ++ (putB a.lo.toNat 8 ++ (putB a.hi.toNat 8 ++ if dcU a.hi a.lo = true then putB a.bs.length 2 ++ a.bs else []))
def hBs (db : List At) (k : Nat) : List Nat := (db.take k).flatMap hshB
theorem hBs_succ (db : List At) (k : Nat) (h : k < db.length) : hBs db (k + 1) = hBs db k ++ hshB (atI db k) := by
 unfold hBs
 rw [List.take_succ_eq_append_getElem h,List.flatMap_append]
 simp [atI_get h]
theorem hshB_len (a : At) (h : a.bs.length ≤ 512) : (hshB a).length ≤ 600 := by
 unfold hshB
 simp only [List.length_append,putB_len]
 split <;> simp [putB_len] <;> omega
theorem hBs_len (db : List At) (h : ∀ i,i < db.length → (atI db i).bs.length ≤ 512) : ∀ k,k ≤ db.length → (hBs db k).length ≤ 600 * k
 |0,_ => by simp [hBs]
 |k + 1,hk => by
  rw [hBs_succ db k (by omega),List.length_append]
  have h1 := hBs_len db h k (by omega)
  have h2 := hshB_len (atI db k) (h k (by omega))
  omega
theorem hBs_lt (db : List At) (h : ∀ i,i < db.length → ∀ x ∈ (atI db i).bs,x < 256) : ∀ k,k ≤ db.length → ∀ x ∈ hBs db k,x < 256
 |0,_ => by simp [hBs]
 |k + 1,hk => fun x hx => by
  rw [hBs_succ db k (by omega)] at hx
  rcases List.mem_append.1 hx with hx | hx
  ·exact hBs_lt db h k (by omega) x hx
  ·unfold hshB at hx
   simp only [List.mem_append] at hx
   rcases hx with hx | hx | hx | hx
   ·exact putB_lt _ _ x hx
   ·exact putB_lt _ _ x hx
   ·exact putB_lt _ _ x hx
   ·split at hx
    ·rcases List.mem_append.1 hx with hx | hx
     ·exact putB_lt _ _ x hx
     ·exact h k (by omega) x hx
    ·cases hx
/-- what a hash is -/
def HashOk (HF : List At → Nat) : Prop := ∀ db : List At,HF db < 18446744073709551616 ∧ ∀ (a : Option Addr) (n c : Nat) (w : World),Dbs w (.slice a n c) db → db.length = n → n ≤ 1000 → (∀ i,i < n → (atI db i).bs.length ≤ 512) → DbW db → Calls Tryz.prog 16 #[.slice a n c] w fun e w' => e = .returned (.int .u64 (HF db : Nat)) ∧ Below w.heap.size w w'
theorem bc_app (a b : List Nat) : bcells (a ++ b) = bcells a ++ bcells b := by simp [bcells]
theorem hD2' {TT DD : Nat} (h : ∀ (H : Nat) (W : World),W.cell? ⟨H,0,none⟩ = some (.int .u64 (TT : Nat)) → Calls Tryz.prog 29 #[.int .u64 0,.string { data := #[104,97,115,104] },.slice (some ⟨H,0,none⟩) 1 1] W fun e w' => e = .returned (.int .u64 (DD : Nat)) ∧ Below W.heap.size W w') (w : World) (_ : Nat) :
 Calls Tryz.prog 29 #[.int .u64 0,.string { data := #[104,97,115,104] },.slice (some ⟨w.heap.size,0,none⟩) 1 1] (w.alloc (.cells #[.int .u64 (TT : Nat)] 24)) fun e w' => e = .returned (.int .u64 (DD : Nat)) ∧ Below w.heap.size w w' :=
 (h w.heap.size _ (cellNew w #[.int .u64 (TT : Nat)] 24 0 _ rfl)).mono fun e w' hh => ⟨hh.1,((Below.refl w.heap.size w).alloc (Nat.le_refl _) _).trans (hh.2.mono (by simp))⟩
theorem hash_ex : ∃ HF,HashOk HF := by
 obtain ⟨i0,hi,hz0,hz1,hz2⟩ := info_parts Tryz.info_u8
 obtain ⟨T,hT⟩ := tag_ex 0
 obtain ⟨D,hD⟩ := derive_ex
 refine ⟨fun db => if (hBs db db.length).length ≤ 1000000 then max 1 (D (T (hBs db db.length))) else 0,fun db => ⟨?_,fun a n c w h hn hm hl hw => ?_⟩⟩
 ·show (if (hBs db db.length).length ≤ 1000000 then max 1 (D (T (hBs db db.length))) else 0) < 18446744073709551616
  split
  ·rename_i h
   have h1 := (hD _ (hT _ h).1).1
   omega
  ·omega
 have hlen := hBs_len db (by rw [hn]; exact hl) db.length (Nat.le_refl _)
 show Calls _ _ _ _ fun e w' => e = .returned (.int .u64 ((if (hBs db db.length).length ≤ 1000000 then max 1 (D (T (hBs db db.length))) else 0 : Nat) : Nat)) ∧ Below w.heap.size w w'
 rw [if_pos (by omega)]
 have HT := Lib.hid (hT (hBs db db.length) (by omega))
 have HD := Lib.hid (hD _ HT.out.1)
 have HLT := Lib.hid (hBs_lt db (fun i hi => by
  obtain ⟨b,off,rfl,hb,hat⟩ := h.at hn (by omega)
  obtain ⟨ra,rc,_,_,_,_,_,_,hby⟩ := hat i (by omega)
  exact hby.2.2) db.length (Nat.le_refl _))
 have HLN := Lib.hid hlen
 rw [hn] at HT HD HLT HLN ⊢
 have hT2 := HT.out.2
 obtain ⟨TT,hTT⟩ : ∃ x,T (hBs db n) = x := ⟨_,rfl⟩
 rw [hTT] at hT2 ⊢
 have hD2 := HD.out.2
 rw [hTT] at hD2
 obtain ⟨DD,hDD⟩ : ∃ x,D TT = x := ⟨_,rfl⟩
 rw [hDD] at hD2 ⊢
 have HTT := Lib.hid hT2
 have HD2 := Lib.hid hD2
 clear hT2 hTT hD2 hDD HT HD
 have HDB := Lib.hid (And.intro h (And.intro hn (And.intro hl hw)))
 have HLK := Lib.hid (hBs_len db (by rw [hn]; exact hl))
 have own0 : w.ownsRow w.heap.size 5 1 (.slice none 0 0) (hBs db 0).length (bcells (hBs db 0)) := ⟨rfl,.inl ⟨rfl,rfl⟩⟩
 have HOWN0 := Lib.hid own0
 clear hT hD hlen h hn hl hw own0
 go_enter Tryz.func16,Tryz.ntmps16
 go_wp2_with fail
 go_loopw [3,4] (fun v i wr => ∃ k : Nat,i = .int .i64 k ∧ k ≤ n ∧ Hid (wr.ownsRow w.heap.size 5 1 v (hBs db k).length (bcells (hBs db k))) ∧ Below w.heap.size w wr) (fun _ i _ => n - (intOf i).toNat)
 case atStart => exact ⟨0,by simp,Nat.zero_le _,HOWN0,Below.refl _ _⟩
 case round =>
  clear HOWN0
  obtain ⟨k,rfl,hk,hown,hB⟩ := hrel
  obtain ⟨ka,kc',rfl⟩ := own_form hown.out
  by_cases hlt : k < n
  ·have g1 : decide (k < n) = true := by simpa using hlt
   have g1i : decide ((k : Int) < (n : Int)) = true := by simp; omega
   have w1 : IntKind.i64.wrap ((k : Int) + 1) = (k : Int) + 1 := IntWalk.i64_in _ (by omega)
   obtain ⟨b,off,rfl,hb,hat⟩ := HDB.out.1.at HDB.out.2.1 (by omega)
   obtain ⟨ra,rc,d0,d1,d2,d3,d4,hcap,hby⟩ := hat k hlt
   have hl5 := HDB.out.2.2.1 k hlt
   have hw5 := HDB.out.2.2.2 k (by rw [HDB.out.2.1]; exact hlt)
   have hsucc := hBs_succ db k (by rw [HDB.out.2.1]; exact hlt)
   have hnk := HLK.out k (by rw [HDB.out.2.1]; omega)
   obtain ⟨⟨ha,hh,lo,pe,bs⟩,he⟩ : ∃ r,atI db k = r := ⟨_,rfl⟩
   rw [he] at d0 d1 d2 d3 d4 hby hcap hl5 hw5 hsucc
   simp only at d0 d1 d2 d3 d4 hby hcap hl5 hw5
   obtain ⟨HA,rfl⟩ : ∃ x : Nat,ha = (x : Int) := ⟨ha.toNat,by omega⟩
   obtain ⟨HI,rfl⟩ : ∃ x : Nat,hh = (x : Int) := ⟨hh.toNat,by omega⟩
   obtain ⟨LO,rfl⟩ : ∃ x : Nat,lo = (x : Int) := ⟨lo.toNat,by omega⟩
   obtain ⟨L,hL⟩ : ∃ L,bs.length = L := ⟨_,rfl⟩
   have hsb : SR w (.slice ra bs.length rc) bs.length 1 (bcells bs) := hby.1
   rw [hL] at d4 hby hcap hl5 hsb
   obtain ⟨B0,hB0⟩ : ∃ x,hBs db k = x := ⟨_,rfl⟩
   rw [hB0] at hown hsucc hnk ⊢
   obtain ⟨DC,hDC⟩ : ∃ x,dcU (HI : Int) (LO : Int) = x := ⟨_,rfl⟩
   have hst : hBs db (k + 1) = B0 ++ (putB HA 2 ++ (putB LO 8 ++ (putB HI 8 ++ if DC = true then putB L 2 ++ bs else []))) := by
    rw [hsucc]
    unfold hshB
    simp only [Int.toNat_natCast,hDC,hL]
   have HST := Lib.hid hst
   have HP1 := Lib.hid (fun W => put_any HA 2 (by omega) (by decide) W)
   have HP2 := Lib.hid (fun W => put_any LO 8 (by omega) (by decide) W)
   have HP3 := Lib.hid (fun W => put_any HI 8 (by omega) (by decide) W)
   have HP4 := Lib.hid (fun W => put_any L 2 (by omega) (by decide) W)
   have hdc := fun W => declares_any (HI : Int) (LO : Int) W
   simp only [hDC] at hdc
   have HDC := Lib.hid hdc
   have HN0 := Lib.hid (show B0.length ≤ 600000 by omega)
   have HSB := Lib.hid (And.intro hsb hL)
   have hi0 : (0 : Int) ≤ (k : Int) := by omega
   have hi1 : (k : Int) < (n : Int) := by omega
   have u0 : IntKind.u64.wrap (HA : Int) = (HA : Int) := IntWalk.u64_in _ (by omega)
   have u1 : IntKind.u64.wrap (L : Int) = (L : Int) := IntWalk.u64_in _ (by omega)
   have HDD := Lib.hid (And.intro d0 (And.intro d1 (And.intro d2 d4)))
   have HLL := Lib.hid hl5
   clear he hat hsucc hst hDC hdc hsb hL hB0 hnk hw5 hby hcap d0 d1 d2 d3 d4 hlt hl5
   have d0 := kc HDD.out.1 hB
   go_wp2_with fail
   refine (HP1.out _).mono ?_
   rintro e x1 ⟨p1,rfl,ho,hC⟩
   obtain ⟨q1,z1,rfl⟩ := own_form ho
   have HX := Lib.hid (And.intro (own_below hown.out hC) (And.intro (SR.of_own ho (bcells_one _) (by decide)) (hB.trans (hC.mono hB.size))))
   clear ho hC d0 hown hB HP1
   go_upto_region 6 with (refine wpList_app_ownN rfl _ _ 27 rfl w.heap.size 5 i0 _ 1 1 Tryz.underlying27 hi hz0 hz1 hz2 rfl (by decide) _ _ _ rfl HX.out.1 _ _ _ rfl HX.out.2.1 (by have := HN0.out; unfold maxLen; omega) (by have := HN0.out; omega) HX.out.2.2.size ?_; intro v1 y1 hown1 hg1)
   obtain ⟨a1,c1,rfl⟩ := own_form hown1
   have hB1 := HX.out.2.2.grown hg1 HX.out.2.2.size (fun q hq => (HX.out.1.lt q hq).1)
   obtain ⟨B1,hE⟩ : ∃ x,B0 ++ putB HA 2 = x := ⟨_,rfl⟩
   have hE2 : B1.length = B0.length + 2 := by rw [← hE,List.length_append,putB_len]
   have hO1 : y1.ownsRow w.heap.size 5 1 (.slice a1 (B0.length + 2) c1) B1.length (bcells B1) := by rw [hE2,← hE,bc_app]; exact hown1
   rw [← hE2] at hO1 ⊢
   have HE1 := Lib.hid hE
   have hN1 : B1.length ≤ 600000 + 100 * 1 := by have := HN0.out; omega
   have HN1 := Lib.hid hN1
   clear hown1 hg1 HX hE hE2 hN1
   have d2 := kc HDD.out.2.2.1 hB1
   go_wp2_with fail
   refine (HP2.out _).mono ?_
   rintro e x2 ⟨p2,rfl,ho,hC⟩
   obtain ⟨q2,z2,rfl⟩ := own_form ho
   have HX := Lib.hid (And.intro (own_below hO1 hC) (And.intro (SR.of_own ho (bcells_one _) (by decide)) (hB1.trans (hC.mono hB1.size))))
   clear ho hC d2 hO1 hB1 HP2
   go_upto_region 7 with (refine wpList_app_ownN rfl _ _ 27 rfl w.heap.size 5 i0 _ 1 1 Tryz.underlying27 hi hz0 hz1 hz2 rfl (by decide) _ _ _ rfl HX.out.1 _ _ _ rfl HX.out.2.1 (by have := HN1.out; unfold maxLen; omega) (by have := HN1.out; omega) HX.out.2.2.size ?_; intro v2 y2 hown2 hg2)
   obtain ⟨a2,c2,rfl⟩ := own_form hown2
   have hB2 := HX.out.2.2.grown hg2 HX.out.2.2.size (fun q hq => (HX.out.1.lt q hq).1)
   obtain ⟨B2,hE⟩ : ∃ x,B1 ++ putB LO 8 = x := ⟨_,rfl⟩
   have hE2 : B2.length = B1.length + 8 := by rw [← hE,List.length_append,putB_len]
   have hO2 : y2.ownsRow w.heap.size 5 1 (.slice a2 (B1.length + 8) c2) B2.length (bcells B2) := by rw [hE2,← hE,bc_app]; exact hown2
   rw [← hE2] at hO2 ⊢
   have HE2 := Lib.hid hE
   have hN2 : B2.length ≤ 600000 + 100 * 2 := by have := HN1.out; omega
   have HN2 := Lib.hid hN2
   clear hown2 hg2 HX hE hE2 hN2
   have d1 := kc HDD.out.2.1 hB2
   go_wp2_with fail
   refine (HP3.out _).mono ?_
   rintro e x3 ⟨p3,rfl,ho,hC⟩
   obtain ⟨q3,z3,rfl⟩ := own_form ho
   have HX := Lib.hid (And.intro (own_below hO2 hC) (And.intro (SR.of_own ho (bcells_one _) (by decide)) (hB2.trans (hC.mono hB2.size))))
   clear ho hC d1 hO2 hB2 HP3
   go_upto_region 8 with (refine wpList_app_ownN rfl _ _ 27 rfl w.heap.size 5 i0 _ 1 1 Tryz.underlying27 hi hz0 hz1 hz2 rfl (by decide) _ _ _ rfl HX.out.1 _ _ _ rfl HX.out.2.1 (by have := HN2.out; unfold maxLen; omega) (by have := HN2.out; omega) HX.out.2.2.size ?_; intro v3 y3 hown3 hg3)
   obtain ⟨a3,c3,rfl⟩ := own_form hown3
   have hB3 := HX.out.2.2.grown hg3 HX.out.2.2.size (fun q hq => (HX.out.1.lt q hq).1)
   obtain ⟨B3,hE⟩ : ∃ x,B2 ++ putB HI 8 = x := ⟨_,rfl⟩
   have hE2 : B3.length = B2.length + 8 := by rw [← hE,List.length_append,putB_len]
   have hO3 : y3.ownsRow w.heap.size 5 1 (.slice a3 (B2.length + 8) c3) B3.length (bcells B3) := by rw [hE2,← hE,bc_app]; exact hown3
   rw [← hE2] at hO3 ⊢
   have HE3 := Lib.hid hE
   have hN3 : B3.length ≤ 600000 + 100 * 3 := by have := HN2.out; omega
   have HN3 := Lib.hid hN3
   clear hown3 hg3 HX hE hE2 hN3
   have d1 := kc HDD.out.2.1 hB3
   have d2 := kc HDD.out.2.2.1 hB3
   go_wp2_with fail
   refine (HDC.out _).mono ?_
   rintro e w4 ⟨rfl,hC⟩
   have hO3 := own_below hO3 hC
   have hB3 := hB3.trans (hC.mono hB3.size)
   clear d1 d2 hC HDC
   cases DC with
   |false =>
    have hst : hBs db (k + 1) = B3 := by rw [HST.out,← HE3.out,← HE2.out,← HE1.out]; simp
    have hR : w4.ownsRow w.heap.size 5 1 (.slice a3 B3.length c3) (hBs db (k + 1)).length (bcells (hBs db (k + 1))) := by rw [hst]; exact hO3
    have HR := Lib.hid (And.intro hR hB3)
    clear hO3 hB3 hst hR
    go_wp2
    go_roundw
    case rel => exact ⟨k + 1,by go_num,by omega,Lib.hid HR.out.1,HR.out.2⟩
    case measure => simp [intOf]; omega
   |true =>
    have d4 := kc HDD.out.2.2.2 hB3
    go_wp2_with fail
    refine (HP4.out _).mono ?_
    rintro e x4 ⟨p4,rfl,ho,hC⟩
    obtain ⟨q4,z4,rfl⟩ := own_form ho
    have HX := Lib.hid (And.intro (own_below hO3 hC) (And.intro (SR.of_own ho (bcells_one _) (by decide)) (hB3.trans (hC.mono hB3.size))))
    clear ho hC d4 hO3 hB3 HP4
    go_upto_region 10 with (refine wpList_app_ownN rfl _ _ 27 rfl w.heap.size 5 i0 _ 1 1 Tryz.underlying27 hi hz0 hz1 hz2 rfl (by decide) _ _ _ rfl HX.out.1 _ _ _ rfl HX.out.2.1 (by have := HN3.out; unfold maxLen; omega) (by have := HN3.out; omega) HX.out.2.2.size ?_; intro v4 y4 hown4 hg4)
    obtain ⟨a4,c4,rfl⟩ := own_form hown4
    have hB4 := HX.out.2.2.grown hg4 HX.out.2.2.size (fun q hq => (HX.out.1.lt q hq).1)
    obtain ⟨B4,hE⟩ : ∃ x,B3 ++ putB L 2 = x := ⟨_,rfl⟩
    have hE2 : B4.length = B3.length + 2 := by rw [← hE,List.length_append,putB_len]
    have hO4 : y4.ownsRow w.heap.size 5 1 (.slice a4 (B3.length + 2) c4) B4.length (bcells B4) := by rw [hE2,← hE,bc_app]; exact hown4
    rw [← hE2] at hO4 ⊢
    have HE4 := Lib.hid hE
    have hN4 : B4.length ≤ 600000 + 100 * 4 := by have := HN3.out; omega
    have HN4 := Lib.hid hN4
    clear hown4 hg4 HX hE hE2
    have d4 := kc HDD.out.2.2.2 hB4
    have HX := Lib.hid (And.intro hO4 (And.intro (SR.below HSB.out.1 hB4) hB4))
    have HN5 := Lib.hid (And.intro hN4 HLL.out)
    clear hO4 hB4 hN4
    go_upto_region 4 with (refine wpList_app_ownN rfl _ _ 27 rfl w.heap.size 5 i0 _ 1 1 Tryz.underlying27 hi hz0 hz1 hz2 rfl (by decide) _ _ _ rfl HX.out.1 _ _ _ rfl HX.out.2.1 (by have := HN5.out; unfold maxLen; omega) (by have := HN5.out; omega) HX.out.2.2.size ?_; intro v5 w5 hown5 hg5)
    obtain ⟨a5,c5,rfl⟩ := own_form hown5
    have hB5 := HX.out.2.2.grown hg5 HX.out.2.2.size (fun q hq => (HX.out.1.lt q hq).1)
    have hO5 : w5.ownsRow w.heap.size 5 1 (.slice a5 (B4.length + L) c5) (B4 ++ bs).length (bcells (B4 ++ bs)) := by rw [bc_app,List.length_append,HSB.out.2]; exact hown5
    have hst : hBs db (k + 1) = B4 ++ bs := by rw [HST.out,← HE4.out,← HE3.out,← HE2.out,← HE1.out]; simp
    rw [← hst] at hO5
    have HR := Lib.hid (And.intro hO5 hB5)
    clear hO5 hB5 hst hown5 hg5 HX d4
    go_wp2
    go_roundw
    case rel => exact ⟨k + 1,by go_num,by omega,Lib.hid HR.out.1,HR.out.2⟩
    case measure => simp [intOf]; omega
  ·obtain rfl : k = n := by omega
   have g1 : decide (k < k) = false := by simp
   have g1i : decide ((k : Int) < (k : Int)) = false := by simp
   have hcap := own_cap hown.out
   obtain ⟨a',c',e,hcap⟩ := hcap
   cases e
   have hT := HTT.out ka _ kc' wr ⟨SR.of_own hown.out (bcells_one _) (by have := HLN.out; unfold maxLen; omega),by have := HLN.out; unfold reachBytes; omega,HLT.out⟩ rfl hcap
   have HTQ := Lib.hid hT
   clear hT hown hcap hlt HTT
   go_wp2_with fail
   refine HTQ.out.mono ?_
   rintro e w2 ⟨rfl,hC⟩
   have hB2 := hB.trans (hC.mono hB.size)
   have hB3 := hB2.alloc hB2.size (.cells #[.int .u64 (TT : Nat)] 24)
   have HNE := Lib.hid (hD2' HD2.out w2 TT)
   have m1 : max (1 : Int) (DD : Int) = ((max 1 DD : Nat) : Int) := by omega
   have m2 : (if (1 : Int) < (DD : Int) then (DD : Int) else 1) = ((max 1 DD : Nat) : Int) := by split <;> omega
   have m3 : (if 1 < DD then (DD : Int) else 1) = ((max 1 DD : Nat) : Int) := by split <;> omega
   have HB2 := Lib.hid hB2
   obtain ⟨MX,hMX⟩ : ∃ x,max 1 DD = x := ⟨_,rfl⟩
   have HMX := Lib.hid hMX
   rw [hMX] at m1 m2 m3
   clear hB hC hB2 HTQ hMX hB3
   go_wp2_with fail
   refine HNE.out.mono ?_
   rintro e w3 ⟨rfl,hC⟩
   have hB4 := HB2.out.trans (hC.mono HB2.out.size)
   clear hC HB2 HNE
   go_wp2
   go_ret
   exact ⟨ret_eq (by rw [HMX.out]),hB4⟩
/-- how many of the first numbers pass -/
def firstNo (c : Nat → Bool) (n : Nat) : Nat := ((List.range n).takeWhile c).length
theorem tw_len {α : Type} (c : α → Bool) : ∀ (l : List α) (i : Nat),i ≤ l.length → (∀ j (h : j < l.length),j < i → c l[j] = true) → (∀ h : i < l.length,c l[i] = false) → (l.takeWhile c).length = i
 |[],i,hi,_,_ => by simp at hi; simp [hi]
 |x :: l,0,_,_,h2 => by
  have h3 : c x = false := h2 (by simp)
  rw [List.takeWhile_cons,h3]
  rfl
 |x :: l,i + 1,hi,h1,h2 => by
  have h3 : c x = true := h1 0 (by simp) (by omega)
  rw [List.takeWhile_cons,h3]
  simp only [if_true,List.length_cons]
  rw [tw_len c l i (by simpa using hi) (fun j h hj => by have := h1 (j + 1) (by simpa using h) (by omega); simpa using this) (fun h => by have := h2 (by simpa using h); simpa using this)]
theorem firstNo_eq {c : Nat → Bool} {n i : Nat} (hi : i ≤ n) (h1 : ∀ j,j < i → c j = true) (h2 : i < n → c i = false) : firstNo c n = i := by
 unfold firstNo
 refine tw_len c _ i (by simpa using hi) (fun j h hj => ?_) (fun h => ?_)
 ·rw [List.getElem_range]
  exact h1 j hj
 ·rw [List.getElem_range]
  exact h2 (by simpa using h)
theorem firstNo_le (c : Nat → Bool) (n : Nat) : firstNo c n ≤ n := by
 unfold firstNo
 exact Nat.le_trans (List.takeWhile_prefix c).length_le (by simp)
theorem firstNo_pos {c : Nat → Bool} {n : Nat} (h : 0 < n) (h0 : c 0 = true) : 0 < firstNo c n := by
 obtain ⟨m,rfl⟩ : ∃ m,n = m + 1 := ⟨n - 1,by omega⟩
 unfold firstNo
 rw [List.range_succ_eq_map,List.takeWhile_cons,h0]
 simp
def shB (x : At) : Bool := isShort x.hi.toNat x.lo.toNat
/-- AttFind -/
def fdC (mt : Int) (l : List At) (i : Nat) : Bool := (shB (atI l i) == shB (atI l 0)) && decide (((i : Int) + 1) * (if shB (atI l 0) = true then 4 else 18) ≤ roomI 5 mt)
def itF (x : At) : Im := ⟨x.ha.toNat,0,x.hi.toNat,x.lo.toNat,[]⟩
def findS (s : Ss) (p : Pd) : Pd × List Im :=
 if rangeL s.db p.ha p.la = [] then (errP p p.ha 10,[])
 else ({ pd0 with kd := 5 },((rangeL s.db p.ha p.la).take (firstNo (fdC s.mt (rangeL s.db p.ha p.la)) (rangeL s.db p.ha p.la).length)).map itF)
/-- the attributes of a type in a range -/
def inT (A B hi lo : Int) (x : At) : Bool := inB A B x && (x.hi == hi && x.lo == lo)
def candL (db : List At) (A B hi lo : Int) : List At := db.filter (inT A B hi lo)
/-- the value that is shown, of a hash or of a declaration -/
def shV (HF : List At → Nat) (db : List At) (x : At) : List Nat := if isU 47459388624896 x.hi x.lo = true then putB (HF db) 8 else x.bs
def cutV (HF : List At → Nat) (s : Ss) (x : At) : List Nat := (shV HF s.db x).take (min (s.mt - 4) 253).toNat
/-- AttByType -/
def tyC (HF : List At → Nat) (s : Ss) (l : List At) (i : Nat) : Bool := ((cutV HF s (atI l i)).length == (cutV HF s (atI l 0)).length) && decide (((i : Int) + 1) * (2 + (cutV HF s (atI l i)).length) ≤ roomI 9 s.mt)
def itT (HF : List At → Nat) (s : Ss) (x : At) : Im := ⟨x.ha.toNat,0,0,0,cutV HF s x⟩
def typeL (HF : List At → Nat) (s : Ss) (p : Pd) : List Im := ((candL s.db p.ha p.la p.hi p.lo).take (firstNo (tyC HF s (candL s.db p.ha p.la p.hi p.lo)) (candL s.db p.ha p.la p.hi p.lo).length)).map (itT HF s)
def typeS (HF : List At → Nat) (s : Ss) (p : Pd) : Pd × List Im := if typeL HF s p = [] then (errP p p.ha 10,[]) else ({ pd0 with kd := 9 },typeL HF s p)
/-- AttGroup -/
def grC (s : Ss) (l : List At) (i : Nat) : Bool := ((atI l i).bs.length == (atI l 0).bs.length) && decide (((i : Int) + 1) * (4 + (atI l i).bs.length) ≤ roomI 17 s.mt)
def grLast (db : List At) (h : Int) : Int := lastOf h (db.drop (findN db h + 1))
def itG (db : List At) (x : At) : Im := ⟨x.ha.toNat,(grLast db x.ha).toNat,0,0,x.bs⟩
def groupL (s : Ss) (p : Pd) : List Im := ((candL s.db p.ha p.la p.hi p.lo).take (firstNo (grC s (candL s.db p.ha p.la p.hi p.lo)) (candL s.db p.ha p.la p.hi p.lo).length)).map (itG s.db)
def groupS (s : Ss) (p : Pd) : Pd × List Im := if groupL s p = [] then (errP p p.ha 10,[]) else ({ pd0 with kd := 17 },groupL s p)
/-- what the server answers -/
def stD (HF : List At → Nat) (s : Ss) (p : Pd) : Ss × Pd × List Im :=
 if p.kd = 2 then ({ s with mt := min p.mt s.mx },{ pd0 with kd := 3,mt := s.mx },[])
 else if p.kd = 4 then (s,findS s p)
 else if p.kd = 8 then (s,typeS HF s p)
 else (s,groupS s p)
theorem short45_any (hi lo : Nat) (hh : hi < 18446744073709551616) (hl : lo < 18446744073709551616) (w : World) :
 Calls Tryz.prog 96 #[.agg #[.int .u64 (hi : Nat),.int .u64 (lo : Nat)]] w fun e w' => e = .returned (.bool (isShort hi lo)) ∧ Below w.heap.size w w' := by
 have hn := fun W => rnumber_any hi lo hh hl W
 have HN := Lib.hid hn
 clear hn hh hl
 go_enter Tryz.func96,Tryz.ntmps96
 have hB0 := (Below.refl w.heap.size w).alloc (Nat.le_refl _) (.cells #[.int .u64 (hi : Nat),.int .u64 (lo : Nat)] 26)
 generalize isShort hi lo = S at HN ⊢
 generalize numI hi lo = V at HN
 go_wp2_with fail
 refine (HN.out _).mono ?_
 rintro e w2 ⟨rfl,hC⟩
 have hB := hB0.trans (hC.mono hB0.size)
 clear hB0 hC
 go_wp2
 go_ret
 exact ⟨rfl,hB⟩
theorem shownH_any {HF : List At → Nat} (hF : HashOk HF) (s : Ss) (da : Option Addr) (dn dc : Nat) (qa : Option Addr) (qn qc : Nat) (ua : Option Addr) (un uc : Nat) (oa : Option Addr) (on oc : Nat) (db : List At) (i : Nat) (w : World) (h : Dbs w (.slice da dn dc) db) (hn : db.length = dn) (hi : i < dn) (hp : isU 47459388624896 (atI db i).hi (atI db i).lo = true) (hm : dn ≤ 1000) (hl : ∀ i,i < dn → (atI db i).bs.length ≤ 512) (hw : DbW db) :
 Calls Tryz.prog 99 #[.agg #[.slice da dn dc,.int .i64 s.mt,.int .i64 s.mx,.int .i64 2,.slice qa qn qc,.int .i64 2,.bool false,.slice ua un uc,.slice oa on oc,.bool false,.int .i64 0],.int .i64 i] w fun e w' => ∃ a c,e = .returned (.slice a 8 c) ∧ BV w' (.slice a 8 c) (putB (HF db) 8) ∧ Below w.heap.size w w' := by
 obtain ⟨b,off,rfl,hb,hat⟩ := h.at hn (by omega)
 obtain ⟨ra,rc,d0,d1,d2,d3,d4,hcap,hby⟩ := hat i hi
 obtain ⟨⟨ha,hi',lo,pe,bs⟩,he⟩ : ∃ r,atI db i = r := ⟨_,rfl⟩
 rw [he] at d1 d2 hp
 simp only at d1 d2 hp
 have H1 := Lib.hid (fun W => is_h hi' lo W)
 simp only [hp] at H1
 have hi0 : (0 : Int) ≤ (i : Int) := by omega
 have hi1 : (i : Int) < (dn : Int) := by omega
 have bS := Blk.new w 57 [.slice (some ⟨b,off,none⟩) dn dc,.int .i64 s.mt,.int .i64 s.mx,.int .i64 2,.slice qa qn qc,.int .i64 2,.bool false,.slice ua un uc,.slice oa on oc,.bool false,.int .i64 0]
 have hB := (Below.refl w.heap.size w).alloc (Nat.le_refl _) (.cells #[.slice (some ⟨b,off,none⟩) dn dc,.int .i64 s.mt,.int .i64 s.mx,.int .i64 2,.slice qa qn qc,.int .i64 2,.bool false,.slice ua un uc,.slice oa on oc,.bool false,.int .i64 0] 57)
 have DD := Lib.hid (And.intro d1 d2)
 have hfl := (hF db).1
 obtain ⟨HV,hHV⟩ : ∃ x,HF db = x := ⟨_,rfl⟩
 have hhs := fun W (hW : Below w.heap.size w W) => (hF db).2 (some ⟨b,off,none⟩) dn dc W (h.below hW) hn hm hl hw
 simp only [hHV] at hhs hfl ⊢
 have HHS := Lib.hid hhs
 have HPU := Lib.hid (fun W => put_any HV 8 hfl (by decide) W)
 clear hat h he hby hcap hp d0 d1 d2 d3 d4 hn hw hl hm hhs hHV hfl
 go_enter Tryz.func99,Tryz.ntmps99
 go_upto_region 1 with fail
 generalize hX : World.alloc w _ = X at bS hB ⊢
 have m0 := bS.cell (j := 0) (v := .slice (some ⟨b,off,none⟩) dn dc) rfl
 have d1 := kc DD.out.1 hB
 have d2 := kc DD.out.2 hB
 clear hX
 go_wp2_with fail
 refine (H1.out _).mono ?_
 rintro e w2 ⟨rfl,hC⟩
 have bS := bS.below hC
 have hB := hB.trans (hC.mono hB.size)
 clear hC m0 d1 d2
 have m0 := bS.cell (j := 0) (v := .slice (some ⟨b,off,none⟩) dn dc) rfl
 go_wp2_with fail
 refine (HHS.out _ hB).mono ?_
 rintro e w3 ⟨rfl,hC⟩
 have hB := hB.trans (hC.mono hB.size)
 clear hC m0 bS
 go_wp2_with fail
 refine (HPU.out _).mono ?_
 rintro e w4 ⟨v,rfl,hown,hC⟩
 obtain ⟨pa,pc,rfl⟩ := own_form hown
 have hcap := own_cap hown
 have hbv : BV w4 (.slice pa 8 pc) (putB HV 8) := by
  obtain ⟨a',c',e,hcap⟩ := hcap
  cases e
  have hl8 := putB_len HV 8
  have hsr := SR.of_own hown (bcells_one _) (by decide)
  exact ⟨pa,pc,by rw [hl8],by rw [hl8]; exact hcap,by rw [hl8]; exact hsr,by rw [hl8]; decide,putB_lt _ _⟩
 have HBV := Lib.hid hbv
 have hB := hB.trans (hC.mono hB.size)
 clear hC hown hcap hbv
 go_wp2
 go_ret
 exact ⟨_,_,rfl,HBV.out,hB⟩
end Go.Proofs.YtldcihjddebciaaGreat
