/- client with a server: start, over the server that discovers. And what follows it. -/
import Derived.Test.YtldcihjddebciaaGreatDSdQ
import Derived.Test.YtldcihjddebciaaGreatDSeA
import Derived.Test.YtldcihjddebciaaGreatDSeQ
import Derived.Test.YtldcihjddebciaaGreatDSdA
set_option linter.unusedSimpArgs false
set_option linter.unusedVariables false
set_option maxRecDepth 100000
set_option maxHeartbeats 8000000
namespace Go.Proofs.YtldcihjddebciaaGreat
open Go.RowKit
theorem play_mtuD (HF : List At → Nat) (db : List At) (mx : Int) (hg : Gdb db) (hw : DbW db) (hmx : 23 ≤ mx ∧ mx ≤ 517) : (startP (idle 23 mx 0) { tk0 with kd := 1 } 0).2 = 0 ∧ ∃ c1 q,(startP (idle 23 mx 0) { tk0 with kd := 1 } 0).1.c = c1 ∧ (startP (idle 23 mx 0) { tk0 with kd := 1 } 0).1.ps = [q] ∧ PlayG (stD HF) GoodD 1 c1 ⟨db,23,mx,[]⟩ q ⟨1,1,0,[],[],0⟩ (idle mx mx 0) ⟨db,mx,mx,[]⟩ := by
 refine ⟨rfl,_,_,rfl,rfl,?_⟩
 have hg0 : GoodD (startP (idle 23 mx 0) { tk0 with kd := 1 } 0).1.c ⟨db,23,mx,[]⟩ { pd0 with kd := 2,mt := mx } :=
  ⟨ok_act 23 mx 0 (Nat.zero_le _) rfl (Nat.zero_le _) ⟨0,rfl,Nat.zero_le _⟩ (by show (0 : Nat) < 65536; omega),rfl,rfl,.inl rfl,hg,hw,by show (0 : Int) ≤ 23 ∧ (23 : Int) ≤ 100000; omega,fun hk => hk.elim (fun h => absurd (show (2 : Int) = 4 from h) (by decide)) (fun h => absurd (show (2 : Int) = 8 from h.1) (by decide)),fun hk => absurd (show (2 : Int) = 8 from hk) (by decide),fun hk => absurd (show (2 : Int) = 16 from hk) (by decide)⟩
 have := PlayG.done (st := stD HF) (n := 0) (r := ⟨1,1,0,[],[],0⟩) hg0 (by rfl)
 have e1 : (handleP (startP (idle 23 mx 0) { tk0 with kd := 1 } 0).1.c (stD HF ⟨db,23,mx,[]⟩ { pd0 with kd := 2,mt := mx }).2.1 (stD HF ⟨db,23,mx,[]⟩ { pd0 with kd := 2,mt := mx }).2.2 0).c = idle mx mx 0 := by
  show (⟨min mx mx,mx,tk0,pd0,false,0,false,[]⟩ : Cl) = _
  rw [Int.min_self]
  rfl
 have e2 : (stD HF ⟨db,23,mx,[]⟩ { pd0 with kd := 2,mt := mx }).1 = ⟨db,mx,mx,[]⟩ := by
  show (⟨db,min mx mx,mx,[]⟩ : Ss) = _
  rw [Int.min_self]
 rw [e1,e2] at this
 exact this
theorem start_pairD {HF : List At → Nat} (hF : HashOk HF) (da : Option Addr) (dn dc : Nat) (db : List At) (mx : Int) (w : World) (hd : DbR w (.slice da dn dc) db) (hn : db.length = dn) (hwd : DbW db) :
 Calls Tryz.prog 8 #[.slice da dn dc,.int .i64 mx] w fun e w' => ∃ pv B,e = .returned (.tuple #[pv,.bool B]) ∧ (B = true → ∃ X cs ss,pv = .pointer (some ⟨X,0,none⟩) ∧ w.heap.size ≤ X ∧ dn ≤ 60 ∧ 23 ≤ mx ∧ mx ≤ 517 ∧ Gdb db ∧ PR w' X cs ss (idle mx mx 0) ⟨db,mx,mx,[]⟩ true) ∧ Below w.heap.size w w' := by
 have hM : dn ≤ maxLen := by rw [← hn]; exact hd.dbs.1
 unfold maxLen at hM
 have HD := Lib.hid (And.intro hd hn)
 have HNW := Lib.hid (vnew_any da dn dc db mx w hd hn)
 have HWD := Lib.hid hwd
 clear hd hn hwd
 go_enter Tryz.func8,Tryz.ntmps8
 go_upto_region 3 with fail
 go_loop [6,7] (fun nv iv => ∃ (k N : Nat),nv = .int .i64 N ∧ iv = .int .i64 k ∧ k ≤ 60 ∧ k ≤ dn ∧ Hid (N ≤ k * 140737488355328)) (fun _ iv => 60 - (intOf iv).toNat)
 case atStart => exact ⟨0,0,by simp,by simp,Nat.zero_le _,Nat.zero_le _,Lib.hid (Nat.zero_le _)⟩
 case round =>
  obtain ⟨k,N,rfl,rfl,hk,hkd,HN⟩ := hrel
  have hN := HN.out
  have w1' : IntKind.i64.wrap ((k : Int) + 1) = (k : Int) + 1 := IntWalk.i64_in _ (by omega)
  by_cases hlt : k < dn ∧ k < 60
  ·have g1 : decide (k < dn) = true := by simpa using hlt.1
   have g1i : decide ((k : Int) < (dn : Int)) = true := by simp; omega
   have g2 : decide (k < 60) = true := by simpa using hlt.2
   have g2i : decide ((k : Int) < 60) = true := by simp; omega
   have hk60 := hlt.2
   obtain ⟨b,off,rfl,hb,hat⟩ := HD.out.1.dbs.at HD.out.2 (by omega)
   obtain ⟨ra,rc,-,-,-,-,d4,hcap,hby⟩ := hat k hlt.1
   obtain ⟨L,hL⟩ : ∃ L,(atI db k).bs.length = L := ⟨_,rfl⟩
   rw [hL] at d4
   have hLb : L ≤ 140737488355328 := by
    have h := hby.2.1
    rw [hL] at h
    unfold reachBytes at h
    omega
   have hi0 : (0 : Int) ≤ (k : Int) := by omega
   have hi1 : (k : Int) < (dn : Int) := by omega
   obtain ⟨M,hM2⟩ : ∃ M,N + L = M := ⟨_,rfl⟩
   have w2' : IntKind.i64.wrap ((N : Int) + (L : Int)) = (M : Int) := by rw [show (N : Int) + (L : Int) = (M : Int) by omega]; exact IntWalk.i64_in _ (by omega)
   have HX := Lib.hid (show M ≤ (k + 1) * 140737488355328 by omega)
   clear hat hby hcap hL hLb hM2 hlt hN hM HN
   go_wp2
   go_round
   case rel => exact ⟨k + 1,M,rfl,by go_num,by omega,by omega,HX⟩
   case measure => simp [intOf]; omega
  ·clear hN hM
   obtain ⟨P1,hP1⟩ : ∃ b,decide (k < dn) = b := ⟨_,rfl⟩
   obtain ⟨P2,hP2⟩ : ∃ b,decide (k < 60) = b := ⟨_,rfl⟩
   have hP1i : decide ((k : Int) < (dn : Int)) = P1 := by rw [← hP1]; simp
   have hP2i : decide ((k : Int) < 60) = P2 := by rw [← hP2]; simp; omega
   have hPP : ¬ (P1 = true ∧ P2 = true) := fun h => hlt ⟨by simpa [h.1] using hP1,by simpa [h.2] using hP2⟩
   clear hlt hk hkd HN
   cases P1 with
   |false =>
    clear hPP hP2 hP2i
    go_upto_region 6 with fail
    clear w1' hP1 hP1i
    try clear hP2 hP2i
    obtain ⟨A1,hA1⟩ : ∃ b,decide (60 < dn) = b := ⟨_,rfl⟩
    obtain ⟨A2,hA2⟩ : ∃ b,decide (4096 < N) = b := ⟨_,rfl⟩
    have hA1i : decide ((60 : Int) < (dn : Int)) = A1 := by rw [← hA1]; simp; omega
    have hA2i : decide ((4096 : Int) < (N : Int)) = A2 := by rw [← hA2]; simp; omega
    have HA := Lib.hid (And.intro hA1 hA2)
    go_wp2_with fail
    refine HNW.out.mono ?_
    rintro e w2 ⟨sv,E,rfl,hsv,hC⟩
    clear HNW
    rcases hsv with ⟨hE,rfl⟩ | ⟨rfl,hlo,hhi,hgd,hsv⟩
    ·have gE : (E != 0) = true := by simpa using hE
     have bX := Blk.new w2 57 [.slice none 0 0,.int .i64 0,.int .i64 0,.int .i64 0,.slice none 0 0,.int .i64 0,.bool false,.slice none 0 0,.slice none 0 0,.bool false,.int .i64 0]
     have hth := bX.there 0 11 (by simp)
     have one : (#[.slice none 0 0,.int .i64 0,.int .i64 0,.int .i64 0,.slice none 0 0,.int .i64 0,.bool false,.slice none 0 0,.slice none 0 0,.bool false,.int .i64 0] : Array Value).all (·.oneCell') = true := by simp [Value.oneCell']
     clear hE
     cases A1 <;> cases A2 <;> (go_wp2_with (refine wpList_store_mid rfl 57 _ _ rfl w2.heap.size 0 #[.slice none 0 0,.int .i64 0,.int .i64 0,.int .i64 0,.slice none 0 0,.int .i64 0,.bool false,.slice none 0 0,.slice none 0 0,.bool false,.int .i64 0] rfl rfl hth (by kernel_rfl) one ?_; simp only [Act.put]; generalize hW : World.setCells _ w2.heap.size 0 _ = w9; have HW := Lib.hid hW; clear hW); have hB := hC.trans ((((Below.refl w2.heap.size w2).alloc (Nat.le_refl _) _).grown (put_namedB bX HW.out rfl).1 (by simp) (fun k hk => by cases hk; exact Nat.le_refl _)).mono hC.size); exact bodyPost_ret (v := .tuple #[.pointer none,.bool false]) (by simp [results,Tryz.results8,go_sem] <;> rfl) rfl ⟨_,_,rfl,(fun e => by cases e),hB⟩)
    ·obtain ⟨da2,dn2,dc2,qa,qn,qc,ua,un,uc,oa,on,oc,rfl,hdq,hdn,hqn⟩ := hsv.form
     have bX := Blk.new w2 57 [.slice none 0 0,.int .i64 0,.int .i64 0,.int .i64 0,.slice none 0 0,.int .i64 0,.bool false,.slice none 0 0,.slice none 0 0,.bool false,.int .i64 0]
     have hth := bX.there 0 11 (by simp)
     have one : (#[.slice da2 dn2 dc2,.int .i64 23,.int .i64 mx,.int .i64 2,.slice qa qn qc,.int .i64 2,.bool false,.slice ua un uc,.slice oa on oc,.bool false,.int .i64 0] : Array Value).all (·.oneCell') = true := by simp [Value.oneCell']
     by_cases hAA : A1 = true ∨ A2 = true
     ·rcases hAA with rfl | rfl
      ·go_wp2_with (refine wpList_store_mid rfl 57 _ _ rfl w2.heap.size 0 #[.slice da2 dn2 dc2,.int .i64 23,.int .i64 mx,.int .i64 2,.slice qa qn qc,.int .i64 2,.bool false,.slice ua un uc,.slice oa on oc,.bool false,.int .i64 0] rfl rfl hth (by kernel_rfl) one ?_; simp only [Act.put]; generalize hW : World.setCells _ w2.heap.size 0 _ = w9; have HW := Lib.hid hW; clear hW)
       have hB := hC.trans ((((Below.refl w2.heap.size w2).alloc (Nat.le_refl _) _).grown (put_namedB bX HW.out rfl).1 (by simp) (fun k hk => by cases hk; exact Nat.le_refl _)).mono hC.size)
       exact bodyPost_ret (v := .tuple #[.pointer none,.bool false]) (by simp [results,Tryz.results8,go_sem] <;> rfl) rfl ⟨_,_,rfl,(fun e => by cases e),hB⟩
      ·cases A1 <;> (go_wp2_with (refine wpList_store_mid rfl 57 _ _ rfl w2.heap.size 0 #[.slice da2 dn2 dc2,.int .i64 23,.int .i64 mx,.int .i64 2,.slice qa qn qc,.int .i64 2,.bool false,.slice ua un uc,.slice oa on oc,.bool false,.int .i64 0] rfl rfl hth (by kernel_rfl) one ?_; simp only [Act.put]; generalize hW : World.setCells _ w2.heap.size 0 _ = w9; have HW := Lib.hid hW; clear hW); have hB := hC.trans ((((Below.refl w2.heap.size w2).alloc (Nat.le_refl _) _).grown (put_namedB bX HW.out rfl).1 (by simp) (fun k hk => by cases hk; exact Nat.le_refl _)).mono hC.size); exact bodyPost_ret (v := .tuple #[.pointer none,.bool false]) (by simp [results,Tryz.results8,go_sem] <;> rfl) rfl ⟨_,_,rfl,(fun e => by cases e),hB⟩)
     ·obtain rfl : A1 = false := by cases A1 <;> simp_all
      obtain rfl : A2 = false := by cases A2 <;> simp_all
      clear hAA
      go_upto_region 9 with (refine wpList_store_mid rfl 57 _ _ rfl w2.heap.size 0 #[.slice da2 dn2 dc2,.int .i64 23,.int .i64 mx,.int .i64 2,.slice qa qn qc,.int .i64 2,.bool false,.slice ua un uc,.slice oa on oc,.bool false,.int .i64 0] rfl rfl hth (by kernel_rfl) one ?_; simp only [Act.put]; generalize hW : World.setCells _ w2.heap.size 0 _ = w9; have HW := Lib.hid hW; clear hW)
      obtain ⟨hg9,bS⟩ := put_namedB bX HW.out rfl
      have hA9 : Below w2.heap.size w2 w9 := ((Below.refl w2.heap.size w2).alloc (Nat.le_refl _) _).grown hg9 (by simp) (fun k hk => by cases hk; exact Nat.le_refl _)
      have hdq := hdq.below hA9
      have hB := hC.trans (hA9.mono hC.size)
      have h60 : Hid (dn ≤ 60) := Lib.hid (by have h := HA.out.1; simp at h; omega)
      obtain ⟨S9,hS9⟩ : ∃ x,w2.heap.size = x := ⟨_,rfl⟩
      rw [hS9] at bS ⊢
      have HS9 := Lib.hid (show w.heap.size ≤ S9 by rw [← hS9]; exact hC.size)
      clear hS9 HW hg9 hA9 bX hth one hC hA1i hA2i hA1 hA2 HA hsv hdn hqn
      have HGD := Lib.hid (And.intro hlo (And.intro hhi hgd))
      have HNC := Lib.hid (fun W => new_ok mx W hlo hhi)
      clear hlo hhi hgd
      go_upto_region 10 with (first | (go_at_call 19; refine (HNC.out _).mono ?_; rintro e w3 ⟨rfl,hC3⟩; have bS := bS.below hC3; have hdq := hdq.below hC3; have hB := hB.trans (hC3.mono hB.size); have bX := Blk.new w3 52 [.int .i64 0,.int .i64 0,.int .i64 0,.int .u16 0,.int .u16 0,.int .u16 0,.slice none 0 0,.int .i64 0,.slice none 0 0,.bool false,.int .i64 0,.int .i64 0,.int .u16 0,.int .u16 0,.int .u64 0,.int .u64 0,.int .i64 0,.int .i64 0,.int .i64 0,.bool false,.slice none 0 0,.slice none 0 0,.bool false,.int .i64 0,.bool false,.slice none 0 0]; have hth := bX.there 0 26 (by simp); have one : (#[.int .i64 23,.int .i64 mx,.int .i64 0,.int .u16 0,.int .u16 0,.int .u16 0,.slice none 0 0,.int .i64 0,.slice none 0 0,.bool false,.int .i64 0,.int .i64 0,.int .u16 0,.int .u16 0,.int .u64 0,.int .u64 0,.int .i64 0,.int .i64 0,.int .i64 0,.bool false,.slice none 0 0,.slice none 0 0,.bool false,.int .i64 0,.bool false,.slice none 0 0] : Array Value).all (·.oneCell') = true := by simp [Value.oneCell']) | (refine wpList_store_mid rfl 52 _ _ rfl w3.heap.size 0 #[.int .i64 23,.int .i64 mx,.int .i64 0,.int .u16 0,.int .u16 0,.int .u16 0,.slice none 0 0,.int .i64 0,.slice none 0 0,.bool false,.int .i64 0,.int .i64 0,.int .u16 0,.int .u16 0,.int .u64 0,.int .u64 0,.int .i64 0,.int .i64 0,.int .i64 0,.bool false,.slice none 0 0,.slice none 0 0,.bool false,.int .i64 0,.bool false,.slice none 0 0] rfl rfl hth (by kernel_rfl) one ?_; simp only [Act.put]; generalize hW : World.setCells _ w3.heap.size 0 _ = w7; have HW := Lib.hid hW; clear hW))
      obtain ⟨hg7,bC⟩ := put_namedB bX HW.out rfl
      have hA7 : Below w3.heap.size w3 w7 := ((Below.refl w3.heap.size w3).alloc (Nat.le_refl _) _).grown hg7 (by simp) (fun k hk => by cases hk; exact Nat.le_refl _)
      have bS := bS.below hA7
      have hdq := hdq.below hA7
      have hB := hB.trans (hA7.mono hB.size)
      obtain ⟨C9,hC9⟩ : ∃ x,w3.heap.size = x := ⟨_,rfl⟩
      rw [hC9] at bC ⊢
      clear hC9 HW hg7 hA7 bX hth one HNC hC3
      have rgC := bC.range 0 [.int .i64 23,.int .i64 mx,.int .i64 0,.int .u16 0,.int .u16 0,.int .u16 0,.slice none 0 0,.int .i64 0,.slice none 0 0,.bool false,.int .i64 0,.int .i64 0,.int .u16 0,.int .u16 0,.int .u64 0,.int .u64 0,.int .i64 0,.int .i64 0,.int .i64 0,.bool false,.slice none 0 0,.slice none 0 0,.bool false,.int .i64 0,.bool false,.slice none 0 0] (fun j v hv => by rw [Nat.zero_add]; exact hv)
      have rgS := bS.range 0 [.slice da2 dn2 dc2,.int .i64 23,.int .i64 mx,.int .i64 2,.slice qa qn qc,.int .i64 2,.bool false,.slice ua un uc,.slice oa on oc,.bool false,.int .i64 0] (fun j v hv => by rw [Nat.zero_add]; exact hv)
      go_upto_region 11 with (first | (refine wpList_load_mid rfl 52 _ rfl C9 0 rfl [.int .i64 23,.int .i64 mx,.int .i64 0,.int .u16 0,.int .u16 0,.int .u16 0,.slice none 0 0,.int .i64 0,.slice none 0 0,.bool false,.int .i64 0,.int .i64 0,.int .u16 0,.int .u16 0,.int .u64 0,.int .u64 0,.int .i64 0,.int .i64 0,.int .i64 0,.bool false,.slice none 0 0,.slice none 0 0,.bool false,.int .i64 0,.bool false,.slice none 0 0] _ rgC Tryz.underlying52 rfl (by kernel_rfl) ?_) | (refine wpList_load_mid rfl 57 _ rfl S9 0 rfl [.slice da2 dn2 dc2,.int .i64 23,.int .i64 mx,.int .i64 2,.slice qa qn qc,.int .i64 2,.bool false,.slice ua un uc,.slice oa on oc,.bool false,.int .i64 0] _ rgS Tryz.underlying57 rfl (by kernel_rfl) ?_))
      generalize hX : World.alloc w7 _ = w5
      obtain ⟨hnb,hB5,-⟩ := alloc_named hX
      obtain ⟨X,hXn⟩ : ∃ X,w7.heap.size = X := ⟨_,rfl⟩
      rw [hXn] at hnb ⊢
      have hXge : w.heap.size ≤ X := by rw [← hXn]; exact hB.size
      have hdq := hdq.below hB5
      have hB := hB.trans (hB5.mono hB.size)
      have hP : PR w5 X [.int .i64 23,.int .i64 mx,.int .i64 0,.int .u16 0,.int .u16 0,.int .u16 0,.slice none 0 0,.int .i64 0,.slice none 0 0,.bool false,.int .i64 0,.int .i64 0,.int .u16 0,.int .u16 0,.int .u64 0,.int .u64 0,.int .i64 0,.int .i64 0,.int .i64 0,.bool false,.slice none 0 0,.slice none 0 0,.bool false,.int .i64 0,.bool false,.slice none 0 0] [.slice da2 dn2 dc2,.int .i64 23,.int .i64 mx,.int .i64 2,.slice qa qn qc,.int .i64 2,.bool false,.slice ua un uc,.slice oa on oc,.bool false,.int .i64 0] (idle 23 mx 0) ⟨db,23,mx,[]⟩ true := ⟨hnb,rfl,rfl,⟨.slice none 0 0,.slice none 0 0,.slice none 0 0,.slice none 0 0,.slice none 0 0,rfl,BV.nil _,FdV.nil _,BV.nil _,SR.nil _ 5,[],rfl,SR.nil _ 8,fun q hq => by cases hq⟩,fun cs e u hu => .inl rfl,DQ.svv (s := ⟨db,23,mx,[]⟩) hdq⟩
      obtain ⟨p1,c1,q,p2,p3,hpl⟩ := play_mtuD HF db mx HGD.out.2.2 HWD.out (by have := HGD.out; omega)
      have hdo := do_any (hok_d hF) X _ _ (idle 23 mx 0) ⟨db,23,mx,[]⟩ { tk0 with kd := 1 } none 0 0 none 0 0 q ⟨1,1,0,[],[],0⟩ c1 (idle mx mx 0) ⟨db,mx,mx,[]⟩ w5 hP (ok_idle 23 mx 0) (BV.nil _) (Nat.zero_le _) (by decide) p1 p2 p3 (hpl.mono (by omega)) rfl rfl
      have HDO : Hid (Calls Tryz.prog 12 #[.pointer (some ⟨X,0,none⟩),.agg #[.int .i64 1,.int .u16 0,.int .u16 0,.int .u16 0,.slice none 0 0,.int .i64 0,.slice none 0 0,.bool false]] w5 fun e w' => ∃ a5 c5 a6 c6 cs2 ss2,e = .returned (.agg #[.int .i64 1,.int .i64 1,.int .u16 0,.slice a5 0 c5,.slice a6 0 c6,.int .i64 0]) ∧ PR w' X cs2 ss2 (idle mx mx 0) ⟨db,mx,mx,[]⟩ true ∧ KX X w5 w') := Lib.hid (hdo.mono (by
       rintro e w' ⟨bv,fv,cs2,ss2,rfl,hbv,hfv,hP,hK⟩
       obtain ⟨a5,c5,rfl⟩ := hbv.form
       obtain ⟨a6,c6,rfl⟩ := hfv.form
       exact ⟨a5,c5,a6,c6,cs2,ss2,rfl,hP,hK⟩))
      have HXG := Lib.hid (And.intro hXge hB)
      clear hX hnb hB5 hXn hXge hdq hB hP p1 p2 p3 hpl rgC rgS bS bC hdo
      go_upto_region 12 with (first | (go_at_call 12; refine HDO.out.mono ?_; rintro e w6 ⟨a5,c5,a6,c6,cs2,ss2,rfl,hP6,hK6⟩; have bX := Blk.new w6 43 [.int .i64 0,.int .i64 0,.int .u16 0,.slice none 0 0,.slice none 0 0,.int .i64 0]; have hth := bX.there 0 6 (by simp); have one : (#[.int .i64 1,.int .i64 1,.int .u16 0,.slice a5 0 c5,.slice a6 0 c6,.int .i64 0] : Array Value).all (·.oneCell') = true := by simp [Value.oneCell']) | (refine wpList_store_mid rfl 43 _ _ rfl w6.heap.size 0 #[.int .i64 1,.int .i64 1,.int .u16 0,.slice a5 0 c5,.slice a6 0 c6,.int .i64 0] rfl rfl hth (by kernel_rfl) one ?_; simp only [Act.put]; generalize hW : World.setCells _ w6.heap.size 0 _ = w8; have HW := Lib.hid hW; clear hW))
      obtain ⟨hg8,bR⟩ := put_namedB bX HW.out rfl
      have hA8 : Below w6.heap.size w6 w8 := ((Below.refl w6.heap.size w6).alloc (Nat.le_refl _) _).grown hg8 (by simp) (fun k hk => by cases hk; exact Nat.le_refl _)
      have hP := hP6.below hA8
      have hX6 := hP6.blk.lt
      obtain ⟨R9,hR9⟩ : ∃ x,w6.heap.size = x := ⟨_,rfl⟩
      rw [hR9] at bR hX6 ⊢
      have hB := HXG.out.2.trans (hK6.lo.mono HXG.out.1)
      have hB := hB.trans (hA8.mono hB.size)
      obtain ⟨b1,n1,d1,b2,n2,d2,b3,n3,d3,b4,n4,d4,b5,n5,d5,ecs⟩ := clv_cells hP.cv
      have mX := hP.cell
      have zX := hP.blk.frozen 37
      have m0 : w8.cell? ⟨X,0,none⟩ = some (.int .i64 mx) := hP.cell_c (by rw [ecs]; rfl)
      have r0 := bR.cell (j := 0) (v := .int .i64 1) rfl
      clear hR9 HW hg8 hA8 bX hth one hP6 hK6 ecs HDO
      go_upto_region 13 with fail
      have hg9 := set1 w8 ⟨X,37,none⟩ (.bool true)
      have hP9 := hP.set_ok true
      have hB9 := hB.grown hg9 hB.size (fun k hk => by cases hk; exact HXG.out.1)
      go_wp2
      exact bodyPost_ret (v := .tuple #[.pointer (some ⟨X,0,none⟩),.bool true]) (by simp [results,Tryz.results8,go_sem] <;> rfl) rfl ⟨_,.inr ⟨rfl,⟨X,rfl,HXG.out.1,h60.out,HGD.out.1,HGD.out.2.1,HGD.out.2.2,_,_,hP9⟩,hB9⟩⟩
   |true =>
    cases P2 with
    |true => exact absurd ⟨rfl,rfl⟩ hPP
    |false =>
     clear hPP
     go_upto_region 6 with fail
     clear w1' hP1 hP1i
     try clear hP2 hP2i
     obtain ⟨A1,hA1⟩ : ∃ b,decide (60 < dn) = b := ⟨_,rfl⟩
     obtain ⟨A2,hA2⟩ : ∃ b,decide (4096 < N) = b := ⟨_,rfl⟩
     have hA1i : decide ((60 : Int) < (dn : Int)) = A1 := by rw [← hA1]; simp; omega
     have hA2i : decide ((4096 : Int) < (N : Int)) = A2 := by rw [← hA2]; simp; omega
     have HA := Lib.hid (And.intro hA1 hA2)
     go_wp2_with fail
     refine HNW.out.mono ?_
     rintro e w2 ⟨sv,E,rfl,hsv,hC⟩
     clear HNW
     rcases hsv with ⟨hE,rfl⟩ | ⟨rfl,hlo,hhi,hgd,hsv⟩
     ·have gE : (E != 0) = true := by simpa using hE
      have bX := Blk.new w2 57 [.slice none 0 0,.int .i64 0,.int .i64 0,.int .i64 0,.slice none 0 0,.int .i64 0,.bool false,.slice none 0 0,.slice none 0 0,.bool false,.int .i64 0]
      have hth := bX.there 0 11 (by simp)
      have one : (#[.slice none 0 0,.int .i64 0,.int .i64 0,.int .i64 0,.slice none 0 0,.int .i64 0,.bool false,.slice none 0 0,.slice none 0 0,.bool false,.int .i64 0] : Array Value).all (·.oneCell') = true := by simp [Value.oneCell']
      clear hE
      cases A1 <;> cases A2 <;> (go_wp2_with (refine wpList_store_mid rfl 57 _ _ rfl w2.heap.size 0 #[.slice none 0 0,.int .i64 0,.int .i64 0,.int .i64 0,.slice none 0 0,.int .i64 0,.bool false,.slice none 0 0,.slice none 0 0,.bool false,.int .i64 0] rfl rfl hth (by kernel_rfl) one ?_; simp only [Act.put]; generalize hW : World.setCells _ w2.heap.size 0 _ = w9; have HW := Lib.hid hW; clear hW); have hB := hC.trans ((((Below.refl w2.heap.size w2).alloc (Nat.le_refl _) _).grown (put_namedB bX HW.out rfl).1 (by simp) (fun k hk => by cases hk; exact Nat.le_refl _)).mono hC.size); exact bodyPost_ret (v := .tuple #[.pointer none,.bool false]) (by simp [results,Tryz.results8,go_sem] <;> rfl) rfl ⟨_,_,rfl,(fun e => by cases e),hB⟩)
     ·obtain ⟨da2,dn2,dc2,qa,qn,qc,ua,un,uc,oa,on,oc,rfl,hdq,hdn,hqn⟩ := hsv.form
      have bX := Blk.new w2 57 [.slice none 0 0,.int .i64 0,.int .i64 0,.int .i64 0,.slice none 0 0,.int .i64 0,.bool false,.slice none 0 0,.slice none 0 0,.bool false,.int .i64 0]
      have hth := bX.there 0 11 (by simp)
      have one : (#[.slice da2 dn2 dc2,.int .i64 23,.int .i64 mx,.int .i64 2,.slice qa qn qc,.int .i64 2,.bool false,.slice ua un uc,.slice oa on oc,.bool false,.int .i64 0] : Array Value).all (·.oneCell') = true := by simp [Value.oneCell']
      by_cases hAA : A1 = true ∨ A2 = true
      ·rcases hAA with rfl | rfl
       ·go_wp2_with (refine wpList_store_mid rfl 57 _ _ rfl w2.heap.size 0 #[.slice da2 dn2 dc2,.int .i64 23,.int .i64 mx,.int .i64 2,.slice qa qn qc,.int .i64 2,.bool false,.slice ua un uc,.slice oa on oc,.bool false,.int .i64 0] rfl rfl hth (by kernel_rfl) one ?_; simp only [Act.put]; generalize hW : World.setCells _ w2.heap.size 0 _ = w9; have HW := Lib.hid hW; clear hW)
        have hB := hC.trans ((((Below.refl w2.heap.size w2).alloc (Nat.le_refl _) _).grown (put_namedB bX HW.out rfl).1 (by simp) (fun k hk => by cases hk; exact Nat.le_refl _)).mono hC.size)
        exact bodyPost_ret (v := .tuple #[.pointer none,.bool false]) (by simp [results,Tryz.results8,go_sem] <;> rfl) rfl ⟨_,_,rfl,(fun e => by cases e),hB⟩
       ·cases A1 <;> (go_wp2_with (refine wpList_store_mid rfl 57 _ _ rfl w2.heap.size 0 #[.slice da2 dn2 dc2,.int .i64 23,.int .i64 mx,.int .i64 2,.slice qa qn qc,.int .i64 2,.bool false,.slice ua un uc,.slice oa on oc,.bool false,.int .i64 0] rfl rfl hth (by kernel_rfl) one ?_; simp only [Act.put]; generalize hW : World.setCells _ w2.heap.size 0 _ = w9; have HW := Lib.hid hW; clear hW); have hB := hC.trans ((((Below.refl w2.heap.size w2).alloc (Nat.le_refl _) _).grown (put_namedB bX HW.out rfl).1 (by simp) (fun k hk => by cases hk; exact Nat.le_refl _)).mono hC.size); exact bodyPost_ret (v := .tuple #[.pointer none,.bool false]) (by simp [results,Tryz.results8,go_sem] <;> rfl) rfl ⟨_,_,rfl,(fun e => by cases e),hB⟩)
      ·obtain rfl : A1 = false := by cases A1 <;> simp_all
       obtain rfl : A2 = false := by cases A2 <;> simp_all
       clear hAA
       go_upto_region 9 with (refine wpList_store_mid rfl 57 _ _ rfl w2.heap.size 0 #[.slice da2 dn2 dc2,.int .i64 23,.int .i64 mx,.int .i64 2,.slice qa qn qc,.int .i64 2,.bool false,.slice ua un uc,.slice oa on oc,.bool false,.int .i64 0] rfl rfl hth (by kernel_rfl) one ?_; simp only [Act.put]; generalize hW : World.setCells _ w2.heap.size 0 _ = w9; have HW := Lib.hid hW; clear hW)
       obtain ⟨hg9,bS⟩ := put_namedB bX HW.out rfl
       have hA9 : Below w2.heap.size w2 w9 := ((Below.refl w2.heap.size w2).alloc (Nat.le_refl _) _).grown hg9 (by simp) (fun k hk => by cases hk; exact Nat.le_refl _)
       have hdq := hdq.below hA9
       have hB := hC.trans (hA9.mono hC.size)
       have h60 : Hid (dn ≤ 60) := Lib.hid (by have h := HA.out.1; simp at h; omega)
       obtain ⟨S9,hS9⟩ : ∃ x,w2.heap.size = x := ⟨_,rfl⟩
       rw [hS9] at bS ⊢
       have HS9 := Lib.hid (show w.heap.size ≤ S9 by rw [← hS9]; exact hC.size)
       clear hS9 HW hg9 hA9 bX hth one hC hA1i hA2i hA1 hA2 HA hsv hdn hqn
       have HGD := Lib.hid (And.intro hlo (And.intro hhi hgd))
       have HNC := Lib.hid (fun W => new_ok mx W hlo hhi)
       clear hlo hhi hgd
       go_upto_region 10 with (first | (go_at_call 19; refine (HNC.out _).mono ?_; rintro e w3 ⟨rfl,hC3⟩; have bS := bS.below hC3; have hdq := hdq.below hC3; have hB := hB.trans (hC3.mono hB.size); have bX := Blk.new w3 52 [.int .i64 0,.int .i64 0,.int .i64 0,.int .u16 0,.int .u16 0,.int .u16 0,.slice none 0 0,.int .i64 0,.slice none 0 0,.bool false,.int .i64 0,.int .i64 0,.int .u16 0,.int .u16 0,.int .u64 0,.int .u64 0,.int .i64 0,.int .i64 0,.int .i64 0,.bool false,.slice none 0 0,.slice none 0 0,.bool false,.int .i64 0,.bool false,.slice none 0 0]; have hth := bX.there 0 26 (by simp); have one : (#[.int .i64 23,.int .i64 mx,.int .i64 0,.int .u16 0,.int .u16 0,.int .u16 0,.slice none 0 0,.int .i64 0,.slice none 0 0,.bool false,.int .i64 0,.int .i64 0,.int .u16 0,.int .u16 0,.int .u64 0,.int .u64 0,.int .i64 0,.int .i64 0,.int .i64 0,.bool false,.slice none 0 0,.slice none 0 0,.bool false,.int .i64 0,.bool false,.slice none 0 0] : Array Value).all (·.oneCell') = true := by simp [Value.oneCell']) | (refine wpList_store_mid rfl 52 _ _ rfl w3.heap.size 0 #[.int .i64 23,.int .i64 mx,.int .i64 0,.int .u16 0,.int .u16 0,.int .u16 0,.slice none 0 0,.int .i64 0,.slice none 0 0,.bool false,.int .i64 0,.int .i64 0,.int .u16 0,.int .u16 0,.int .u64 0,.int .u64 0,.int .i64 0,.int .i64 0,.int .i64 0,.bool false,.slice none 0 0,.slice none 0 0,.bool false,.int .i64 0,.bool false,.slice none 0 0] rfl rfl hth (by kernel_rfl) one ?_; simp only [Act.put]; generalize hW : World.setCells _ w3.heap.size 0 _ = w7; have HW := Lib.hid hW; clear hW))
       obtain ⟨hg7,bC⟩ := put_namedB bX HW.out rfl
       have hA7 : Below w3.heap.size w3 w7 := ((Below.refl w3.heap.size w3).alloc (Nat.le_refl _) _).grown hg7 (by simp) (fun k hk => by cases hk; exact Nat.le_refl _)
       have bS := bS.below hA7
       have hdq := hdq.below hA7
       have hB := hB.trans (hA7.mono hB.size)
       obtain ⟨C9,hC9⟩ : ∃ x,w3.heap.size = x := ⟨_,rfl⟩
       rw [hC9] at bC ⊢
       clear hC9 HW hg7 hA7 bX hth one HNC hC3
       have rgC := bC.range 0 [.int .i64 23,.int .i64 mx,.int .i64 0,.int .u16 0,.int .u16 0,.int .u16 0,.slice none 0 0,.int .i64 0,.slice none 0 0,.bool false,.int .i64 0,.int .i64 0,.int .u16 0,.int .u16 0,.int .u64 0,.int .u64 0,.int .i64 0,.int .i64 0,.int .i64 0,.bool false,.slice none 0 0,.slice none 0 0,.bool false,.int .i64 0,.bool false,.slice none 0 0] (fun j v hv => by rw [Nat.zero_add]; exact hv)
       have rgS := bS.range 0 [.slice da2 dn2 dc2,.int .i64 23,.int .i64 mx,.int .i64 2,.slice qa qn qc,.int .i64 2,.bool false,.slice ua un uc,.slice oa on oc,.bool false,.int .i64 0] (fun j v hv => by rw [Nat.zero_add]; exact hv)
       go_upto_region 11 with (first | (refine wpList_load_mid rfl 52 _ rfl C9 0 rfl [.int .i64 23,.int .i64 mx,.int .i64 0,.int .u16 0,.int .u16 0,.int .u16 0,.slice none 0 0,.int .i64 0,.slice none 0 0,.bool false,.int .i64 0,.int .i64 0,.int .u16 0,.int .u16 0,.int .u64 0,.int .u64 0,.int .i64 0,.int .i64 0,.int .i64 0,.bool false,.slice none 0 0,.slice none 0 0,.bool false,.int .i64 0,.bool false,.slice none 0 0] _ rgC Tryz.underlying52 rfl (by kernel_rfl) ?_) | (refine wpList_load_mid rfl 57 _ rfl S9 0 rfl [.slice da2 dn2 dc2,.int .i64 23,.int .i64 mx,.int .i64 2,.slice qa qn qc,.int .i64 2,.bool false,.slice ua un uc,.slice oa on oc,.bool false,.int .i64 0] _ rgS Tryz.underlying57 rfl (by kernel_rfl) ?_))
       generalize hX : World.alloc w7 _ = w5
       obtain ⟨hnb,hB5,-⟩ := alloc_named hX
       obtain ⟨X,hXn⟩ : ∃ X,w7.heap.size = X := ⟨_,rfl⟩
       rw [hXn] at hnb ⊢
       have hXge : w.heap.size ≤ X := by rw [← hXn]; exact hB.size
       have hdq := hdq.below hB5
       have hB := hB.trans (hB5.mono hB.size)
       have hP : PR w5 X [.int .i64 23,.int .i64 mx,.int .i64 0,.int .u16 0,.int .u16 0,.int .u16 0,.slice none 0 0,.int .i64 0,.slice none 0 0,.bool false,.int .i64 0,.int .i64 0,.int .u16 0,.int .u16 0,.int .u64 0,.int .u64 0,.int .i64 0,.int .i64 0,.int .i64 0,.bool false,.slice none 0 0,.slice none 0 0,.bool false,.int .i64 0,.bool false,.slice none 0 0] [.slice da2 dn2 dc2,.int .i64 23,.int .i64 mx,.int .i64 2,.slice qa qn qc,.int .i64 2,.bool false,.slice ua un uc,.slice oa on oc,.bool false,.int .i64 0] (idle 23 mx 0) ⟨db,23,mx,[]⟩ true := ⟨hnb,rfl,rfl,⟨.slice none 0 0,.slice none 0 0,.slice none 0 0,.slice none 0 0,.slice none 0 0,rfl,BV.nil _,FdV.nil _,BV.nil _,SR.nil _ 5,[],rfl,SR.nil _ 8,fun q hq => by cases hq⟩,fun cs e u hu => .inl rfl,DQ.svv (s := ⟨db,23,mx,[]⟩) hdq⟩
       obtain ⟨p1,c1,q,p2,p3,hpl⟩ := play_mtuD HF db mx HGD.out.2.2 HWD.out (by have := HGD.out; omega)
       have hdo := do_any (hok_d hF) X _ _ (idle 23 mx 0) ⟨db,23,mx,[]⟩ { tk0 with kd := 1 } none 0 0 none 0 0 q ⟨1,1,0,[],[],0⟩ c1 (idle mx mx 0) ⟨db,mx,mx,[]⟩ w5 hP (ok_idle 23 mx 0) (BV.nil _) (Nat.zero_le _) (by decide) p1 p2 p3 (hpl.mono (by omega)) rfl rfl
       have HDO : Hid (Calls Tryz.prog 12 #[.pointer (some ⟨X,0,none⟩),.agg #[.int .i64 1,.int .u16 0,.int .u16 0,.int .u16 0,.slice none 0 0,.int .i64 0,.slice none 0 0,.bool false]] w5 fun e w' => ∃ a5 c5 a6 c6 cs2 ss2,e = .returned (.agg #[.int .i64 1,.int .i64 1,.int .u16 0,.slice a5 0 c5,.slice a6 0 c6,.int .i64 0]) ∧ PR w' X cs2 ss2 (idle mx mx 0) ⟨db,mx,mx,[]⟩ true ∧ KX X w5 w') := Lib.hid (hdo.mono (by
        rintro e w' ⟨bv,fv,cs2,ss2,rfl,hbv,hfv,hP,hK⟩
        obtain ⟨a5,c5,rfl⟩ := hbv.form
        obtain ⟨a6,c6,rfl⟩ := hfv.form
        exact ⟨a5,c5,a6,c6,cs2,ss2,rfl,hP,hK⟩))
       have HXG := Lib.hid (And.intro hXge hB)
       clear hX hnb hB5 hXn hXge hdq hB hP p1 p2 p3 hpl rgC rgS bS bC hdo
       go_upto_region 12 with (first | (go_at_call 12; refine HDO.out.mono ?_; rintro e w6 ⟨a5,c5,a6,c6,cs2,ss2,rfl,hP6,hK6⟩; have bX := Blk.new w6 43 [.int .i64 0,.int .i64 0,.int .u16 0,.slice none 0 0,.slice none 0 0,.int .i64 0]; have hth := bX.there 0 6 (by simp); have one : (#[.int .i64 1,.int .i64 1,.int .u16 0,.slice a5 0 c5,.slice a6 0 c6,.int .i64 0] : Array Value).all (·.oneCell') = true := by simp [Value.oneCell']) | (refine wpList_store_mid rfl 43 _ _ rfl w6.heap.size 0 #[.int .i64 1,.int .i64 1,.int .u16 0,.slice a5 0 c5,.slice a6 0 c6,.int .i64 0] rfl rfl hth (by kernel_rfl) one ?_; simp only [Act.put]; generalize hW : World.setCells _ w6.heap.size 0 _ = w8; have HW := Lib.hid hW; clear hW))
       obtain ⟨hg8,bR⟩ := put_namedB bX HW.out rfl
       have hA8 : Below w6.heap.size w6 w8 := ((Below.refl w6.heap.size w6).alloc (Nat.le_refl _) _).grown hg8 (by simp) (fun k hk => by cases hk; exact Nat.le_refl _)
       have hP := hP6.below hA8
       have hX6 := hP6.blk.lt
       obtain ⟨R9,hR9⟩ : ∃ x,w6.heap.size = x := ⟨_,rfl⟩
       rw [hR9] at bR hX6 ⊢
       have hB := HXG.out.2.trans (hK6.lo.mono HXG.out.1)
       have hB := hB.trans (hA8.mono hB.size)
       obtain ⟨b1,n1,d1,b2,n2,d2,b3,n3,d3,b4,n4,d4,b5,n5,d5,ecs⟩ := clv_cells hP.cv
       have mX := hP.cell
       have zX := hP.blk.frozen 37
       have m0 : w8.cell? ⟨X,0,none⟩ = some (.int .i64 mx) := hP.cell_c (by rw [ecs]; rfl)
       have r0 := bR.cell (j := 0) (v := .int .i64 1) rfl
       clear hR9 HW hg8 hA8 bX hth one hP6 hK6 ecs HDO
       go_upto_region 13 with fail
       have hg9 := set1 w8 ⟨X,37,none⟩ (.bool true)
       have hP9 := hP.set_ok true
       have hB9 := hB.grown hg9 hB.size (fun k hk => by cases hk; exact HXG.out.1)
       go_wp2
       exact bodyPost_ret (v := .tuple #[.pointer (some ⟨X,0,none⟩),.bool true]) (by simp [results,Tryz.results8,go_sem] <;> rfl) rfl ⟨_,.inr ⟨rfl,⟨X,rfl,HXG.out.1,h60.out,HGD.out.1,HGD.out.2.1,HGD.out.2.2,_,_,hP9⟩,hB9⟩⟩
/-- a task that is started by a client that waits for nothing -/
theorem start_own (mx : Int) (t : Tk) (p : Pd) (hk : 1 ≤ t.kd ∧ t.kd ≤ 9) (hc : chkP t = 0) (hf2 : firstP (idle mx mx 0) (ownP t) = some p) :
 (startP (idle mx mx 0) t 0).2 = 0 ∧ (startP (idle mx mx 0) t 0).1.c = act mx mx 0 (ownP t) p ∧ (startP (idle mx mx 0) t 0).1.ps = [p] := by
 unfold startP
 rw [if_neg (by simp [idle]),if_neg (fun h => h hk),if_neg (fun h => h hc),if_pos (by simp [idle])]
 unfold Sp.begin
 simp only [hf2]
 refine ⟨?_,?_,?_⟩ <;> first | trivial | rfl
end Go.Proofs.YtldcihjddebciaaGreat
