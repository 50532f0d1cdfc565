/- client: refused. -/
import Derived.Test.YtldcihjddebciaaGreatVClQ
set_option linter.unusedSimpArgs false
set_option linter.unusedVariables false
set_option maxRecDepth 100000
set_option maxHeartbeats 4000000
namespace Go.Proofs.YtldcihjddebciaaGreat
open Go.RowKit
def Sp.refused (x : Sp) (code : Int) : Sp :=
 if (x.c.tk.kd = 2 ∨ x.c.tk.kd = 3 ∨ x.c.tk.kd = 4) ∧ code = 10 then x.found
 else if x.c.tk.kd = 6 ∧ code = 7 ∧ x.c.ad.kd = 12 then x.value
 else if x.c.ad.kd = 22 ∧ ¬ x.c.tk.of = 0 then x.cancel code
 else if x.c.ad.kd = 24 ∧ x.c.tk.bad = true ∧ ¬ code = 18 then x.close
 else x.fail code
theorem Sp.refused_0 (x : Sp) (code : Int) (h0 : true = (decide (x.c.tk.kd = 2 ∨ x.c.tk.kd = 3 ∨ x.c.tk.kd = 4) && decide (code = 10))) : x.refused code = x.found := by
 unfold Sp.refused
 rw [if_pos (by simpa using h0.symm)]
theorem Sp.refused_1 (x : Sp) (code : Int) (h0 : false = (decide (x.c.tk.kd = 2 ∨ x.c.tk.kd = 3 ∨ x.c.tk.kd = 4) && decide (code = 10))) (h1 : true = (decide (x.c.tk.kd = 6) && (decide (code = 7) && decide (x.c.ad.kd = 12)))) : x.refused code = x.value := by
 unfold Sp.refused
 rw [if_neg (by have q := h0.symm; simp at q ⊢; exact q)]
 rw [if_pos (by simpa using h1.symm)]
theorem Sp.refused_2 (x : Sp) (code : Int) (h0 : false = (decide (x.c.tk.kd = 2 ∨ x.c.tk.kd = 3 ∨ x.c.tk.kd = 4) && decide (code = 10))) (h1 : false = (decide (x.c.tk.kd = 6) && (decide (code = 7) && decide (x.c.ad.kd = 12)))) (h2 : true = (decide (x.c.ad.kd = 22) && !decide (x.c.tk.of = 0))) : x.refused code = x.cancel code := by
 unfold Sp.refused
 rw [if_neg (by have q := h0.symm; simp at q ⊢; exact q)]
 rw [if_neg (by have q := h1.symm; simp at q ⊢; exact q)]
 rw [if_pos (by simpa using h2.symm)]
theorem Sp.refused_3 (x : Sp) (code : Int) (h0 : false = (decide (x.c.tk.kd = 2 ∨ x.c.tk.kd = 3 ∨ x.c.tk.kd = 4) && decide (code = 10))) (h1 : false = (decide (x.c.tk.kd = 6) && (decide (code = 7) && decide (x.c.ad.kd = 12)))) (h2 : false = (decide (x.c.ad.kd = 22) && !decide (x.c.tk.of = 0))) (h3 : true = (decide (x.c.ad.kd = 24) && (x.c.tk.bad && !decide (code = 18)))) : x.refused code = x.close := by
 unfold Sp.refused
 rw [if_neg (by have q := h0.symm; simp at q ⊢; exact q)]
 rw [if_neg (by have q := h1.symm; simp at q ⊢; exact q)]
 rw [if_neg (by have q := h2.symm; simp at q ⊢; exact q)]
 rw [if_pos (by simpa using h3.symm)]
theorem Sp.refused_4 (x : Sp) (code : Int) (h0 : false = (decide (x.c.tk.kd = 2 ∨ x.c.tk.kd = 3 ∨ x.c.tk.kd = 4) && decide (code = 10))) (h1 : false = (decide (x.c.tk.kd = 6) && (decide (code = 7) && decide (x.c.ad.kd = 12)))) (h2 : false = (decide (x.c.ad.kd = 22) && !decide (x.c.tk.of = 0))) (h3 : false = (decide (x.c.ad.kd = 24) && (x.c.tk.bad && !decide (code = 18)))) : x.refused code = x.fail code := by
 unfold Sp.refused
 rw [if_neg (by have q := h0.symm; simp at q ⊢; exact q)]
 rw [if_neg (by have q := h1.symm; simp at q ⊢; exact q)]
 rw [if_neg (by have q := h2.symm; simp at q ⊢; exact q)]
 rw [if_neg (by have q := h3.symm; simp at q ⊢; exact q)]
theorem refused_any (code : Int) (w : World) (B X : Nat) (s : Sv) (h : Sq w B X s) (hw : ∀ t ∈ s.c.wt,TkOk t) (hps : s.ps.length ≤ 1000) (hus : s.us.length ≤ 1000) (hfo : s.c.tk.fo.length ≤ 1000000) (hvs : s.c.tk.vs.length ≤ 1000000) :
 Calls Tryz.prog 35 #[.pointer (some ⟨X,0,none⟩),.int .i64 code] w fun e w' => e = .returned (.tuple #[]) ∧ ∃ s',Sq w' B X s' ∧ s'.sp = s.sp.refused code ∧ Below B w w' := by
 have m2 := h.blk.cell (j := 2) (v := .int .i64 s.c.tk.kd) rfl
 have m10 := h.blk.cell (j := 10) (v := .int .i64 s.c.ad.kd) rfl
 have m7 := h.blk.cell (j := 7) (v := .int .i64 s.c.tk.of) rfl
 have m9 := h.blk.cell (j := 9) (v := .bool s.c.tk.bad) rfl
 go_enter Tryz.func35,Tryz.ntmps35
 go_upto_region 0 with fail
 go_cut [4] (fun v wx => ∃ d : Bool,v = .bool d ∧ d = decide (s.c.tk.kd = 2 ∨ s.c.tk.kd = 3 ∨ s.c.tk.kd = 4) ∧ w = wx)
 case first =>
  by_cases e1 : s.c.tk.kd = 2
  ·have t1 : (s.c.tk.kd == 2) = true := by simp [e1]
   have E1 := Lib.hid e1
   clear e1
   go_wp2_with fail
   go_meet
   have e1 := E1.out
   exact ⟨_,rfl,by simp [e1],rfl⟩
  ·have t1 : (s.c.tk.kd == 2) = false := by simp [e1]
   have E1 := Lib.hid e1
   clear e1
   by_cases e2 : s.c.tk.kd = 3
   ·have t2 : (s.c.tk.kd == 3) = true := by simp [e2]
    have E2 := Lib.hid e2
    clear e2
    go_wp2_with fail
    go_meet
    have e1 := E1.out
    have e2 := E2.out
    exact ⟨_,rfl,by simp [e1,e2],rfl⟩
   ·have t2 : (s.c.tk.kd == 3) = false := by simp [e2]
    have E2 := Lib.hid e2
    clear e2
    by_cases e3 : s.c.tk.kd = 4
    ·have t3 : (s.c.tk.kd == 4) = true := by simp [e3]
     have E3 := Lib.hid e3
     clear e3
     go_wp2_with fail
     go_meet
     have e1 := E1.out
     have e2 := E2.out
     have e3 := E3.out
     exact ⟨_,rfl,by simp [e1,e2,e3],rfl⟩
    ·have t3 : (s.c.tk.kd == 4) = false := by simp [e3]
     have E3 := Lib.hid e3
     clear e3
     go_wp2_with fail
     go_meet
     have e1 := E1.out
     have e2 := E2.out
     have e3 := E3.out
     exact ⟨_,rfl,by simp [e1,e2,e3],rfl⟩
 case rest =>
  obtain ⟨d4,rfl,h4,rfl⟩ := hcut
  have H4 := Lib.hid h4
  clear h4
  go_upto_region 2 with fail
  go_cut [33] (fun v wx => ∃ d : Bool,v = .bool d ∧ d = (d4 && decide (code = 10)) ∧ w = wx)
  case first =>
   cases d4 with
   |false =>
    go_wp2_with fail
    go_meet
    exact ⟨_,rfl,by simp,rfl⟩
   |true =>
    by_cases e1 : code = 10
    ·have t1 : (code == 10) = true := by simp [e1]
     have E1 := Lib.hid e1
     clear e1
     go_wp2_with fail
     go_meet
     have e1 := E1.out
     exact ⟨_,rfl,by simp [e1],rfl⟩
    ·have t1 : (code == 10) = false := by simp [e1]
     have E1 := Lib.hid e1
     clear e1
     go_wp2_with fail
     go_meet
     have e1 := E1.out
     exact ⟨_,rfl,by simp [e1],rfl⟩
  case rest =>
   obtain ⟨d33,rfl,h33,rfl⟩ := hcut
   have H33 := Lib.hid h33
   clear h33
   cases d33 with
   |true =>
    clear m2 m7 m9 m10
    go_wp2_with fail
    refine (found_any w B X s h hw hps hus hfo).mono ?_
    rintro e w2 ⟨rfl,s2,H2,hs2,hl2⟩
    go_wp2_with fail
    refine bodyPost_end (results_none rfl _ _ _) rfl ⟨rfl,s2,H2,?_,hl2⟩
    refine hs2.trans (Eq.symm ?_)
    have h33 := H33.out
    rw [H4.out] at h33
    exact Sp.refused_0 s.sp code h33
   |false =>
    go_upto_region 4 with fail
    go_cut [41] (fun v wx => ∃ d : Bool,v = .bool d ∧ d = (decide (s.c.tk.kd = 6) && (decide (code = 7) && decide (s.c.ad.kd = 12))) ∧ w = wx)
    case first =>
     by_cases e1 : s.c.tk.kd = 6
     ·have t1 : (s.c.tk.kd == 6) = true := by simp [e1]
      have E1 := Lib.hid e1
      clear e1
      by_cases e2 : code = 7
      ·have t2 : (code == 7) = true := by simp [e2]
       have E2 := Lib.hid e2
       clear e2
       by_cases e3 : s.c.ad.kd = 12
       ·have t3 : (s.c.ad.kd == 12) = true := by simp [e3]
        have E3 := Lib.hid e3
        clear e3
        go_wp2_with fail
        go_meet
        have e1 := E1.out
        have e2 := E2.out
        have e3 := E3.out
        exact ⟨_,rfl,by simp [e1,e2,e3],rfl⟩
       ·have t3 : (s.c.ad.kd == 12) = false := by simp [e3]
        have E3 := Lib.hid e3
        clear e3
        go_wp2_with fail
        go_meet
        have e1 := E1.out
        have e2 := E2.out
        have e3 := E3.out
        exact ⟨_,rfl,by simp [e1,e2,e3],rfl⟩
      ·have t2 : (code == 7) = false := by simp [e2]
       have E2 := Lib.hid e2
       clear e2
       go_wp2_with fail
       go_meet
       have e1 := E1.out
       have e2 := E2.out
       exact ⟨_,rfl,by simp [e1,e2],rfl⟩
     ·have t1 : (s.c.tk.kd == 6) = false := by simp [e1]
      have E1 := Lib.hid e1
      clear e1
      go_wp2_with fail
      go_meet
      have e1 := E1.out
      exact ⟨_,rfl,by simp [e1],rfl⟩
    case rest =>
     obtain ⟨d41,rfl,h41,rfl⟩ := hcut
     have H41 := Lib.hid h41
     clear h41
     cases d41 with
     |true =>
      clear m2 m7 m9 m10
      go_wp2_with fail
      refine (value_any w B X s h hw hps hus hvs).mono ?_
      rintro e w2 ⟨rfl,s2,H2,hs2,hl2⟩
      go_wp2_with fail
      refine bodyPost_end (results_none rfl _ _ _) rfl ⟨rfl,s2,H2,?_,hl2⟩
      refine hs2.trans (Eq.symm ?_)
      have h33 := H33.out
      rw [H4.out] at h33
      exact Sp.refused_1 s.sp code h33 H41.out
     |false =>
      go_upto_region 6 with fail
      go_cut [64] (fun v wx => ∃ d : Bool,v = .bool d ∧ d = (decide (s.c.ad.kd = 22) && !decide (s.c.tk.of = 0)) ∧ w = wx)
      case first =>
       by_cases e1 : s.c.ad.kd = 22
       ·have t1 : (s.c.ad.kd == 22) = true := by simp [e1]
        have E1 := Lib.hid e1
        clear e1
        by_cases e2 : s.c.tk.of = 0
        ·have t2 : (s.c.tk.of != 0) = false := by simp [e2]
         have E2 := Lib.hid e2
         clear e2
         go_wp2_with fail
         go_meet
         have e1 := E1.out
         have e2 := E2.out
         exact ⟨_,rfl,by simp [e1,e2],rfl⟩
        ·have t2 : (s.c.tk.of != 0) = true := by simp [e2]
         have E2 := Lib.hid e2
         clear e2
         go_wp2_with fail
         go_meet
         have e1 := E1.out
         have e2 := E2.out
         exact ⟨_,rfl,by simp [e1,e2],rfl⟩
       ·have t1 : (s.c.ad.kd == 22) = false := by simp [e1]
        have E1 := Lib.hid e1
        clear e1
        go_wp2_with fail
        go_meet
        have e1 := E1.out
        exact ⟨_,rfl,by simp [e1],rfl⟩
      case rest =>
       obtain ⟨d64,rfl,h64,rfl⟩ := hcut
       have H64 := Lib.hid h64
       clear h64
       cases d64 with
       |true =>
        clear m2 m7 m9 m10
        go_wp2_with fail
        refine (cancel_any code w B X s h hw hps hus).mono ?_
        rintro e w2 ⟨rfl,s2,H2,hs2,hl2⟩
        go_wp2_with fail
        refine bodyPost_end (results_none rfl _ _ _) rfl ⟨rfl,s2,H2,?_,hl2⟩
        refine hs2.trans (Eq.symm ?_)
        have h33 := H33.out
        rw [H4.out] at h33
        exact Sp.refused_2 s.sp code h33 H41.out H64.out
       |false =>
        go_upto_region 8 with fail
        go_cut [84] (fun v wx => ∃ d : Bool,v = .bool d ∧ d = (decide (s.c.ad.kd = 24) && (s.c.tk.bad && !decide (code = 18))) ∧ w = wx)
        case first =>
         by_cases e1 : s.c.ad.kd = 24
         ·have t1 : (s.c.ad.kd == 24) = true := by simp [e1]
          have E1 := Lib.hid e1
          clear e1
          cases hb : s.c.tk.bad with
          |false =>
           rw [hb] at m9
           have HBB := Lib.hid hb
           clear hb
           go_wp2_with fail
           go_meet
           exact ⟨_,rfl,by simp [HBB.out],rfl⟩
          |true =>
           rw [hb] at m9
           have HBB := Lib.hid hb
           clear hb
           by_cases e2 : code = 18
           ·have t2 : (code != 18) = false := by simp [HBB.out,e2]
            have E2 := Lib.hid e2
            clear e2
            go_wp2_with fail
            go_meet
            have e1 := E1.out
            have e2 := E2.out
            exact ⟨_,rfl,by simp [HBB.out,e1,e2],rfl⟩
           ·have t2 : (code != 18) = true := by simp [HBB.out,e2]
            have E2 := Lib.hid e2
            clear e2
            go_wp2_with fail
            go_meet
            have e1 := E1.out
            have e2 := E2.out
            exact ⟨_,rfl,by simp [HBB.out,e1,e2],rfl⟩
         ·have t1 : (s.c.ad.kd == 24) = false := by simp [e1]
          have E1 := Lib.hid e1
          clear e1
          go_wp2_with fail
          go_meet
          have e1 := E1.out
          exact ⟨_,rfl,by simp [e1],rfl⟩
        case rest =>
         obtain ⟨d84,rfl,h84,rfl⟩ := hcut
         have H84 := Lib.hid h84
         clear h84
         cases d84 with
         |true =>
          clear m2 m7 m9 m10
          go_wp2_with fail
          refine (close_any w B X s h hw hps).mono ?_
          rintro e w2 ⟨rfl,s2,H2,hs2,hl2⟩
          go_wp2_with fail
          refine bodyPost_end (results_none rfl _ _ _) rfl ⟨rfl,s2,H2,?_,hl2⟩
          refine hs2.trans (Eq.symm ?_)
          have h33 := H33.out
          rw [H4.out] at h33
          exact Sp.refused_3 s.sp code h33 H41.out H64.out H84.out
         |false =>
          clear m2 m7 m9 m10
          go_wp2_with fail
          refine (fail_any code w B X s h hw hps hus).mono ?_
          rintro e w2 ⟨rfl,s2,H2,hs2,hl2⟩
          go_wp2_with fail
          refine bodyPost_end (results_none rfl _ _ _) rfl ⟨rfl,s2,H2,?_,hl2⟩
          refine hs2.trans (Eq.symm ?_)
          have h33 := H33.out
          rw [H4.out] at h33
          exact Sp.refused_4 s.sp code h33 H41.out H64.out H84.out
end Go.Proofs.YtldcihjddebciaaGreat
