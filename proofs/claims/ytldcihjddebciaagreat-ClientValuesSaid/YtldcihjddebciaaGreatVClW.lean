/- client: answered. -/
import Derived.Test.YtldcihjddebciaaGreatVClV
set_option linter.unusedSimpArgs false
set_option linter.unusedVariables false
set_option maxRecDepth 100000
set_option maxHeartbeats 20000000
namespace Go.Proofs.YtldcihjddebciaaGreat
open Go.RowKit
def Sp.answered (x : Sp) (p : Pd) (l : List Im) : Sp :=
 if p.kd = 3 then ({ x with c := { x.c with mt := min p.mt x.c.mx } } : Sp).endd ⟨1,0,0,[],[],0⟩
 else if p.kd = 17 then x.services l
 else if p.kd = 9 then (if x.c.tk.kd = 9 then x.hash l else x.elements charF l)
 else if p.kd = 5 then x.elements (fun i => some (descF i)) l
 else if p.kd = 11 ∨ p.kd = 13 then x.read p.vs
 else if p.kd = 23 then x.prepared p
 else if p.kd = 25 then (if x.c.tk.bad then x.close else x.endd ⟨4,0,0,[],[],0⟩)
 else if p.kd = 19 then x.endd ⟨4,0,0,[],[],0⟩
 else x
theorem answered_any (p : Pd) (bv iv : Value) (qs : List (Im × Value)) (O : Nat) (w : World) (B X : Nat) (s : Sv) (h : Sq w B X s) (hw : ∀ t ∈ s.c.wt,TkOk t) (hps : s.ps.length ≤ 1000) (hus : s.us.length ≤ 1000) (hb : BV w bv p.vs) (hI : ItB w B iv qs) (hbs : p.vs.length ≤ 1000000) (hvs : s.c.tk.vs.length ≤ 1000000) (had : s.c.ad.vs.length ≤ 1000000) (hfo : s.c.tk.fo.length + qs.length ≤ 100000) (hO : s.c.tk.of = (O : Int)) (hOm : O ≤ 1000000)
 (hAL : (p.kd = 5 ∨ (p.kd = 9 ∧ ¬ s.c.tk.kd = 9)) → s.c.ad.la = s.c.tk.la) (hTL : s.c.tk.la < 65536) :
 Calls Tryz.prog 37 #[.pointer (some ⟨X,0,none⟩),.agg #[.int .i64 p.kd,.int .i64 p.ask,.int .u16 p.ha,.int .u16 p.la,.int .u64 p.hi,.int .u64 p.lo,.int .i64 p.of,.int .i64 p.mt,.int .i64 p.co,.bool p.cm,bv,iv]] w fun e w' => e = .returned (.tuple #[]) ∧ ∃ s',Sq w' B X s' ∧ s'.sp = s.sp.answered p (qs.map (·.1)) ∧ Below B w w' := by
 have hBw := Nat.le_trans h.own (Nat.le_of_lt h.blk.lt)
 obtain ⟨a,c,rfl⟩ := hb.form
 obtain ⟨K,hK⟩ : ∃ L,p.vs.length = L := ⟨_,rfl⟩
 obtain ⟨ia,ic,rfl⟩ := hI.sr.form
 obtain ⟨N,hN⟩ : ∃ L,qs.length = L := ⟨_,rfl⟩
 rw [hK] at hb hbs ⊢
 rw [hN] at hI ⊢
 have HK := Lib.hid hK
 clear hK hN
 have bP0 := Blk.new w 49 [.int .i64 p.kd,.int .i64 p.ask,.int .u16 p.ha,.int .u16 p.la,.int .u64 p.hi,.int .u64 p.lo,.int .i64 p.of,.int .i64 p.mt,.int .i64 p.co,.bool p.cm,.slice a K c,.slice ia N ic]
 have hB0 : Below w.heap.size w (w.alloc (.cells #[.int .i64 p.kd,.int .i64 p.ask,.int .u16 p.ha,.int .u16 p.la,.int .u64 p.hi,.int .u64 p.lo,.int .i64 p.of,.int .i64 p.mt,.int .i64 p.co,.bool p.cm,.slice a K c,.slice ia N ic] 49)) := (Below.refl _ _).alloc (Nat.le_refl _) _
 go_enter Tryz.func37,Tryz.ntmps37
 go_upto_region 1 with fail
 generalize hV : World.alloc w _ = V at bP0 hB0 ⊢
 clear hV
 have H0 := h.below hB0
 have hb0 := hb.below hB0
 have hI0 := hI.below (hB0.mono hBw)
 have q0 := bP0.cell (j := 0) (v := .int .i64 p.kd) rfl
 have q10 := bP0.cell (j := 10) (v := .slice a K c) rfl
 have q11 := bP0.cell (j := 11) (v := .slice ia N ic) rfl
 clear h hb hI
 by_cases e : p.kd = 3
 ·have E := Lib.hid e
  have t3 : (p.kd == 3) = true := by simp [e]
  have t17 : (p.kd == 17) = false := by simp [e]
  have t9 : (p.kd == 9) = false := by simp [e]
  have t5 : (p.kd == 5) = false := by simp [e]
  have t11 : (p.kd == 11) = false := by simp [e]
  have t13 : (p.kd == 13) = false := by simp [e]
  have t23 : (p.kd == 23) = false := by simp [e]
  have t25 : (p.kd == 25) = false := by simp [e]
  have t19 : (p.kd == 19) = false := by simp [e]
  clear e
  have x1 := H0.blk.cell (j := 1) (v := .int .i64 s.c.mx) rfl
  have x0 := H0.blk.cell (j := 0) (v := .int .i64 s.c.mt) rfl
  have z0 := H0.blk.frozen 0
  have q7 := bP0.cell (j := 7) (v := .int .i64 p.mt) rfl
  have m1 : (if s.c.mx < p.mt then s.c.mx else p.mt) = min p.mt s.c.mx := by rw [Int.min_def]; split <;> split <;> omega
  have m2 : (if p.mt ≤ s.c.mx then p.mt else s.c.mx) = min p.mt s.c.mx := by rw [Int.min_def]
  obtain ⟨Z,hZ⟩ : ∃ z,min p.mt s.c.mx = z := ⟨_,rfl⟩
  rw [hZ] at m1 m2
  have HZ := Lib.hid hZ
  clear hZ
  go_upto_region 3 with fail
  go_still_tail 12,(by kernel_rfl)
  change wpList _ _ _ _ _ V.drew
  have H1 := H0.drew
  have hl1 : Below B w V.drew := (hB0.mono hBw).drew
  have x0' : V.drew.cell? ⟨X,0,none⟩ = some (.int .i64 s.c.mt) := x0
  have z0' : V.drew.frozen? ⟨X,0,none⟩ = false := z0
  generalize V.drew = V1 at H1 hl1 x0' z0' ⊢
  clear x0 z0 x1 q7 q0 q10 q11 m1 m2
  go_upto_region 4 with fail
  have H2 := H1.put_mt Z
  generalize hW : World.setCell V1 _ _ = V2 at H2 ⊢
  clear hW x0' z0'
  obtain ⟨H2,hl2⟩ := H2
  go_wp2_with fail
  refine (end_any ⟨1,0,0,[],[],0⟩ (.slice none 0 0) (.slice none 0 0) V2 B X _ H2 hw hps hus (BD.nil _ _) (FD.nil _ _)).mono ?_
  rintro e w3 ⟨rfl,s3,H3,hs3,hl3⟩
  go_wp2_with fail
  refine bodyPost_end (results_none rfl _ _ _) rfl ⟨rfl,s3,H3,hs3.trans (Eq.symm ?_),(hl1.trans hl2).trans hl3⟩
  unfold Sp.answered
  rw [if_pos E.out,← HZ.out]
  rfl
 ·have n3 := Lib.hid e
  clear e
  by_cases e : p.kd = 17
  ·have E := Lib.hid e
   have t3 : (p.kd == 3) = false := by simp [e]
   have t17 : (p.kd == 17) = true := by simp [e]
   have t9 : (p.kd == 9) = false := by simp [e]
   have t5 : (p.kd == 5) = false := by simp [e]
   have t11 : (p.kd == 11) = false := by simp [e]
   have t13 : (p.kd == 13) = false := by simp [e]
   have t23 : (p.kd == 23) = false := by simp [e]
   have t25 : (p.kd == 25) = false := by simp [e]
   have t19 : (p.kd == 19) = false := by simp [e]
   clear e
   go_wp2_with fail
   clear q0 q10 q11
   refine (services_any qs (.slice ia N ic) V B X s H0 hw hps hus hI0 hfo had).mono ?_
   rintro e w2 ⟨rfl,s2,H2,hs2,hl2⟩
   go_wp2_with fail
   refine bodyPost_end (results_none rfl _ _ _) rfl ⟨rfl,s2,H2,hs2.trans (Eq.symm ?_),(hB0.mono hBw).trans hl2⟩
   simp [Sp.answered,E.out]
  ·have n17 := Lib.hid e
   clear e
   by_cases e : p.kd = 9
   ·have E := Lib.hid e
    have t3 : (p.kd == 3) = false := by simp [e]
    have t17 : (p.kd == 17) = false := by simp [e]
    have t9 : (p.kd == 9) = true := by simp [e]
    have t5 : (p.kd == 5) = false := by simp [e]
    have t11 : (p.kd == 11) = false := by simp [e]
    have t13 : (p.kd == 13) = false := by simp [e]
    have t23 : (p.kd == 23) = false := by simp [e]
    have t25 : (p.kd == 25) = false := by simp [e]
    have t19 : (p.kd == 19) = false := by simp [e]
    clear e
    have x2 := H0.blk.cell (j := 2) (v := .int .i64 s.c.tk.kd) rfl
    by_cases e9 : s.c.tk.kd = 9
    ·have t99 : (s.c.tk.kd == 9) = true := by simp [e9]
     have E9 := Lib.hid (show s.sp.c.tk.kd = 9 from e9)
     clear e9
     go_wp2_with fail
     clear q0 q10 q11
     refine (hash_any qs (.slice ia N ic) V B X s H0 hw hps hus hI0).mono ?_
     rintro e w2 ⟨rfl,s2,H2,hs2,hl2⟩
     go_wp2_with fail
     refine bodyPost_end (results_none rfl _ _ _) rfl ⟨rfl,s2,H2,hs2.trans (Eq.symm ?_),(hB0.mono hBw).trans hl2⟩
     simp [Sp.answered,E.out,E9.out]
    ·have t99 : (s.c.tk.kd == 9) = false := by simp [e9]
     have E9 := Lib.hid (show ¬ s.sp.c.tk.kd = 9 from e9)
     clear e9
     go_wp2_with fail
     clear q0 q10 q11
     refine (elements_char_any qs (.slice ia N ic) V B X s H0 hw hps hus hI0 hfo had (hAL (.inr ⟨E.out,E9.out⟩)) hTL).mono ?_
     rintro e w2 ⟨rfl,s2,H2,hs2,hl2⟩
     go_wp2_with fail
     refine bodyPost_end (results_none rfl _ _ _) rfl ⟨rfl,s2,H2,hs2.trans (Eq.symm ?_),(hB0.mono hBw).trans hl2⟩
     simp [Sp.answered,E.out,E9.out]
   ·have n9 := Lib.hid e
    clear e
    by_cases e : p.kd = 5
    ·have E := Lib.hid e
     have t3 : (p.kd == 3) = false := by simp [e]
     have t17 : (p.kd == 17) = false := by simp [e]
     have t9 : (p.kd == 9) = false := by simp [e]
     have t5 : (p.kd == 5) = true := by simp [e]
     have t11 : (p.kd == 11) = false := by simp [e]
     have t13 : (p.kd == 13) = false := by simp [e]
     have t23 : (p.kd == 23) = false := by simp [e]
     have t25 : (p.kd == 25) = false := by simp [e]
     have t19 : (p.kd == 19) = false := by simp [e]
     clear e
     go_wp2_with fail
     clear q0 q10 q11
     refine (elements_desc_any qs (.slice ia N ic) V B X s H0 hw hps hus hI0 hfo had (hAL (.inl E.out)) hTL).mono ?_
     rintro e w2 ⟨rfl,s2,H2,hs2,hl2⟩
     go_wp2_with fail
     refine bodyPost_end (results_none rfl _ _ _) rfl ⟨rfl,s2,H2,hs2.trans (Eq.symm ?_),(hB0.mono hBw).trans hl2⟩
     simp [Sp.answered,E.out]
    ·have n5 := Lib.hid e
     clear e
     by_cases e : p.kd = 11
     ·have E := Lib.hid e
      have t3 : (p.kd == 3) = false := by simp [e]
      have t17 : (p.kd == 17) = false := by simp [e]
      have t9 : (p.kd == 9) = false := by simp [e]
      have t5 : (p.kd == 5) = false := by simp [e]
      have t11 : (p.kd == 11) = true := by simp [e]
      have t13 : (p.kd == 13) = false := by simp [e]
      have t23 : (p.kd == 23) = false := by simp [e]
      have t25 : (p.kd == 25) = false := by simp [e]
      have t19 : (p.kd == 19) = false := by simp [e]
      clear e
      go_wp2_with fail
      clear q0 q10 q11
      refine (read_any p.vs (.slice a K c) V B X s H0 hw hps hus hb0 (by rw [HK.out]; exact hbs) hvs).mono ?_
      rintro e w2 ⟨rfl,s2,H2,hs2,hl2⟩
      go_wp2_with fail
      refine bodyPost_end (results_none rfl _ _ _) rfl ⟨rfl,s2,H2,hs2.trans (Eq.symm ?_),(hB0.mono hBw).trans hl2⟩
      simp [Sp.answered,E.out]
     ·have n11 := Lib.hid e
      clear e
      by_cases e : p.kd = 13
      ·have E := Lib.hid e
       have t3 : (p.kd == 3) = false := by simp [e]
       have t17 : (p.kd == 17) = false := by simp [e]
       have t9 : (p.kd == 9) = false := by simp [e]
       have t5 : (p.kd == 5) = false := by simp [e]
       have t11 : (p.kd == 11) = false := by simp [e]
       have t13 : (p.kd == 13) = true := by simp [e]
       have t23 : (p.kd == 23) = false := by simp [e]
       have t25 : (p.kd == 25) = false := by simp [e]
       have t19 : (p.kd == 19) = false := by simp [e]
       clear e
       go_wp2_with fail
       clear q0 q10 q11
       refine (read_any p.vs (.slice a K c) V B X s H0 hw hps hus hb0 (by rw [HK.out]; exact hbs) hvs).mono ?_
       rintro e w2 ⟨rfl,s2,H2,hs2,hl2⟩
       go_wp2_with fail
       refine bodyPost_end (results_none rfl _ _ _) rfl ⟨rfl,s2,H2,hs2.trans (Eq.symm ?_),(hB0.mono hBw).trans hl2⟩
       simp [Sp.answered,E.out]
      ·have n13 := Lib.hid e
       clear e
       by_cases e : p.kd = 23
       ·have E := Lib.hid e
        have t3 : (p.kd == 3) = false := by simp [e]
        have t17 : (p.kd == 17) = false := by simp [e]
        have t9 : (p.kd == 9) = false := by simp [e]
        have t5 : (p.kd == 5) = false := by simp [e]
        have t11 : (p.kd == 11) = false := by simp [e]
        have t13 : (p.kd == 13) = false := by simp [e]
        have t23 : (p.kd == 23) = true := by simp [e]
        have t25 : (p.kd == 25) = false := by simp [e]
        have t19 : (p.kd == 19) = false := by simp [e]
        clear e
        have q1 := bP0.cell (j := 1) (v := .int .i64 p.ask) rfl
        have q2 := bP0.cell (j := 2) (v := .int .u16 p.ha) rfl
        have q3 := bP0.cell (j := 3) (v := .int .u16 p.la) rfl
        have q4 := bP0.cell (j := 4) (v := .int .u64 p.hi) rfl
        have q5 := bP0.cell (j := 5) (v := .int .u64 p.lo) rfl
        have q6 := bP0.cell (j := 6) (v := .int .i64 p.of) rfl
        have q7 := bP0.cell (j := 7) (v := .int .i64 p.mt) rfl
        have q8 := bP0.cell (j := 8) (v := .int .i64 p.co) rfl
        have q9 := bP0.cell (j := 9) (v := .bool p.cm) rfl
        go_wp2_with fail
        clear q0 q1 q2 q3 q4 q5 q6 q7 q8 q9 q10 q11
        refine (prepared_any p (.slice a K c) (.slice ia N ic) N O V B X s H0 hw hps hus hb0 ⟨ia,ic,rfl⟩ (by rw [HK.out]; exact hbs) hvs hO hOm).mono ?_
        rintro e w2 ⟨rfl,s2,H2,hs2,hl2⟩
        go_wp2_with fail
        refine bodyPost_end (results_none rfl _ _ _) rfl ⟨rfl,s2,H2,hs2.trans (Eq.symm ?_),(hB0.mono hBw).trans hl2⟩
        simp [Sp.answered,E.out]
       ·have n23 := Lib.hid e
        clear e
        by_cases e : p.kd = 25
        ·have E := Lib.hid e
         have t3 : (p.kd == 3) = false := by simp [e]
         have t17 : (p.kd == 17) = false := by simp [e]
         have t9 : (p.kd == 9) = false := by simp [e]
         have t5 : (p.kd == 5) = false := by simp [e]
         have t11 : (p.kd == 11) = false := by simp [e]
         have t13 : (p.kd == 13) = false := by simp [e]
         have t23 : (p.kd == 23) = false := by simp [e]
         have t25 : (p.kd == 25) = true := by simp [e]
         have t19 : (p.kd == 19) = false := by simp [e]
         clear e
         have x9 := H0.blk.cell (j := 9) (v := .bool s.c.tk.bad) rfl
         cases hb9 : s.c.tk.bad with
         |true =>
          rw [hb9] at x9
          have E9 := Lib.hid (show s.sp.c.tk.bad = true from hb9)
          clear hb9
          go_wp2_with fail
          clear q0 q10 q11
          refine (close_any V B X s H0 hw hps).mono ?_
          rintro e w2 ⟨rfl,s2,H2,hs2,hl2⟩
          go_wp2_with fail
          refine bodyPost_end (results_none rfl _ _ _) rfl ⟨rfl,s2,H2,hs2.trans (Eq.symm ?_),(hB0.mono hBw).trans hl2⟩
          simp [Sp.answered,E.out,E9.out]
         |false =>
          rw [hb9] at x9
          have E9 := Lib.hid (show s.sp.c.tk.bad = false from hb9)
          clear hb9
          go_wp2_with fail
          clear q0 q10 q11
          refine (end_any ⟨4,0,0,[],[],0⟩ (.slice none 0 0) (.slice none 0 0) V B X s H0 hw hps hus (BD.nil _ _) (FD.nil _ _)).mono ?_
          rintro e w2 ⟨rfl,s2,H2,hs2,hl2⟩
          go_wp2_with fail
          refine bodyPost_end (results_none rfl _ _ _) rfl ⟨rfl,s2,H2,hs2.trans (Eq.symm ?_),(hB0.mono hBw).trans hl2⟩
          simp [Sp.answered,E.out,E9.out]
        ·have n25 := Lib.hid e
         clear e
         by_cases e : p.kd = 19
         ·have E := Lib.hid e
          have t3 : (p.kd == 3) = false := by simp [e]
          have t17 : (p.kd == 17) = false := by simp [e]
          have t9 : (p.kd == 9) = false := by simp [e]
          have t5 : (p.kd == 5) = false := by simp [e]
          have t11 : (p.kd == 11) = false := by simp [e]
          have t13 : (p.kd == 13) = false := by simp [e]
          have t23 : (p.kd == 23) = false := by simp [e]
          have t25 : (p.kd == 25) = false := by simp [e]
          have t19 : (p.kd == 19) = true := by simp [e]
          clear e
          go_wp2_with fail
          clear q0 q10 q11
          refine (end_any ⟨4,0,0,[],[],0⟩ (.slice none 0 0) (.slice none 0 0) V B X s H0 hw hps hus (BD.nil _ _) (FD.nil _ _)).mono ?_
          rintro e w2 ⟨rfl,s2,H2,hs2,hl2⟩
          go_wp2_with fail
          refine bodyPost_end (results_none rfl _ _ _) rfl ⟨rfl,s2,H2,hs2.trans (Eq.symm ?_),(hB0.mono hBw).trans hl2⟩
          simp [Sp.answered,E.out]
         ·have n19 := Lib.hid e
          clear e
          have t3 : (p.kd == 3) = false := by have h := n3.out; simp [h]
          have t17 : (p.kd == 17) = false := by have h := n17.out; simp [h]
          have t9 : (p.kd == 9) = false := by have h := n9.out; simp [h]
          have t5 : (p.kd == 5) = false := by have h := n5.out; simp [h]
          have t11 : (p.kd == 11) = false := by have h := n11.out; simp [h]
          have t13 : (p.kd == 13) = false := by have h := n13.out; simp [h]
          have t23 : (p.kd == 23) = false := by have h := n23.out; simp [h]
          have t25 : (p.kd == 25) = false := by have h := n25.out; simp [h]
          have t19 : (p.kd == 19) = false := by have h := n19.out; simp [h]
          go_wp2_with fail
          refine bodyPost_end (results_none rfl _ _ _) rfl ⟨rfl,s,H0,?_,hB0.mono hBw⟩
          simp [Sp.answered,n3.out,n17.out,n9.out,n5.out,n11.out,n13.out,n23.out,n25.out,n19.out]
end Go.Proofs.YtldcihjddebciaaGreat
