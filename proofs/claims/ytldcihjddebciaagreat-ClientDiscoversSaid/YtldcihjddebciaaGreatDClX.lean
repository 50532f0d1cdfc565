/- client: answered. And what follows it. -/
import Derived.Test.YtldcihjddebciaaGreatDClV
import Derived.Laws.ResultCell
set_option linter.unusedSimpArgs false
set_option linter.unusedVariables false
set_option maxRecDepth 100000
set_option maxHeartbeats 20000000
namespace Go.Proofs.YtldcihjddebciaaGreat
open Go.RowKit
def Sp.answered (x : Sp) (p : Pd) (l : List Im) : Sp :=
 if p.kd = 3 then ({ x with c := { x.c with mt := min p.mt x.c.mx } } : Sp).endd ⟨1,0,0,[],[],0⟩
 else if p.kd = 17 then x.services l
 else if p.kd = 9 then (if x.c.tk.kd = 9 then x.hash l else x.elements charF l)
 else if p.kd = 5 then x.elements (fun i => some (descF i)) l
 else if p.kd = 11 ∨ p.kd = 13 then x.read p.vs
 else if p.kd = 23 then x.prepared p
 else if p.kd = 25 then (if x.c.tk.bad then x.close else x.endd ⟨4,0,0,[],[],0⟩)
 else if p.kd = 19 then x.endd ⟨4,0,0,[],[],0⟩
 else x
theorem answered_any (p : Pd) (bv iv : Value) (qs : List (Im × Value)) (O : Nat) (w : World) (B X : Nat) (s : Sv) (h : Sq w B X s) (hw : ∀ t ∈ s.c.wt,TkOk t) (hps : s.ps.length ≤ 1000) (hus : s.us.length ≤ 1000) (hb : BV w bv p.vs) (hI : ItB w B iv qs) (hbs : p.vs.length ≤ 1000000) (hvs : s.c.tk.vs.length ≤ 1000000) (had : s.c.ad.vs.length ≤ 1000000) (hfo : s.c.tk.fo.length + qs.length ≤ 100000) (hO : s.c.tk.of = (O : Int)) (hOm : O ≤ 1000000)
 (hAL : (p.kd = 5 ∨ (p.kd = 9 ∧ ¬ s.c.tk.kd = 9)) → s.c.ad.la = s.c.tk.la) (hTL : s.c.tk.la < 65536) :
 Calls Tryz.prog 37 #[.pointer (some ⟨X,0,none⟩),.agg #[.int .i64 p.kd,.int .i64 p.ask,.int .u16 p.ha,.int .u16 p.la,.int .u64 p.hi,.int .u64 p.lo,.int .i64 p.of,.int .i64 p.mt,.int .i64 p.co,.bool p.cm,bv,iv]] w fun e w' => e = .returned (.tuple #[]) ∧ ∃ s',Sq w' B X s' ∧ s'.sp = s.sp.answered p (qs.map (·.1)) ∧ Below B w w' := by
 have hBw := Nat.le_trans h.own (Nat.le_of_lt h.blk.lt)
 obtain ⟨a,c,rfl⟩ := hb.form
 obtain ⟨K,hK⟩ : ∃ L,p.vs.length = L := ⟨_,rfl⟩
 obtain ⟨ia,ic,rfl⟩ := hI.sr.form
 obtain ⟨N,hN⟩ : ∃ L,qs.length = L := ⟨_,rfl⟩
 rw [hK] at hb hbs ⊢
 rw [hN] at hI ⊢
 have HK := Lib.hid hK
 clear hK hN
 have bP0 := Blk.new w 49 [.int .i64 p.kd,.int .i64 p.ask,.int .u16 p.ha,.int .u16 p.la,.int .u64 p.hi,.int .u64 p.lo,.int .i64 p.of,.int .i64 p.mt,.int .i64 p.co,.bool p.cm,.slice a K c,.slice ia N ic]
 have hB0 : Below w.heap.size w (w.alloc (.cells #[.int .i64 p.kd,.int .i64 p.ask,.int .u16 p.ha,.int .u16 p.la,.int .u64 p.hi,.int .u64 p.lo,.int .i64 p.of,.int .i64 p.mt,.int .i64 p.co,.bool p.cm,.slice a K c,.slice ia N ic] 49)) := (Below.refl _ _).alloc (Nat.le_refl _) _
 go_enter Tryz.func37,Tryz.ntmps37
 go_upto_region 1 with fail
 generalize hV : World.alloc w _ = V at bP0 hB0 ⊢
 clear hV
 have H0 := h.below hB0
 have hb0 := hb.below hB0
 have hI0 := hI.below (hB0.mono hBw)
 have q0 := bP0.cell (j := 0) (v := .int .i64 p.kd) rfl
 have q10 := bP0.cell (j := 10) (v := .slice a K c) rfl
 have q11 := bP0.cell (j := 11) (v := .slice ia N ic) rfl
 clear h hb hI
 by_cases e : p.kd = 3
 ·have E := Lib.hid e
  have t3 : (p.kd == 3) = true := by simp [e]
  have t17 : (p.kd == 17) = false := by simp [e]
  have t9 : (p.kd == 9) = false := by simp [e]
  have t5 : (p.kd == 5) = false := by simp [e]
  have t11 : (p.kd == 11) = false := by simp [e]
  have t13 : (p.kd == 13) = false := by simp [e]
  have t23 : (p.kd == 23) = false := by simp [e]
  have t25 : (p.kd == 25) = false := by simp [e]
  have t19 : (p.kd == 19) = false := by simp [e]
  clear e
  have x1 := H0.blk.cell (j := 1) (v := .int .i64 s.c.mx) rfl
  have x0 := H0.blk.cell (j := 0) (v := .int .i64 s.c.mt) rfl
  have z0 := H0.blk.frozen 0
  have q7 := bP0.cell (j := 7) (v := .int .i64 p.mt) rfl
  have m1 : (if s.c.mx < p.mt then s.c.mx else p.mt) = min p.mt s.c.mx := by rw [Int.min_def]; split <;> split <;> omega
  have m2 : (if p.mt ≤ s.c.mx then p.mt else s.c.mx) = min p.mt s.c.mx := by rw [Int.min_def]
  obtain ⟨Z,hZ⟩ : ∃ z,min p.mt s.c.mx = z := ⟨_,rfl⟩
  rw [hZ] at m1 m2
  have HZ := Lib.hid hZ
  clear hZ
  go_upto_region 3 with fail
  go_still_tail 12,(by kernel_rfl)
  change wpList _ _ _ _ _ V.drew
  have H1 := H0.drew
  have hl1 : Below B w V.drew := (hB0.mono hBw).drew
  have x0' : V.drew.cell? ⟨X,0,none⟩ = some (.int .i64 s.c.mt) := x0
  have z0' : V.drew.frozen? ⟨X,0,none⟩ = false := z0
  generalize V.drew = V1 at H1 hl1 x0' z0' ⊢
  clear x0 z0 x1 q7 q0 q10 q11 m1 m2
  go_upto_region 4 with fail
  have H2 := H1.put_mt Z
  generalize hW : World.setCell V1 _ _ = V2 at H2 ⊢
  clear hW x0' z0'
  obtain ⟨H2,hl2⟩ := H2
  go_wp2_with fail
  refine (end_any ⟨1,0,0,[],[],0⟩ (.slice none 0 0) (.slice none 0 0) V2 B X _ H2 hw hps hus (BD.nil _ _) (FD.nil _ _)).mono ?_
  rintro e w3 ⟨rfl,s3,H3,hs3,hl3⟩
  go_wp2_with fail
  refine bodyPost_end (results_none rfl _ _ _) rfl ⟨rfl,s3,H3,hs3.trans (Eq.symm ?_),(hl1.trans hl2).trans hl3⟩
  unfold Sp.answered
  rw [if_pos E.out,← HZ.out]
  rfl
 ·have n3 := Lib.hid e
  clear e
  by_cases e : p.kd = 17
  ·have E := Lib.hid e
   have t3 : (p.kd == 3) = false := by simp [e]
   have t17 : (p.kd == 17) = true := by simp [e]
   have t9 : (p.kd == 9) = false := by simp [e]
   have t5 : (p.kd == 5) = false := by simp [e]
   have t11 : (p.kd == 11) = false := by simp [e]
   have t13 : (p.kd == 13) = false := by simp [e]
   have t23 : (p.kd == 23) = false := by simp [e]
   have t25 : (p.kd == 25) = false := by simp [e]
   have t19 : (p.kd == 19) = false := by simp [e]
   clear e
   go_wp2_with fail
   clear q0 q10 q11
   refine (services_any qs (.slice ia N ic) V B X s H0 hw hps hus hI0 hfo had).mono ?_
   rintro e w2 ⟨rfl,s2,H2,hs2,hl2⟩
   go_wp2_with fail
   refine bodyPost_end (results_none rfl _ _ _) rfl ⟨rfl,s2,H2,hs2.trans (Eq.symm ?_),(hB0.mono hBw).trans hl2⟩
   simp [Sp.answered,E.out]
  ·have n17 := Lib.hid e
   clear e
   by_cases e : p.kd = 9
   ·have E := Lib.hid e
    have t3 : (p.kd == 3) = false := by simp [e]
    have t17 : (p.kd == 17) = false := by simp [e]
    have t9 : (p.kd == 9) = true := by simp [e]
    have t5 : (p.kd == 5) = false := by simp [e]
    have t11 : (p.kd == 11) = false := by simp [e]
    have t13 : (p.kd == 13) = false := by simp [e]
    have t23 : (p.kd == 23) = false := by simp [e]
    have t25 : (p.kd == 25) = false := by simp [e]
    have t19 : (p.kd == 19) = false := by simp [e]
    clear e
    have x2 := H0.blk.cell (j := 2) (v := .int .i64 s.c.tk.kd) rfl
    by_cases e9 : s.c.tk.kd = 9
    ·have t99 : (s.c.tk.kd == 9) = true := by simp [e9]
     have E9 := Lib.hid (show s.sp.c.tk.kd = 9 from e9)
     clear e9
     go_wp2_with fail
     clear q0 q10 q11
     refine (hash_any qs (.slice ia N ic) V B X s H0 hw hps hus hI0).mono ?_
     rintro e w2 ⟨rfl,s2,H2,hs2,hl2⟩
     go_wp2_with fail
     refine bodyPost_end (results_none rfl _ _ _) rfl ⟨rfl,s2,H2,hs2.trans (Eq.symm ?_),(hB0.mono hBw).trans hl2⟩
     simp [Sp.answered,E.out,E9.out]
    ·have t99 : (s.c.tk.kd == 9) = false := by simp [e9]
     have E9 := Lib.hid (show ¬ s.sp.c.tk.kd = 9 from e9)
     clear e9
     go_wp2_with fail
     clear q0 q10 q11
     refine (elements_char_any qs (.slice ia N ic) V B X s H0 hw hps hus hI0 hfo had (hAL (.inr ⟨E.out,E9.out⟩)) hTL).mono ?_
     rintro e w2 ⟨rfl,s2,H2,hs2,hl2⟩
     go_wp2_with fail
     refine bodyPost_end (results_none rfl _ _ _) rfl ⟨rfl,s2,H2,hs2.trans (Eq.symm ?_),(hB0.mono hBw).trans hl2⟩
     simp [Sp.answered,E.out,E9.out]
   ·have n9 := Lib.hid e
    clear e
    by_cases e : p.kd = 5
    ·have E := Lib.hid e
     have t3 : (p.kd == 3) = false := by simp [e]
     have t17 : (p.kd == 17) = false := by simp [e]
     have t9 : (p.kd == 9) = false := by simp [e]
     have t5 : (p.kd == 5) = true := by simp [e]
     have t11 : (p.kd == 11) = false := by simp [e]
     have t13 : (p.kd == 13) = false := by simp [e]
     have t23 : (p.kd == 23) = false := by simp [e]
     have t25 : (p.kd == 25) = false := by simp [e]
     have t19 : (p.kd == 19) = false := by simp [e]
     clear e
     go_wp2_with fail
     clear q0 q10 q11
     refine (elements_desc_any qs (.slice ia N ic) V B X s H0 hw hps hus hI0 hfo had (hAL (.inl E.out)) hTL).mono ?_
     rintro e w2 ⟨rfl,s2,H2,hs2,hl2⟩
     go_wp2_with fail
     refine bodyPost_end (results_none rfl _ _ _) rfl ⟨rfl,s2,H2,hs2.trans (Eq.symm ?_),(hB0.mono hBw).trans hl2⟩
     simp [Sp.answered,E.out]
    ·have n5 := Lib.hid e
     clear e
     by_cases e : p.kd = 11
     ·have E := Lib.hid e
      have t3 : (p.kd == 3) = false := by simp [e]
      have t17 : (p.kd == 17) = false := by simp [e]
      have t9 : (p.kd == 9) = false := by simp [e]
      have t5 : (p.kd == 5) = false := by simp [e]
      have t11 : (p.kd == 11) = true := by simp [e]
      have t13 : (p.kd == 13) = false := by simp [e]
      have t23 : (p.kd == 23) = false := by simp [e]
      have t25 : (p.kd == 25) = false := by simp [e]
      have t19 : (p.kd == 19) = false := by simp [e]
      clear e
      go_wp2_with fail
      clear q0 q10 q11
      refine (read_any p.vs (.slice a K c) V B X s H0 hw hps hus hb0 (by rw [HK.out]; exact hbs) hvs).mono ?_
      rintro e w2 ⟨rfl,s2,H2,hs2,hl2⟩
      go_wp2_with fail
      refine bodyPost_end (results_none rfl _ _ _) rfl ⟨rfl,s2,H2,hs2.trans (Eq.symm ?_),(hB0.mono hBw).trans hl2⟩
      simp [Sp.answered,E.out]
     ·have n11 := Lib.hid e
      clear e
      by_cases e : p.kd = 13
      ·have E := Lib.hid e
       have t3 : (p.kd == 3) = false := by simp [e]
       have t17 : (p.kd == 17) = false := by simp [e]
       have t9 : (p.kd == 9) = false := by simp [e]
       have t5 : (p.kd == 5) = false := by simp [e]
       have t11 : (p.kd == 11) = false := by simp [e]
       have t13 : (p.kd == 13) = true := by simp [e]
       have t23 : (p.kd == 23) = false := by simp [e]
       have t25 : (p.kd == 25) = false := by simp [e]
       have t19 : (p.kd == 19) = false := by simp [e]
       clear e
       go_wp2_with fail
       clear q0 q10 q11
       refine (read_any p.vs (.slice a K c) V B X s H0 hw hps hus hb0 (by rw [HK.out]; exact hbs) hvs).mono ?_
       rintro e w2 ⟨rfl,s2,H2,hs2,hl2⟩
       go_wp2_with fail
       refine bodyPost_end (results_none rfl _ _ _) rfl ⟨rfl,s2,H2,hs2.trans (Eq.symm ?_),(hB0.mono hBw).trans hl2⟩
       simp [Sp.answered,E.out]
      ·have n13 := Lib.hid e
       clear e
       by_cases e : p.kd = 23
       ·have E := Lib.hid e
        have t3 : (p.kd == 3) = false := by simp [e]
        have t17 : (p.kd == 17) = false := by simp [e]
        have t9 : (p.kd == 9) = false := by simp [e]
        have t5 : (p.kd == 5) = false := by simp [e]
        have t11 : (p.kd == 11) = false := by simp [e]
        have t13 : (p.kd == 13) = false := by simp [e]
        have t23 : (p.kd == 23) = true := by simp [e]
        have t25 : (p.kd == 25) = false := by simp [e]
        have t19 : (p.kd == 19) = false := by simp [e]
        clear e
        have q1 := bP0.cell (j := 1) (v := .int .i64 p.ask) rfl
        have q2 := bP0.cell (j := 2) (v := .int .u16 p.ha) rfl
        have q3 := bP0.cell (j := 3) (v := .int .u16 p.la) rfl
        have q4 := bP0.cell (j := 4) (v := .int .u64 p.hi) rfl
        have q5 := bP0.cell (j := 5) (v := .int .u64 p.lo) rfl
        have q6 := bP0.cell (j := 6) (v := .int .i64 p.of) rfl
        have q7 := bP0.cell (j := 7) (v := .int .i64 p.mt) rfl
        have q8 := bP0.cell (j := 8) (v := .int .i64 p.co) rfl
        have q9 := bP0.cell (j := 9) (v := .bool p.cm) rfl
        go_wp2_with fail
        clear q0 q1 q2 q3 q4 q5 q6 q7 q8 q9 q10 q11
        refine (prepared_any p (.slice a K c) (.slice ia N ic) N O V B X s H0 hw hps hus hb0 ⟨ia,ic,rfl⟩ (by rw [HK.out]; exact hbs) hvs hO hOm).mono ?_
        rintro e w2 ⟨rfl,s2,H2,hs2,hl2⟩
        go_wp2_with fail
        refine bodyPost_end (results_none rfl _ _ _) rfl ⟨rfl,s2,H2,hs2.trans (Eq.symm ?_),(hB0.mono hBw).trans hl2⟩
        simp [Sp.answered,E.out]
       ·have n23 := Lib.hid e
        clear e
        by_cases e : p.kd = 25
        ·have E := Lib.hid e
         have t3 : (p.kd == 3) = false := by simp [e]
         have t17 : (p.kd == 17) = false := by simp [e]
         have t9 : (p.kd == 9) = false := by simp [e]
         have t5 : (p.kd == 5) = false := by simp [e]
         have t11 : (p.kd == 11) = false := by simp [e]
         have t13 : (p.kd == 13) = false := by simp [e]
         have t23 : (p.kd == 23) = false := by simp [e]
         have t25 : (p.kd == 25) = true := by simp [e]
         have t19 : (p.kd == 19) = false := by simp [e]
         clear e
         have x9 := H0.blk.cell (j := 9) (v := .bool s.c.tk.bad) rfl
         cases hb9 : s.c.tk.bad with
         |true =>
          rw [hb9] at x9
          have E9 := Lib.hid (show s.sp.c.tk.bad = true from hb9)
          clear hb9
          go_wp2_with fail
          clear q0 q10 q11
          refine (close_any V B X s H0 hw hps).mono ?_
          rintro e w2 ⟨rfl,s2,H2,hs2,hl2⟩
          go_wp2_with fail
          refine bodyPost_end (results_none rfl _ _ _) rfl ⟨rfl,s2,H2,hs2.trans (Eq.symm ?_),(hB0.mono hBw).trans hl2⟩
          simp [Sp.answered,E.out,E9.out]
         |false =>
          rw [hb9] at x9
          have E9 := Lib.hid (show s.sp.c.tk.bad = false from hb9)
          clear hb9
          go_wp2_with fail
          clear q0 q10 q11
          refine (end_any ⟨4,0,0,[],[],0⟩ (.slice none 0 0) (.slice none 0 0) V B X s H0 hw hps hus (BD.nil _ _) (FD.nil _ _)).mono ?_
          rintro e w2 ⟨rfl,s2,H2,hs2,hl2⟩
          go_wp2_with fail
          refine bodyPost_end (results_none rfl _ _ _) rfl ⟨rfl,s2,H2,hs2.trans (Eq.symm ?_),(hB0.mono hBw).trans hl2⟩
          simp [Sp.answered,E.out,E9.out]
        ·have n25 := Lib.hid e
         clear e
         by_cases e : p.kd = 19
         ·have E := Lib.hid e
          have t3 : (p.kd == 3) = false := by simp [e]
          have t17 : (p.kd == 17) = false := by simp [e]
          have t9 : (p.kd == 9) = false := by simp [e]
          have t5 : (p.kd == 5) = false := by simp [e]
          have t11 : (p.kd == 11) = false := by simp [e]
          have t13 : (p.kd == 13) = false := by simp [e]
          have t23 : (p.kd == 23) = false := by simp [e]
          have t25 : (p.kd == 25) = false := by simp [e]
          have t19 : (p.kd == 19) = true := by simp [e]
          clear e
          go_wp2_with fail
          clear q0 q10 q11
          refine (end_any ⟨4,0,0,[],[],0⟩ (.slice none 0 0) (.slice none 0 0) V B X s H0 hw hps hus (BD.nil _ _) (FD.nil _ _)).mono ?_
          rintro e w2 ⟨rfl,s2,H2,hs2,hl2⟩
          go_wp2_with fail
          refine bodyPost_end (results_none rfl _ _ _) rfl ⟨rfl,s2,H2,hs2.trans (Eq.symm ?_),(hB0.mono hBw).trans hl2⟩
          simp [Sp.answered,E.out]
         ·have n19 := Lib.hid e
          clear e
          have t3 : (p.kd == 3) = false := by have h := n3.out; simp [h]
          have t17 : (p.kd == 17) = false := by have h := n17.out; simp [h]
          have t9 : (p.kd == 9) = false := by have h := n9.out; simp [h]
          have t5 : (p.kd == 5) = false := by have h := n5.out; simp [h]
          have t11 : (p.kd == 11) = false := by have h := n11.out; simp [h]
          have t13 : (p.kd == 13) = false := by have h := n13.out; simp [h]
          have t23 : (p.kd == 23) = false := by have h := n23.out; simp [h]
          have t25 : (p.kd == 25) = false := by have h := n25.out; simp [h]
          have t19 : (p.kd == 19) = false := by have h := n19.out; simp [h]
          go_wp2_with fail
          refine bodyPost_end (results_none rfl _ _ _) rfl ⟨rfl,s,H0,?_,hB0.mono hBw⟩
          simp [Sp.answered,n3.out,n17.out,n9.out,n5.out,n11.out,n13.out,n23.out,n25.out,n19.out]
/-- requests, read -/
def PsV (w : World) (v : Value) (ps : List Pd) : Prop := ∃ qs : List (Pd × Value × Value),qs.map (·.1) = ps ∧ SR w v qs.length 12 (qs.flatMap penc) ∧ ∀ q ∈ qs,BV w q.2.1 q.1.vs ∧ SR w q.2.2 0 5 []
/-- results, read -/
def RsV (w : World) (v : Value) (us : List Rs) : Prop := ∃ qs : List (Rs × Value × Value),qs.map (·.1) = us ∧ SR w v qs.length 6 (qs.flatMap renc) ∧ ∀ q ∈ qs,BV w q.2.1 q.1.vs ∧ FdV w q.2.2 q.1.fo
theorem PsV.nil (w : World) : PsV w (.slice none 0 0) [] := ⟨[],rfl,SR.nil _ _,by simp⟩
theorem Sq.one {w : World} {B X : Nat} {s : Sv} (h : Sq w B X s) : (clc s.c s.bv s.fv s.ab s.ai s.wv).toArray.all (·.oneCell') = true := by
 obtain ⟨a1,c1,e1⟩ := h.pt.bv.1.form
 obtain ⟨a2,c2,e2⟩ := own_form h.pt.fv
 obtain ⟨a3,c3,e3⟩ := h.pt.ab.1.form
 obtain ⟨a4,c4,e4⟩ := h.pt.ai.form
 obtain ⟨a5,c5,e5⟩ := h.pt.wv.form
 rw [e1,e2,e3,e4,e5]
 simp [clc,Value.oneCell']
theorem Sq.range {w : World} {B X : Nat} {s : Sv} (h : Sq w B X s) : w.rangeAt X 0 (clc s.c s.bv s.fv s.ab s.ai s.wv) := h.blk.range 0 _ (fun j v hv => by
 have e : s.cells = clc s.c s.bv s.fv s.ab s.ai s.wv ++ [.int .i64 s.now,s.ov,s.rv] := rfl
 rw [e,Nat.zero_add,List.getElem?_append_left (List.getElem?_eq_some_iff.1 hv).1]
 exact hv)
theorem results_cell_tmp2 {fn : Func} {p u v : Tmp} {ty : TypeId} (h : fn.results = #[.cell p ty,.tmp u,.tmp v]) (tmps : Array Value) (P : Program) (w : World) :
 (results fn tmps).run P w =
  ((asAddr (tmps.getD p undef)).run P w).andThen fun a w₁ => ((loadVar ty a).run P w₁).andThen fun x w₂ => .ok (.tuple #[x,tmps.getD u undef,tmps.getD v undef]) w₂ := by
 simp only [results,h]
 simp [Sem.run_bind,Result.andThen]
/-- a client that a call takes -/
structure ClOk (c : Cl) : Prop where
 wt : ∀ t ∈ c.wt,TkOk t
 wl : c.wt.length ≤ 1000
 vs : c.tk.vs.length ≤ 1000000
 fo : c.tk.fo.length ≤ 50000
 ad : c.ad.vs.length ≤ 1000000
 of : ∃ O : Nat,c.tk.of = (O : Int) ∧ O ≤ 1000000
 la : c.tk.la < 65536
/-- of, of a client that is read -/
theorem of_clv {w : World} {v : Value} {c : Cl} (hv : ClV w v c) (hc : ClOk c) (now : Int) : Calls Tryz.prog 31 #[v,.int .i64 now] w fun e w' => ∃ X s,e = .returned (.pointer (some ⟨X,0,none⟩)) ∧ Sd w' w.heap.size X s ∧ s.c = c ∧ s.now = now ∧ s.ps = [] ∧ s.us = [] ∧ Below w.heap.size w w' := by
 obtain ⟨bv,fv,ab,ai,wv,rfl,h1,h2,h3,h4,qs,h5,h6,h7⟩ := hv
 have hl : qs.length = c.wt.length := by rw [← h5]; simp
 exact of_any c bv fv ab ai wv now qs w h1 h2 h3 h4 h6 h5 (fun q hq => ⟨(h7 q hq).1,(h7 q hq).2,(hc.wt q.1 (by rw [← h5]; exact List.mem_map_of_mem hq)).len⟩) hc.vs (by have := hc.fo; omega) hc.ad (by have := hc.wl; omega)
theorem Sd.q {w : World} {B X : Nat} {s : Sv} {c : Cl} (h : Sd w B X s) (hc : ClOk c) (e : s.c = c) : Sq w B X s := h.weak (by
 have hl : s.qs.length = s.c.wt.length := by rw [← h.wt]; simp
 rw [hl,e]
 have := hc.wl
 omega)
theorem ClV.below {w w' : World} {v : Value} {c : Cl} (h : ClV w v c) (hb : Below w.heap.size w w') : ClV w' v c := by
 obtain ⟨bv,fv,ab,ai,wv,rfl,h1,h2,h3,h4,qs,h5,h6,h7⟩ := h
 exact ⟨bv,fv,ab,ai,wv,rfl,h1.below hb,h2.below hb,h3.below hb,h4.below hb,qs,h5,h6.below hb,fun q hq => ⟨(h7 q hq).1.below hb,(h7 q hq).2⟩⟩
theorem ClV.agg {w : World} {v : Value} {c : Cl} (h : ClV w v c) : ∃ bv fv ab ai wv : Value,v = .agg #[.int .i64 c.mt,.int .i64 c.mx,.int .i64 c.tk.kd,.int .u16 c.tk.fi,.int .u16 c.tk.la,.int .u16 c.tk.ha,bv,.int .i64 c.tk.of,fv,.bool c.tk.bad,.int .i64 c.ad.kd,.int .i64 c.ad.ask,.int .u16 c.ad.ha,.int .u16 c.ad.la,.int .u64 c.ad.hi,.int .u64 c.ad.lo,.int .i64 c.ad.of,.int .i64 c.ad.mt,.int .i64 c.ad.co,.bool c.ad.cm,ab,ai,.bool c.busy,.int .i64 c.since,.bool c.dead,wv] := by
 obtain ⟨bv,fv,ab,ai,wv,rfl,_⟩ := h
 exact ⟨bv,fv,ab,ai,wv,rfl⟩
def czl : List Value := [.int .i64 0,.int .i64 0,.int .i64 0,.int .u16 0,.int .u16 0,.int .u16 0,.slice none 0 0,.int .i64 0,.slice none 0 0,.bool false,.int .i64 0,.int .i64 0,.int .u16 0,.int .u16 0,.int .u64 0,.int .u64 0,.int .i64 0,.int .i64 0,.int .i64 0,.bool false,.slice none 0 0,.slice none 0 0,.bool false,.int .i64 0,.bool false,.slice none 0 0]
theorem czl_u8 (off : Nat) (x : Int) : czl[off]? ≠ some (.int .u8 x) := by
 intro h
 have hm := List.mem_of_getElem? h
 simp [czl] at hm
theorem czl_fd (off : Nat) (a b c d : Int) (h0 : czl[off]? = some (.int .u16 a)) (h1 : czl[off + 1]? = some (.int .u16 b)) (h2 : czl[off + 2]? = some (.int .u16 c)) (h3 : czl[off + 3]? = some (.int .i64 d)) : False := by
 have hl : off < 26 := (List.getElem?_eq_some_iff.1 h0).1
 unfold czl at h0 h1 h2 h3
 match off,hl with
 |0,_ => simp at h0 h1 h2 h3
 |1,_ => simp at h0 h1 h2 h3
 |2,_ => simp at h0 h1 h2 h3
 |3,_ => simp at h0 h1 h2 h3
 |4,_ => simp at h0 h1 h2 h3
 |5,_ => simp at h0 h1 h2 h3
 |6,_ => simp at h0 h1 h2 h3
 |7,_ => simp at h0 h1 h2 h3
 |8,_ => simp at h0 h1 h2 h3
 |9,_ => simp at h0 h1 h2 h3
 |10,_ => simp at h0 h1 h2 h3
 |11,_ => simp at h0 h1 h2 h3
 |12,_ => simp at h0 h1 h2 h3
 |13,_ => simp at h0 h1 h2 h3
 |14,_ => simp at h0 h1 h2 h3
 |15,_ => simp at h0 h1 h2 h3
 |16,_ => simp at h0 h1 h2 h3
 |17,_ => simp at h0 h1 h2 h3
 |18,_ => simp at h0 h1 h2 h3
 |19,_ => simp at h0 h1 h2 h3
 |20,_ => simp at h0 h1 h2 h3
 |21,_ => simp at h0 h1 h2 h3
 |22,_ => simp at h0 h1 h2 h3
 |23,_ => simp at h0 h1 h2 h3
 |24,_ => simp at h0 h1 h2 h3
 |25,_ => simp at h0 h1 h2 h3
theorem Blk.at? {w : World} {b : Nat} {t : TypeId} {cs : List Value} (h : Blk w b t cs) (off : Nat) : w.cell? ⟨b,off,none⟩ = cs[off]? := by
 simp [World.cell?,show w.heap[b]? = _ from h]
theorem Blk.putC {w : World} {b : Nat} (h : Blk w b 52 czl) (c : Cl) (bv fv ab ai wv : Value) : Blk (w.setCells b 0 (clc c bv fv ab ai wv)) b 52 (clc c bv fv ab ai wv) := by
 have h1 := h.setCells (vs := clc c bv fv ab ai wv) (o := 0)
 simp only [czl,clc,over,List.set_cons_zero,List.set_cons_succ,Nat.reduceAdd] at h1 ⊢
 exact h1
theorem BV.notz {w w' : World} {v : Value} {bs : List Nat} {rb : Nat} (h : BV w v bs) (hz : Blk w rb 52 czl) (hg : w.grownBy w' (some rb)) : BV w' v bs := by
 by_cases h0 : bs.length = 0
 ·refine h.with ?_
  have h1 := h.sr
  rw [h0] at h1 ⊢
  have e : bs = [] := List.eq_nil_of_length_eq_zero h0
  subst e
  exact h1.empty
 ·refine h.with (h.sr.grown hg ?_)
  obtain ⟨_,_,_,ao,cap,rfl,_,h4⟩ := h.sr
  obtain ⟨b,off,rfl,_,hc⟩ := h4 (by omega)
  refine .inr ⟨b,rfl,fun e => ?_⟩
  injection e with e
  subst e
  cases bs with
  |nil => simp at h0
  |cons x r =>
   have h5 := hc 0 (.int .u8 (x : Int)) rfl
   rw [hz.at?] at h5
   exact czl_u8 _ _ h5
theorem FdV.notz {w w' : World} {v : Value} {l : List Fd} {rb : Nat} (h : FdV w v l) (hz : Blk w rb 52 czl) (hg : w.grownBy w' (some rb)) : FdV w' v l := by
 by_cases h0 : l.length = 0
 ·have e : l = [] := List.eq_nil_of_length_eq_zero h0
  subst e
  exact SR.empty h
 ·refine SR.grown h hg ?_
  obtain ⟨_,_,_,ao,cap,rfl,_,h4⟩ := h
  obtain ⟨b,off,rfl,_,hc⟩ := h4 (by omega)
  refine .inr ⟨b,rfl,fun e => ?_⟩
  injection e with e
  subst e
  cases l with
  |nil => simp at h0
  |cons x r =>
   have h5 := hc 0 (.int .u16 x.ha) rfl
   have h6 := hc 1 (.int .u16 x.la) rfl
   have h7 := hc 2 (.int .u16 x.va) rfl
   have h8 := hc 3 (.int .i64 x.pr) rfl
   rw [hz.at?] at h5 h6 h7 h8
   exact czl_fd _ _ _ _ _ h5 h6 h7 h8
/-- a row that does not lie in a block -/
def Off (rb : Nat) (v : Value) : Prop := ∀ k,v.ownBlock = some k → k ≠ rb
/-- a client's waiting row does not lie in a block -/
def WOff (rb : Nat) (v : Value) (c : Cl) : Prop := ∀ cs : List Value,v = .agg cs.toArray → ∀ u,cs[25]? = some u → c.wt.length = 0 ∨ Off rb u
/-- the rows of a side lie in no block of the caller's -/
theorem Sq.off {w : World} {B X rb : Nat} {s : Sv} (h : Sq w B X s) (hrb : rb < B) : WOff rb (.agg (clc s.c s.bv s.fv s.ab s.ai s.wv).toArray) s.c ∧ Off rb s.ov ∧ Off rb s.rv := by
 refine ⟨fun cs e u hu => ?_,fun k hk e => ?_,fun k hk e => ?_⟩
 ·simp only [Value.agg.injEq] at e
  have e' : clc s.c s.bv s.fv s.ab s.ai s.wv = cs := by simpa using congrArg Array.toList e
  subst e'
  have hu' : s.wv = u := by
   have : (clc s.c s.bv s.fv s.ab s.ai s.wv)[25]? = some s.wv := rfl
   rw [this] at hu
   injection hu
  subst hu'
  rw [← h.pt.wt,List.length_map]
  rcases h.pt.wb with h0 | ⟨k,hk,hb⟩
  ·exact .inl h0
  ·exact .inr fun k' hk' e' => by rw [hk] at hk'; injection hk' with hk'; omega
 ·have := (h.pt.ov.lt k hk).1
  omega
 ·have := (h.pt.rv.lt k hk).1
  omega
/-- the same readings, and their rows lie in no block below B -/
def ClVo (B : Nat) (w : World) (v : Value) (c : Cl) : Prop := ClV w v c ∧ ∀ rb,rb < B → WOff rb v c
def PsVo (B : Nat) (w : World) (v : Value) (ps : List Pd) : Prop := PsV w v ps ∧ (∀ rb,rb < B → Off rb v) ∧ ∃ a c,v = .slice a ps.length c ∧ ps.length ≤ c
theorem own_cap {w : World} {base e k n : Nat} {v : Value} {cs : List Value} (h : w.ownsRow base e k v n cs) : ∃ a c,v = .slice a n c ∧ n ≤ c := by
 rcases h.2 with ⟨h1,h2⟩ | ⟨g,cap,cur,h1,_,_,h2,_⟩
 ·exact ⟨none,0,by rw [h1,h2],by omega⟩
 ·exact ⟨_,_,h1,h2⟩
def RsVo (B : Nat) (w : World) (v : Value) (us : List Rs) : Prop := RsV w v us ∧ ∀ rb,rb < B → Off rb v
theorem off_nil (rb : Nat) : Off rb (.slice none 0 0) := fun k hk => by cases hk
theorem PsVo.nil (B : Nat) (w : World) : PsVo B w (.slice none 0 0) [] := ⟨PsV.nil w,fun rb _ => off_nil rb,none,0,rfl,Nat.le_refl _⟩
end Go.Proofs.YtldcihjddebciaaGreat
