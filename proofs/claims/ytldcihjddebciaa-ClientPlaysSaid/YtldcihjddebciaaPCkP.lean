/- client: the arguments of its laws: steps that came in. And what follows it. -/
import Derived.Test.YtldcihjddebciaaPClX
import Derived.Test.YtldcihjddebciaaPSlArg2
import Derived.Test.YtldcihjddebciaaPClB
set_option linter.unusedSimpArgs false
set_option linter.unusedVariables false
namespace Go.Proofs.Ytldcihjddebciaa
open Go.RowKit
theorem Try.kcells_i64 : Try.prog.cellsOf 3 = 1 := by kernel_rfl
theorem Try.kcells_u8 : Try.prog.cellsOf 5 = 1 := by kernel_rfl
theorem Try.kcells_u16 : Try.prog.cellsOf 22 = 1 := by kernel_rfl
theorem Try.kcells_u32 : Try.prog.cellsOf 45 = 1 := by kernel_rfl
theorem Try.kcells_u64 : Try.prog.cellsOf 27 = 1 := by kernel_rfl
theorem Try.kcells_bool : Try.prog.cellsOf 4 = 1 := by kernel_rfl
theorem Try.kcells_bytes : Try.prog.cellsOf 23 = 1 := by kernel_rfl
theorem Try.kcells_fds : Try.prog.cellsOf 24 = 1 := by kernel_rfl
theorem Try.kcells_items : Try.prog.cellsOf 30 = 1 := by kernel_rfl
theorem Try.kcells_uuid : Try.prog.cellsOf 29 = 2 := by kernel_rfl
theorem Try.kcells_item : Try.prog.cellsOf 101 = 5 := by kernel_rfl
theorem Try.kcells_task : Try.prog.cellsOf 26 = 8 := by kernel_rfl
theorem Try.kcells_pdu : Try.prog.cellsOf 32 = 12 := by kernel_rfl
theorem Try.kcells_step : Try.prog.cellsOf 47 = 22 := by kernel_rfl
theorem Try.kbytes_byte : Try.prog.bytesOf 5 = 1 := by kernel_rfl
theorem Try.kbytes_item : Try.prog.bytesOf 101 = 48 := by kernel_rfl
theorem Try.kbytes_step : Try.prog.bytesOf 47 = 216 := by kernel_rfl
theorem klist5 {α : Type} (l : List α) (h : l.length = 5) : ∃ a b c d e,l = [a,b,c,d,e] := by
 match l,h with
 |[a,b,c,d,e],_ => exact ⟨a,b,c,d,e,rfl⟩
theorem klist22 {α : Type} (l : List α) (h : l.length = 22) : ∃ a t0 t1 t2 t3 t4 t5 t6 t7 p0 p1 p2 p3 p4 p5 p6 p7 p8 p9 pA pB z,l = [a,t0,t1,t2,t3,t4,t5,t6,t7,p0,p1,p2,p3,p4,p5,p6,p7,p8,p9,pA,pB,z] := by
 match l,h with
 |[a,t0,t1,t2,t3,t4,t5,t6,t7,p0,p1,p2,p3,p4,p5,p6,p7,p8,p9,pA,pB,z],_ => exact ⟨a,t0,t1,t2,t3,t4,t5,t6,t7,p0,p1,p2,p3,p4,p5,p6,p7,p8,p9,pA,pB,z,rfl⟩
def i64r (x : Int) : Prop := -9223372036854775808 ≤ x ∧ x ≤ 9223372036854775807
theorem kin_cap {P : Program} {w : World} {e : TypeId} {v : Value} (h : SlIn P w e v) : ∃ a n c,v = .slice a n c ∧ n ≤ c := by
 rcases h with rfl | ⟨a,len,cap,rfl,hle,_⟩
 ·exact ⟨_,_,_,rfl,Nat.le_refl _⟩
 ·exact ⟨_,_,_,rfl,hle⟩
theorem krd_bool {w : World} {v : Value} (h : Rd Try.prog w 4 [v]) : ∃ b,v = .bool b := by
 obtain ⟨b,e⟩ := Rd.bool Try.underlying4 h
 exact ⟨b,by simpa using e⟩
theorem krd_uuid {w : World} {x y : Value} (h : Rd Try.prog w 29 [x,y]) : ∃ hi lo : Nat,x = .int .u64 hi ∧ y = .int .u64 lo ∧ hi < 18446744073709551616 ∧ lo < 18446744073709551616 := by
 obtain ⟨_,hf⟩ := h.struct Try.underlying29
 have f0 : Rd Try.prog w 27 (([x,y].drop 0).take (Try.prog.cellsOf 27)) := hf 0 _ rfl
 have f1 : Rd Try.prog w 27 (([x,y].drop 1).take (Try.prog.cellsOf 27)) := hf 1 _ rfl
 simp only [Try.kcells_u64,List.drop_succ_cons,List.drop_zero,List.take_succ_cons,List.take_zero] at f0 f1
 obtain ⟨a,e0,ha⟩ := f0.u64 Try.underlying27
 obtain ⟨b,e1,hb⟩ := f1.u64 Try.underlying27
 simp only [List.cons.injEq,and_true] at e0 e1
 exact ⟨a,b,e0,e1,ha,hb⟩
/-- bytes that can be read -/
theorem krd_bv {w : World} {v : Value} (h : Rd Try.prog w 23 [v]) : ∃ bs,BV w v bs := by
 obtain ⟨u,e,hs⟩ := h.slIn Try.underlying23
 simp only [List.cons.injEq,and_true] at e
 subst e
 obtain ⟨bs,hb⟩ := bytes_of_in Try.underlying5 Try.kcells_u8 Try.kbytes_byte hs
 obtain ⟨a,c,rfl⟩ := hb.1.val
 obtain ⟨a',n',c',e,hc⟩ := kin_cap hs
 simp only [Value.slice.injEq] at e
 exact ⟨bs,a,c,rfl,by omega,hb⟩
/-- an element of a list that came in -/
def ItIn (w : World) (q : Im × Value) : Prop := BV w q.2 q.1.bs ∧ q.1.ha < 65536 ∧ q.1.la < 65536 ∧ q.1.hi < 18446744073709551616 ∧ q.1.lo < 18446744073709551616
theorem krd_item {w : World} (cs : List Value) (h : Rd Try.prog w 101 cs) : ∃ q : Im × Value,cs = ienc q ∧ ItIn w q := by
 obtain ⟨hl,hf⟩ := h.struct Try.underlying101
 rw [Try.kcells_item] at hl
 obtain ⟨c0,c1,c2,c3,c4,rfl⟩ := klist5 cs hl
 have f0 : Rd Try.prog w 22 (([c0,c1,c2,c3,c4].drop 0).take (Try.prog.cellsOf 22)) := hf 0 _ rfl
 have f1 : Rd Try.prog w 22 (([c0,c1,c2,c3,c4].drop 1).take (Try.prog.cellsOf 22)) := hf 1 _ rfl
 have f2 : Rd Try.prog w 29 (([c0,c1,c2,c3,c4].drop 2).take (Try.prog.cellsOf 29)) := hf 2 _ rfl
 have f3 : Rd Try.prog w 23 (([c0,c1,c2,c3,c4].drop 4).take (Try.prog.cellsOf 23)) := hf 3 _ rfl
 simp only [Try.kcells_u16,Try.kcells_uuid,Try.kcells_bytes,List.drop_succ_cons,List.drop_zero,List.take_succ_cons,List.take_zero] at f0 f1 f2 f3
 obtain ⟨ha,e0,h0⟩ := f0.u16 Try.underlying22
 obtain ⟨la,e1,h1⟩ := f1.u16 Try.underlying22
 obtain ⟨hi,lo,rfl,rfl,h2,h3⟩ := krd_uuid f2
 obtain ⟨bs,hb⟩ := krd_bv f3
 simp only [List.cons.injEq,and_true] at e0 e1
 subst e0 e1
 exact ⟨⟨⟨ha,la,hi,lo,bs⟩,c4⟩,rfl,hb,h0,h1,h2,h3⟩
theorem krd_items {w : World} {v : Value} (h : Rd Try.prog w 30 [v]) : ∃ qs : List (Im × Value),SR w v qs.length 5 (qs.flatMap ienc) ∧ ∀ q ∈ qs,ItIn w q := by
 obtain ⟨u,e,hs⟩ := h.slIn Try.underlying30
 simp only [List.cons.injEq,and_true] at e
 subst e
 obtain ⟨l,h1,_,h3⟩ := sr_of_in ienc (ItIn w) 5 48 (fun _ => rfl) (fun q hq u hu => by
  obtain ⟨a,c,e,_⟩ := hq.1
  simp [ienc,e] at hu
  rcases hu with rfl | rfl | rfl | rfl | rfl <;> rfl) (by decide) Try.kcells_item Try.kbytes_item krd_item hs
 exact ⟨l,h1,h3⟩
theorem krd_task {w : World} (c0 c1 c2 c3 c4 c5 c6 c7 : Value) (h : Rd Try.prog w 26 [c0,c1,c2,c3,c4,c5,c6,c7]) : ∃ (t : Tk) (tb tf : Value),[c0,c1,c2,c3,c4,c5,c6,c7] = tkc t tb tf ∧ BV w tb t.vs ∧ (∃ a n c,tf = .slice a n c) ∧ i64r t.kd ∧ t.fi < 65536 ∧ t.la < 65536 ∧ t.ha < 65536 ∧ i64r t.of := by
 obtain ⟨_,hf⟩ := h.struct Try.underlying26
 have f0 : Rd Try.prog w 3 (([c0,c1,c2,c3,c4,c5,c6,c7].drop 0).take (Try.prog.cellsOf 3)) := hf 0 _ rfl
 have f1 : Rd Try.prog w 22 (([c0,c1,c2,c3,c4,c5,c6,c7].drop 1).take (Try.prog.cellsOf 22)) := hf 1 _ rfl
 have f2 : Rd Try.prog w 22 (([c0,c1,c2,c3,c4,c5,c6,c7].drop 2).take (Try.prog.cellsOf 22)) := hf 2 _ rfl
 have f3 : Rd Try.prog w 22 (([c0,c1,c2,c3,c4,c5,c6,c7].drop 3).take (Try.prog.cellsOf 22)) := hf 3 _ rfl
 have f4 : Rd Try.prog w 23 (([c0,c1,c2,c3,c4,c5,c6,c7].drop 4).take (Try.prog.cellsOf 23)) := hf 4 _ rfl
 have f5 : Rd Try.prog w 3 (([c0,c1,c2,c3,c4,c5,c6,c7].drop 5).take (Try.prog.cellsOf 3)) := hf 5 _ rfl
 have f6 : Rd Try.prog w 24 (([c0,c1,c2,c3,c4,c5,c6,c7].drop 6).take (Try.prog.cellsOf 24)) := hf 6 _ rfl
 have f7 : Rd Try.prog w 4 (([c0,c1,c2,c3,c4,c5,c6,c7].drop 7).take (Try.prog.cellsOf 4)) := hf 7 _ rfl
 simp only [Try.kcells_i64,Try.kcells_u16,Try.kcells_bool,Try.kcells_bytes,Try.kcells_fds,List.drop_succ_cons,List.drop_zero,List.take_succ_cons,List.take_zero] at f0 f1 f2 f3 f4 f5 f6 f7
 obtain ⟨kd,e0,h0⟩ := f0.i64 Try.underlying3
 obtain ⟨fi,e1,h1⟩ := f1.u16 Try.underlying22
 obtain ⟨la,e2,h2⟩ := f2.u16 Try.underlying22
 obtain ⟨ha,e3,h3⟩ := f3.u16 Try.underlying22
 obtain ⟨bs,hb⟩ := krd_bv f4
 obtain ⟨of,e5,h5⟩ := f5.i64 Try.underlying3
 obtain ⟨u,eu,hs⟩ := f6.slIn Try.underlying24
 obtain ⟨a,n,c,ea,_⟩ := kin_cap hs
 obtain ⟨bd,rfl⟩ := krd_bool f7
 simp only [List.cons.injEq,and_true] at e0 e1 e2 e3 e5 eu
 subst e0 e1 e2 e3 e5 eu
 exact ⟨⟨kd,fi,la,ha,bs,of,[],bd⟩,c4,c6,rfl,hb,⟨a,n,c,ea⟩,h0,h1,h2,h3,h5⟩
theorem krd_pdu {w : World} (c0 c1 c2 c3 c4 c5 c6 c7 c8 c9 cA cB : Value) (h : Rd Try.prog w 32 [c0,c1,c2,c3,c4,c5,c6,c7,c8,c9,cA,cB]) : ∃ (p : Pd) (pb iv : Value) (qs : List (Im × Value)),[c0,c1,c2,c3,c4,c5,c6,c7,c8,c9,cA,cB] = pdc p pb iv ∧ BV w pb p.vs ∧ SR w iv qs.length 5 (qs.flatMap ienc) ∧ (∀ q ∈ qs,ItIn w q) ∧ i64r p.kd ∧ p.ha < 65536 ∧ p.la < 65536 ∧ p.hi < 18446744073709551616 ∧ p.lo < 18446744073709551616 := by
 obtain ⟨_,hf⟩ := h.struct Try.underlying32
 have f0 : Rd Try.prog w 3 (([c0,c1,c2,c3,c4,c5,c6,c7,c8,c9,cA,cB].drop 0).take (Try.prog.cellsOf 3)) := hf 0 _ rfl
 have f1 : Rd Try.prog w 3 (([c0,c1,c2,c3,c4,c5,c6,c7,c8,c9,cA,cB].drop 1).take (Try.prog.cellsOf 3)) := hf 1 _ rfl
 have f2 : Rd Try.prog w 22 (([c0,c1,c2,c3,c4,c5,c6,c7,c8,c9,cA,cB].drop 2).take (Try.prog.cellsOf 22)) := hf 2 _ rfl
 have f3 : Rd Try.prog w 22 (([c0,c1,c2,c3,c4,c5,c6,c7,c8,c9,cA,cB].drop 3).take (Try.prog.cellsOf 22)) := hf 3 _ rfl
 have f4 : Rd Try.prog w 29 (([c0,c1,c2,c3,c4,c5,c6,c7,c8,c9,cA,cB].drop 4).take (Try.prog.cellsOf 29)) := hf 4 _ rfl
 have f5 : Rd Try.prog w 3 (([c0,c1,c2,c3,c4,c5,c6,c7,c8,c9,cA,cB].drop 6).take (Try.prog.cellsOf 3)) := hf 5 _ rfl
 have f6 : Rd Try.prog w 3 (([c0,c1,c2,c3,c4,c5,c6,c7,c8,c9,cA,cB].drop 7).take (Try.prog.cellsOf 3)) := hf 6 _ rfl
 have f7 : Rd Try.prog w 3 (([c0,c1,c2,c3,c4,c5,c6,c7,c8,c9,cA,cB].drop 8).take (Try.prog.cellsOf 3)) := hf 7 _ rfl
 have f8 : Rd Try.prog w 4 (([c0,c1,c2,c3,c4,c5,c6,c7,c8,c9,cA,cB].drop 9).take (Try.prog.cellsOf 4)) := hf 8 _ rfl
 have f9 : Rd Try.prog w 23 (([c0,c1,c2,c3,c4,c5,c6,c7,c8,c9,cA,cB].drop 10).take (Try.prog.cellsOf 23)) := hf 9 _ rfl
 have fA : Rd Try.prog w 30 (([c0,c1,c2,c3,c4,c5,c6,c7,c8,c9,cA,cB].drop 11).take (Try.prog.cellsOf 30)) := hf 10 _ rfl
 simp only [Try.kcells_i64,Try.kcells_u16,Try.kcells_uuid,Try.kcells_bool,Try.kcells_bytes,Try.kcells_items,List.drop_succ_cons,List.drop_zero,List.take_succ_cons,List.take_zero] at f0 f1 f2 f3 f4 f5 f6 f7 f8 f9 fA
 obtain ⟨ki,e0,h0⟩ := f0.i64 Try.underlying3
 obtain ⟨ak,e1,_⟩ := f1.i64 Try.underlying3
 obtain ⟨ha,e2,h2⟩ := f2.u16 Try.underlying22
 obtain ⟨la,e3,h3⟩ := f3.u16 Try.underlying22
 obtain ⟨hi,lo,rfl,rfl,h4,h5⟩ := krd_uuid f4
 obtain ⟨of,e6,_⟩ := f5.i64 Try.underlying3
 obtain ⟨mt,e7,_⟩ := f6.i64 Try.underlying3
 obtain ⟨co,e8,_⟩ := f7.i64 Try.underlying3
 obtain ⟨cm,rfl⟩ := krd_bool f8
 obtain ⟨bs,hb⟩ := krd_bv f9
 obtain ⟨qs,hq,hqs⟩ := krd_items fA
 simp only [List.cons.injEq,and_true] at e0 e1 e2 e3 e6 e7 e8
 subst e0 e1 e2 e3 e6 e7 e8
 exact ⟨⟨ki,ak,ha,la,hi,lo,of,mt,co,cm,bs⟩,cA,cB,qs,rfl,hb,hq,hqs,h0,h2,h3,h4,h5⟩
/-- a step that came in -/
structure Stp where
 call : Nat
 t : Tk
 tb : Value
 tf : Value
 p : Pd
 pb : Value
 iv : Value
 qs : List (Im × Value)
 pause : Nat
instance : Inhabited Stp := ⟨⟨0,tk0,.slice none 0 0,.slice none 0 0,pd0,.slice none 0 0,.slice none 0 0,[],0⟩⟩
def senc (s : Stp) : List Value := .int .u8 s.call :: (tkc s.t s.tb s.tf ++ (pdc s.p s.pb s.iv ++ [.int .u32 s.pause]))
structure StpIn (w : World) (s : Stp) : Prop where
 tb : BV w s.tb s.t.vs
 tf : ∃ a n c,s.tf = .slice a n c
 kd : i64r s.t.kd
 fi : s.t.fi < 65536
 la : s.t.la < 65536
 ha : s.t.ha < 65536
 pb : BV w s.pb s.p.vs
 iv : SR w s.iv s.qs.length 5 (s.qs.flatMap ienc)
 it : ∀ q ∈ s.qs,ItIn w q
 pk : i64r s.p.kd
 ph : s.p.ha < 65536
 pl : s.p.la < 65536
 hi : s.p.hi < 18446744073709551616
 lo : s.p.lo < 18446744073709551616
 call : s.call < 256
 pause : s.pause < 4294967296
theorem krd_step {w : World} (cs : List Value) (h : Rd Try.prog w 47 cs) : ∃ s,cs = senc s ∧ StpIn w s := by
 obtain ⟨hl,hf⟩ := h.struct Try.underlying47
 rw [Try.kcells_step] at hl
 obtain ⟨a,t0,t1,t2,t3,t4,t5,t6,t7,p0,p1,p2,p3,p4,p5,p6,p7,p8,p9,pA,pB,z,rfl⟩ := klist22 cs hl
 have f0 : Rd Try.prog w 5 (([a,t0,t1,t2,t3,t4,t5,t6,t7,p0,p1,p2,p3,p4,p5,p6,p7,p8,p9,pA,pB,z].drop 0).take (Try.prog.cellsOf 5)) := hf 0 _ rfl
 have f1 : Rd Try.prog w 26 (([a,t0,t1,t2,t3,t4,t5,t6,t7,p0,p1,p2,p3,p4,p5,p6,p7,p8,p9,pA,pB,z].drop 1).take (Try.prog.cellsOf 26)) := hf 1 _ rfl
 have f2 : Rd Try.prog w 32 (([a,t0,t1,t2,t3,t4,t5,t6,t7,p0,p1,p2,p3,p4,p5,p6,p7,p8,p9,pA,pB,z].drop 9).take (Try.prog.cellsOf 32)) := hf 2 _ rfl
 have f3 : Rd Try.prog w 45 (([a,t0,t1,t2,t3,t4,t5,t6,t7,p0,p1,p2,p3,p4,p5,p6,p7,p8,p9,pA,pB,z].drop 21).take (Try.prog.cellsOf 45)) := hf 3 _ rfl
 simp only [Try.kcells_u8,Try.kcells_u32,Try.kcells_task,Try.kcells_pdu,List.drop_succ_cons,List.drop_zero,List.take_succ_cons,List.take_zero] at f0 f1 f2 f3
 obtain ⟨ca,e0,h0⟩ := f0.u8 Try.underlying5
 obtain ⟨t,tb,tf,e1,hb,hf1,hk,q1,q2,q3,_⟩ := krd_task _ _ _ _ _ _ _ _ f1
 obtain ⟨p,pb,iv,qs,e2,hpb,hq,hqs,r0,r1,r2,r3,r4⟩ := krd_pdu _ _ _ _ _ _ _ _ _ _ _ _ f2
 obtain ⟨pa,e3,h3⟩ := f3.u32 Try.underlying45
 refine ⟨⟨ca,t,tb,tf,p,pb,iv,qs,pa⟩,?_,hb,hf1,hk,q1,q2,q3,hpb,hq,hqs,r0,r1,r2,r3,r4,h0,h3⟩
 unfold senc
 simp only
 rw [← e1,← e2]
 simp only [List.cons.injEq,and_true] at e0 e3
 rw [e0,e3]
 rfl
theorem senc_one (w : World) (s : Stp) (h : StpIn w s) (u : Value) (hu : u ∈ senc s) : u.oneCell' = true := by
 obtain ⟨a1,c1,e1,_⟩ := h.tb
 obtain ⟨a2,n2,c2,e2⟩ := h.tf
 obtain ⟨a3,c3,e3,_⟩ := h.pb
 obtain ⟨a4,c4,e4⟩ := h.iv.form
 simp only [senc,tkc,pdc,List.mem_cons,List.mem_append,List.not_mem_nil,or_false,e1,e2,e3,e4] at hu
 rcases hu with rfl | (rfl | rfl | rfl | rfl | rfl | rfl | rfl | rfl) | (rfl | rfl | rfl | rfl | rfl | rfl | rfl | rfl | rfl | rfl | rfl | rfl) | rfl <;> rfl
/-- the steps of a law's argument -/
theorem arg_steps {w : World} {v : Value} (h : Arg Try.prog w 42 v) : ∃ ss : List Stp,SR w v ss.length 22 (ss.flatMap senc) ∧ ∀ s ∈ ss,StpIn w s := by
 obtain ⟨l,h1,_,h3⟩ := sr_of_in senc (StpIn w) 22 216 (fun _ => rfl) (senc_one w) (by decide) Try.kcells_step Try.kbytes_step krd_step (h.slIn Try.underlying42)
 exact ⟨l,h1,h3⟩
def itOf (q : Im × Value) : It := match q.2 with
 |.slice a n c => ⟨q.1.ha,q.1.la,q.1.hi,q.1.lo,a,n,c,q.1.bs⟩
 |_ => ⟨q.1.ha,q.1.la,q.1.hi,q.1.lo,none,0,0,q.1.bs⟩
theorem itOf_eq {w : World} {q : Im × Value} (h : ItIn w q) : itc (itOf q) = ienc q ∧ ItOk w (itOf q) ∧ (itOf q).n = q.1.bs.length := by
 obtain ⟨⟨a,c,e,hc,hb⟩,h1,h2,h3,h4⟩ := h
 obtain ⟨i,v⟩ := q
 simp only at e hb h1 h2 h3 h4
 subst e
 exact ⟨rfl,⟨h1,h2,h3,h4,rfl,hb⟩,rfl⟩
theorem items_flat {w : World} : ∀ {qs : List (Im × Value)},(∀ q ∈ qs,ItIn w q) → (qs.map itOf).flatMap itc = qs.flatMap ienc
 |[],_ => rfl
 |q :: l,h => by
  simp only [List.map_cons,List.flatMap_cons]
  rw [(itOf_eq (h q (by simp))).1,items_flat (fun x hx => h x (by simp [hx]))]
theorem items_of {w : World} {iv : Value} {qs : List (Im × Value)} (h : SR w iv qs.length 5 (qs.flatMap ienc)) (hin : ∀ q ∈ qs,ItIn w q) : Items w iv qs.length (qs.map itOf) :=
 ⟨by simp,by rw [items_flat hin]; exact h,fun t ht => by
  obtain ⟨q,hq,rfl⟩ := List.mem_map.1 ht
  exact (itOf_eq (hin q hq)).2.1⟩
theorem chkIts_zero {k : Int} {L : Nat} : ∀ {l : List It} {last : Nat},chkIts k last L l = 0 → ∀ t ∈ l,sizeI k t.hi t.lo t.n = L ∧ unuI k t.la t.hi t.lo t.n = true
 |[],_,_,t,ht => by cases ht
 |x :: l,last,h,t,ht => by
  unfold chkIts at h
  split at h
  ·rename_i h0
   rcases List.mem_cons.1 ht with rfl | ht
   ·unfold chkIt at h0
    split at h0
    ·simp at h0
    ·split at h0
     ·simp at h0
     ·split at h0
      ·simp at h0
      ·split at h0
       ·simp at h0
       ·rename_i q1 _ _ q2
        exact ⟨Classical.not_not.1 q2,by simpa using q1⟩
   ·exact chkIts_zero h t ht
  ·rename_i h0
   exact absurd h h0
theorem chkL_zero {k : Int} {l : List It} (h : chkL k l = 0) : l ≠ [] ∧ ∀ t ∈ l,t.n ≤ 255 := by
 cases l with
 |nil => cases h
 |cons x r =>
  refine ⟨by simp,fun t ht => ?_⟩
  have h' : (if chkIts k 0 (sizeI k x.hi x.lo x.n) (x :: r) = 0 then (if sizeI k x.hi x.lo x.n ≤ 255 ∧ (x :: r).length ≤ 515 / sizeI k x.hi x.lo x.n then (0 : Int) else 4) else chkIts k 0 (sizeI k x.hi x.lo x.n) (x :: r)) = 0 := h
  by_cases h0 : chkIts k 0 (sizeI k x.hi x.lo x.n) (x :: r) = 0
  ·rw [if_pos h0] at h'
   by_cases h1 : sizeI k x.hi x.lo x.n ≤ 255 ∧ (x :: r).length ≤ 515 / sizeI k x.hi x.lo x.n
   ·obtain ⟨e1,e2⟩ := chkIts_zero h0 t ht
    have hx := h1.1
    rw [← e1] at hx
    unfold sizeI at hx
    unfold unuI at e2
    by_cases h5 : k = 5
    ·rw [if_pos h5] at e2
     simp at e2
     omega
    ·rw [if_neg h5] at hx
     split at hx <;> omega
   ·rw [if_neg h1] at h'
    cases h'
  ·rw [if_neg h0] at h'
   exact absurd h' h0
theorem errC_zero {u : List Nat} {e : Nat → Int} : ∀ {f : Nat},errC u e f = 0 → ∀ j,j < f → u.contains (le (9 - j)) = true → e (9 - j) = 0
 |0,_,j,hj,_ => absurd hj (Nat.not_lt_zero _)
 |f + 1,h,j,hj,hc => by
  unfold errC at h
  by_cases h0 : u.contains (le (9 - f)) = true ∧ e (9 - f) ≠ 0
  ·rw [if_pos h0] at h
   exact absurd h h0.2
  ·rw [if_neg h0] at h
   by_cases hjf : j = f
   ·subst hjf
    exact Classical.not_not.1 fun hne => h0 ⟨hc,hne⟩
   ·exact errC_zero h j (by omega) hc
theorem anyC_false {u : List Nat} {z : Nat → Bool} : ∀ {f : Nat},anyC u z f = false → ∀ j,j < f → u.contains (le (9 - j)) = false → z (9 - j) = true
 |0,_,j,hj,_ => absurd hj (Nat.not_lt_zero _)
 |f + 1,h,j,hj,hc => by
  unfold anyC at h
  rw [Bool.or_eq_false_iff] at h
  by_cases hjf : j = f
  ·subst hjf
   have := h.1
   rw [hc] at this
   simpa using this
  ·exact anyC_false h.2 j (by omega) hc
theorem chk_parts {ki ak : Int} {ha la hi lo : Nat} {of mt co : Int} {cm : Bool} {n m : Nat} {its : List It} (h : chkA ki ak ha la hi lo of mt co cm n m its = 0) :
 ∃ u,fldC ki = some u ∧ (u.contains 73 = true → chkL ki its = 0) ∧ (u.contains 73 = false → m = 0) := by
 unfold chkA at h
 cases hf : fldC ki with
 |none => rw [hf] at h; cases h
 |some u =>
  rw [hf] at h
  refine ⟨u,rfl,fun hc => ?_,fun hc => ?_⟩
  ·by_cases ha' : anyC u (zB ak ha la hi lo of mt co cm n m) 10 = true
   ·simp [ha'] at h
   ·simp [ha'] at h
    exact errC_zero h 0 (by decide) hc
  ·by_cases ha' : anyC u (zB ak ha la hi lo of mt co cm n m) 10 = true
   ·simp [ha'] at h
   ·have h9 : ((m : Int) == 0) = true := anyC_false (by simpa using ha') 0 (by decide) hc
    simpa using h9
theorem fld_list {ki : Int} {u : List Nat} (h : fldC ki = some u) : u.contains 73 = true ↔ (ki = 5 ∨ ki = 9 ∨ ki = 17) := by
 rcases att_kinds ki with rfl | rfl | rfl | rfl | rfl | rfl | rfl | rfl | rfl | rfl | rfl | rfl | rfl | rfl | rfl | rfl | rfl | rfl | rfl | rfl | rfl | rfl | rfl | hne
 case' inr.inr.inr.inr.inr.inr.inr.inr.inr.inr.inr.inr.inr.inr.inr.inr.inr.inr.inr.inr.inr.inr.inr => rw [fldC_none ki hne] at h; cases h
 all_goals (simp [fldC] at h; subst h; decide)
theorem chk_zero {ki ak : Int} {ha la hi lo : Nat} {of mt co : Int} {cm : Bool} {n m : Nat} {its : List It} (hm : its.length = m) (h : chkA ki ak ha la hi lo of mt co cm n m its = 0) :
 (ki = 5 ∨ ki = 9 ∨ ki = 17 → its ≠ []) ∧ ∀ t ∈ its,t.n ≤ 255 := by
 obtain ⟨u,hf,h1,h2⟩ := chk_parts h
 by_cases hk : ki = 5 ∨ ki = 9 ∨ ki = 17
 ·have hz := h1 ((fld_list hf).2 hk)
  exact ⟨fun _ => (chkL_zero hz).1,(chkL_zero hz).2⟩
 ·have hz : m = 0 := h2 (by
   cases hc : u.contains 73 with
   |false => rfl
   |true => exact absurd ((fld_list hf).1 hc) hk)
  have : its = [] := List.eq_nil_of_length_eq_zero (by omega)
  subst this
  exact ⟨fun h => absurd h hk,by simp⟩
end Go.Proofs.Ytldcihjddebciaa
