/- client with a server: the arguments. And what follows it. -/
import Derived.Test.YtldcihjddebciaaGreatVSdG
import Derived.Test.YtldcihjddebciaaGreatVSlArg2
import Derived.Test.YtldcihjddebciaaGreatVSvC
set_option linter.unusedSimpArgs false
set_option linter.unusedVariables false
set_option maxRecDepth 100000
namespace Go.Proofs.YtldcihjddebciaaGreat
open Go.RowKit
theorem Tryz.cells_u8 : Tryz.prog.cellsOf 5 = 1 := by kernel_rfl
theorem Tryz.cells_u16 : Tryz.prog.cellsOf 23 = 1 := by kernel_rfl
theorem Tryz.cells_u64 : Tryz.prog.cellsOf 24 = 1 := by kernel_rfl
theorem Tryz.cells_int : Tryz.prog.cellsOf 3 = 1 := by kernel_rfl
theorem Tryz.cells_uuid : Tryz.prog.cellsOf 26 = 2 := by kernel_rfl
theorem rd_uuid {w : World} {cs : List Value} (h : Rd Tryz.prog w 26 cs) : ∃ hi lo : Int,cs = [.int .u64 hi,.int .u64 lo] := by
 obtain ⟨hl,hf⟩ := h.struct Tryz.underlying26
 rw [Tryz.cells_uuid] at hl
 obtain ⟨c0,c1,rfl⟩ := list2 cs hl
 have f0 : Rd Tryz.prog w 24 (([c0,c1].drop 0).take (Tryz.prog.cellsOf 24)) := hf 0 _ rfl
 have f1 : Rd Tryz.prog w 24 (([c0,c1].drop 1).take (Tryz.prog.cellsOf 24)) := hf 1 _ rfl
 simp only [Tryz.cells_u64,List.drop_succ_cons,List.drop_zero,List.take_succ_cons,List.take_zero] at f0 f1
 obtain ⟨x,e0,_⟩ := f0.u64 Tryz.underlying24
 obtain ⟨y,e1,_⟩ := f1.u64 Tryz.underlying24
 simp only [List.cons.injEq,and_true] at e0 e1
 subst e0 e1
 exact ⟨_,_,rfl⟩
theorem in_cap {P : Program} {w : World} {e : TypeId} {v : Value} (h : SlIn P w e v) : ∃ a n c,v = .slice a n c ∧ n ≤ c := by
 rcases h with rfl | ⟨a,len,cap,rfl,hle,_⟩
 ·exact ⟨_,_,_,rfl,Nat.le_refl _⟩
 ·exact ⟨_,_,_,rfl,hle⟩
theorem Tryz.cells_at : Tryz.prog.cellsOf 29 = 5 := by kernel_rfl
theorem Tryz.bytes_at : Tryz.prog.bytesOf 29 = 56 := by kernel_rfl
theorem Tryz.cells_bts : Tryz.prog.cellsOf 27 = 1 := by kernel_rfl
theorem Tryz.bytes_u8 : Tryz.prog.bytesOf 5 = 1 := by kernel_rfl
theorem rd_bts {w : World} {v : Value} (h : Rd Tryz.prog w 27 [v]) : ∃ bs a n c,v = .slice a n c ∧ n ≤ c ∧ bs.length = n ∧ BytesAt w (.slice a n c) bs := by
 obtain ⟨u,e,hs⟩ := h.slIn Tryz.underlying27
 simp only [List.cons.injEq,and_true] at e
 subst e
 obtain ⟨bs,hb⟩ := bytes_of_in Tryz.underlying5 Tryz.cells_u8 Tryz.bytes_u8 hs
 obtain ⟨a,n,c,rfl,hc⟩ := in_cap hs
 obtain ⟨a',c',e⟩ := hb.1.val
 cases e
 exact ⟨bs,_,_,_,rfl,hc,rfl,hb⟩
theorem rd_at {w : World} (cs : List Value) (h : Rd Tryz.prog w 29 cs) : ∃ (t : At) (a : Option Addr) (c : Nat),cs = [.int .u16 t.ha,.int .u64 t.hi,.int .u64 t.lo,.int .i64 t.pe,.slice a t.bs.length c] ∧ t.bs.length ≤ c ∧ BytesAt w (.slice a t.bs.length c) t.bs := by
 obtain ⟨hl,hf⟩ := h.struct Tryz.underlying29
 rw [Tryz.cells_at] at hl
 obtain ⟨c0,c1,c2,c3,c4,rfl⟩ : ∃ c0 c1 c2 c3 c4,cs = [c0,c1,c2,c3,c4] := by
  match cs,hl with
  |[c0,c1,c2,c3,c4],_ => exact ⟨c0,c1,c2,c3,c4,rfl⟩
 have f0 : Rd Tryz.prog w 23 (([c0,c1,c2,c3,c4].drop 0).take (Tryz.prog.cellsOf 23)) := hf 0 _ rfl
 have f1 : Rd Tryz.prog w 26 (([c0,c1,c2,c3,c4].drop 1).take (Tryz.prog.cellsOf 26)) := hf 1 _ rfl
 have f2 : Rd Tryz.prog w 3 (([c0,c1,c2,c3,c4].drop 3).take (Tryz.prog.cellsOf 3)) := hf 2 _ rfl
 have f3 : Rd Tryz.prog w 27 (([c0,c1,c2,c3,c4].drop 4).take (Tryz.prog.cellsOf 27)) := hf 3 _ rfl
 simp only [Tryz.cells_u16,Tryz.cells_int,Tryz.cells_uuid,Tryz.cells_bts,List.drop_succ_cons,List.drop_zero,List.take_succ_cons,List.take_zero] at f0 f1 f2 f3
 obtain ⟨x0,e0,_⟩ := f0.u16 Tryz.underlying23
 obtain ⟨hi,lo,e1⟩ := rd_uuid f1
 obtain ⟨x2,e2,_⟩ := f2.i64 Tryz.underlying3
 obtain ⟨bs,a,n,c,rfl,hc,rfl,hb⟩ := rd_bts f3
 simp only [List.cons.injEq,and_true] at e0 e1 e2
 obtain ⟨e1,e3⟩ := e1
 subst e0 e1 e2 e3
 exact ⟨⟨_,_,_,_,bs⟩,a,c,rfl,hc,hb⟩
theorem arg_dbr {w : World} {v : Value} (h : Arg Tryz.prog w 22 v) : ∃ db,DbR w v db := by
 obtain ⟨l,h1,h2,h3⟩ := sr_of_in (α := At × Option Addr × Nat) (fun x => [.int .u16 x.1.ha,.int .u64 x.1.hi,.int .u64 x.1.lo,.int .i64 x.1.pe,.slice x.2.1 x.1.bs.length x.2.2]) (fun x => x.1.bs.length ≤ x.2.2 ∧ BytesAt w (.slice x.2.1 x.1.bs.length x.2.2) x.1.bs) 5 56 (fun _ => rfl)
  (fun x _ u hu => by simp at hu; rcases hu with rfl | rfl | rfl | rfl | rfl <;> rfl) (by decide) Tryz.cells_at Tryz.bytes_at (fun cs hcs => by obtain ⟨t,a,c,e,hc,hb⟩ := rd_at cs hcs; exact ⟨(t,a,c),e,hc,hb⟩) (h.slIn Tryz.underlying22)
 refine ⟨l.map (·.1),l.map (fun x => (x.1,.slice x.2.1 x.1.bs.length x.2.2)),by simp,?_,fun q hq => ?_⟩
 ·rw [List.length_map,List.flatMap_map]
  exact h1
 ·obtain ⟨x,hx,rfl⟩ := List.mem_map.1 hq
  show BV w (.slice x.2.1 x.1.bs.length x.2.2) x.1.bs
  exact ⟨x.2.1,x.2.2,rfl,(h3 x hx).1,(h3 x hx).2⟩
theorem arg_bts {w : World} {v : Value} (h : Arg Tryz.prog w 27 v) : ∃ bs,BV w v bs := by
 have hs := h.slIn Tryz.underlying27
 obtain ⟨bs,hb⟩ := bytes_of_in Tryz.underlying5 Tryz.cells_u8 Tryz.bytes_u8 hs
 obtain ⟨a,n,c,rfl,hc⟩ := in_cap hs
 obtain ⟨a',c',e⟩ := hb.1.val
 cases e
 exact ⟨bs,a,c,rfl,hc,hb⟩
/-- a task that is started by a client that waits for nothing -/
theorem start_own (mx : Int) (t : Tk) (p : Pd) (hk : 1 ≤ t.kd ∧ t.kd ≤ 9) (hc : chkP t = 0) (hf2 : firstP (idle mx mx 0) (ownP t) = some p) :
 (startP (idle mx mx 0) t 0).2 = 0 ∧ (startP (idle mx mx 0) t 0).1.c = act mx mx 0 (ownP t) p ∧ (startP (idle mx mx 0) t 0).1.ps = [p] := by
 unfold startP
 rw [if_neg (by simp [idle]),if_neg (fun h => h hk),if_neg (fun h => h hc),if_pos (by simp [idle])]
 unfold Sp.begin
 simp only [hf2]
 refine ⟨?_,?_,?_⟩ <;> first | trivial | rfl
theorem run_long (db : List At) (mx : Int) (ha : Nat) (h0 : ha ≠ 0) (hi : findN db ha < db.length) (hr : rdB (atI db (findN db ha)) = true) (hp : plainA (atI db (findN db ha))) (hV : (atI db (findN db ha)).bs.length ≤ 512) :
 ∃ c1 q,(startP (idle mx mx 0) { tk0 with kd := 6,ha := ha } 0).2 = 0 ∧ (startP (idle mx mx 0) { tk0 with kd := 6,ha := ha } 0).1.c = c1 ∧ (startP (idle mx mx 0) { tk0 with kd := 6,ha := ha } 0).1.ps = [q] ∧ Play 3000 c1 ⟨db,mx,mx,[]⟩ q ⟨3,6,ha,(atI db (findN db ha)).bs,[],0⟩ (idle mx mx 0) ⟨db,mx,mx,[]⟩ := by
 have hs := start_own mx { tk0 with kd := 6,ha := ha } (rqL ha 0) (by simp) (by simp [chkP,h0]) rfl
 refine ⟨_,_,hs.1,hs.2.1,hs.2.2,?_⟩
 have h := play_long ⟨db,mx,mx,[]⟩ mx ha hi hr hp hV rfl 512 0 (Nat.zero_le _) (by omega)
 exact h.mono (by omega)
theorem run_refused (db : List At) (mx : Int) (ha : Nat) (vs : List Nat) (kd : Int) (hkd : kd = 7 ∨ kd = 8) (h0 : ha ≠ 0) (hi : findN db ha < db.length) (hw : wrB (atI db (findN db ha)) = false) (hp : plainA (atI db (findN db ha))) (hV : vs.length ≤ 512) :
 ∃ c1 q,(startP (idle mx mx 0) { tk0 with kd := kd,ha := ha,vs := vs } 0).2 = 0 ∧ (startP (idle mx mx 0) { tk0 with kd := kd,ha := ha,vs := vs } 0).1.c = c1 ∧ (startP (idle mx mx 0) { tk0 with kd := kd,ha := ha,vs := vs } 0).1.ps = [q] ∧ Play 3000 c1 ⟨db,mx,mx,[]⟩ q ⟨5,kd,ha,[],[],3⟩ (idle mx mx 0) ⟨db,mx,mx,[]⟩ := by
 have hpc := piece_rq mx kd ha 0 vs
 have hcl : ((vs.drop 0).take (roomN 22 mx)).length ≤ 512 := by rw [List.length_take,List.length_drop]; omega
 rcases hkd with rfl | rfl
 ·by_cases h18 : (vs.length : Int) ≤ roomI 18 mx
  ·have hs := start_own mx { tk0 with kd := 7,ha := ha,vs := vs } { pd0 with kd := 18,ha := ha,vs := vs } (by simp) (by simp [chkP,h0]; omega) (by simp [firstP,ownP,idle,h18])
   refine ⟨_,_,hs.1,hs.2.1,hs.2.2,?_⟩
   exact (play_refused ⟨db,mx,mx,[]⟩ mx ha vs 7 (.inl rfl) { pd0 with kd := 18,ha := ha,vs := vs } (.inl rfl) rfl rfl hV hi hw hp hV rfl).mono (by omega)
  ·have hf : firstP (idle mx mx 0) (ownP { tk0 with kd := 7,ha := ha,vs := vs }) = some (rqP ha 0 (roomN 22 mx) vs) := by
    rw [← hpc]
    simp [firstP,ownP,idle,h18,tkW]
    rfl
   have hs := start_own mx { tk0 with kd := 7,ha := ha,vs := vs } (rqP ha 0 (roomN 22 mx) vs) (by simp) (by simp [chkP,h0]; omega) hf
   refine ⟨_,_,hs.1,hs.2.1,hs.2.2,?_⟩
   exact (play_refused ⟨db,mx,mx,[]⟩ mx ha vs 7 (.inl rfl) (rqP ha 0 (roomN 22 mx) vs) (.inr rfl) rfl rfl hcl hi hw hp hV rfl).mono (by omega)
 ·have hf : firstP (idle mx mx 0) (ownP { tk0 with kd := 8,ha := ha,vs := vs }) = some (rqP ha 0 (roomN 22 mx) vs) := by
   rw [← hpc]
   simp [firstP,ownP,idle,tkW]
   rfl
  have hs := start_own mx { tk0 with kd := 8,ha := ha,vs := vs } (rqP ha 0 (roomN 22 mx) vs) (by simp) (by simp [chkP,h0]; omega) hf
  refine ⟨_,_,hs.1,hs.2.1,hs.2.2,?_⟩
  exact (play_refused ⟨db,mx,mx,[]⟩ mx ha vs 8 (.inr rfl) (rqP ha 0 (roomN 22 mx) vs) (.inr rfl) rfl rfl hcl hi hw hp hV rfl).mono (by omega)
theorem run_write (db : List At) (mx : Int) (ha : Nat) (vs : List Nat) (kd : Int) (hkd : kd = 7 ∨ kd = 8) (h0 : ha ≠ 0) (hi : findN db ha < db.length) (hw : wrB (atI db (findN db ha)) = true) (hp : plainA (atI db (findN db ha))) (hV : vs.length ≤ 512) (hR : vs.length ≤ 16 * roomN 22 mx) :
 ∃ c1 q,(startP (idle mx mx 0) { tk0 with kd := kd,ha := ha,vs := vs } 0).2 = 0 ∧ (startP (idle mx mx 0) { tk0 with kd := kd,ha := ha,vs := vs } 0).1.c = c1 ∧ (startP (idle mx mx 0) { tk0 with kd := kd,ha := ha,vs := vs } 0).1.ps = [q] ∧ Play 3000 c1 ⟨db,mx,mx,[]⟩ q ⟨4,kd,ha,[],[],0⟩ (idle mx mx 0) ⟨putA db (findN db ha) vs,mx,mx,[]⟩ := by
 have hpc := piece_rq mx kd ha 0 vs
 have hpl : ∀ kd : Int,Play 18 (act mx mx 0 (tkW kd ha vs 0) (rqP ha 0 (roomN 22 mx) vs)) ⟨db,mx,mx,[]⟩ (rqP ha 0 (roomN 22 mx) vs) ⟨4,kd,ha,[],[],0⟩ (idle mx mx 0) ⟨putA db (findN db ha) vs,mx,mx,[]⟩ := fun kd => by
  have h := play_prep mx mx mx ha vs kd db hi hw hp hV hR 16 0 [] rfl rfl (.inl rfl) (fun x hx => by cases hx) rfl
  rw [Nat.zero_mul] at h
  exact h
 rcases hkd with rfl | rfl
 ·by_cases h18 : (vs.length : Int) ≤ roomI 18 mx
  ·have hs := start_own mx { tk0 with kd := 7,ha := ha,vs := vs } { pd0 with kd := 18,ha := ha,vs := vs } (by simp) (by simp [chkP,h0]; omega) (by simp [firstP,ownP,idle,h18])
   refine ⟨_,_,hs.1,hs.2.1,hs.2.2,?_⟩
   exact (play_write ⟨db,mx,mx,[]⟩ mx ha vs hi hw hp hV rfl).mono (by omega)
  ·have hf : firstP (idle mx mx 0) (ownP { tk0 with kd := 7,ha := ha,vs := vs }) = some (rqP ha 0 (roomN 22 mx) vs) := by
    rw [← hpc]
    simp [firstP,ownP,idle,h18,tkW]
    rfl
   have hs := start_own mx { tk0 with kd := 7,ha := ha,vs := vs } (rqP ha 0 (roomN 22 mx) vs) (by simp) (by simp [chkP,h0]; omega) hf
   refine ⟨_,_,hs.1,hs.2.1,hs.2.2,?_⟩
   exact (hpl 7).mono (by omega)
 ·have hf : firstP (idle mx mx 0) (ownP { tk0 with kd := 8,ha := ha,vs := vs }) = some (rqP ha 0 (roomN 22 mx) vs) := by
   rw [← hpc]
   simp [firstP,ownP,idle,tkW]
   rfl
  have hs := start_own mx { tk0 with kd := 8,ha := ha,vs := vs } (rqP ha 0 (roomN 22 mx) vs) (by simp) (by simp [chkP,h0]; omega) hf
  refine ⟨_,_,hs.1,hs.2.1,hs.2.2,?_⟩
  exact (hpl 8).mono (by omega)
end Go.Proofs.YtldcihjddebciaaGreat
