/- server: an attribute by its handle, by the database's reference. And what follows it. -/
import Derived.Test.YtldcihjddebciaaGreatVSdC
import Derived.Test.YtldcihjddebciaaGreatVClX
import Derived.Test.YtldcihjddebciaaGreatVClZ
import Derived.Deep.OwnRows
set_option linter.unusedSimpArgs false
set_option linter.unusedVariables false
set_option maxRecDepth 100000
set_option maxHeartbeats 4000000
namespace Go.Proofs.YtldcihjddebciaaGreat
open Go.RowKit
def fI (db : List At) (h : Int) : Int := if findN db h < db.length then (findN db h : Nat) else -1
theorem findN_hit {db : List At} {h : Int} {k : Nat} (hk : k < db.length) (hn : ∀ j,j < k → (atI db j).ha ≠ h) (hh : (atI db k).ha = h) : findN db h = k := by
 unfold findN
 rw [List.findIdx_eq hk]
 refine ⟨by rw [atI_get hk,hh]; simp,fun j hj => ?_⟩
 rw [atI_get (by omega),beq_eq_false_iff_ne]
 exact hn j hj
theorem findN_miss {db : List At} {h : Int} (hn : ∀ j,j < db.length → (atI db j).ha ≠ h) : findN db h = db.length := by
 unfold findN
 rw [List.findIdx_eq_length]
 intro x hx
 obtain ⟨j,hj,rfl⟩ := List.getElem_of_mem hx
 rw [atI_get hj,beq_eq_false_iff_ne]
 exact hn j hj
theorem find_any (a : Option Addr) (n c : Nat) (db : List At) (H : Int) (w : World) (h : Dbs w (.slice a n c) db) (hn : db.length = n) (hm : n ≤ 1000) :
 Calls Tryz.prog 10 #[.slice a n c,.int .u16 H] w fun e w' => e = .returned (.int .i64 (fI db H)) ∧ w = w' := by
 have HD := Lib.hid h
 have HN := Lib.hid hn
 obtain ⟨R,hR⟩ : ∃ R,fI db H = R := ⟨_,rfl⟩
 rw [hR]
 have HR := Lib.hid hR
 clear h hn hR
 go_enter Tryz.func10,Tryz.ntmps10
 go_wp2
 go_loop [5] (fun v => ∃ k : Nat,v = .int .i64 k ∧ k ≤ n ∧ Hid (∀ j,j < k → (atI db j).ha ≠ H)) (fun v => n - (intOf v).toNat)
 case atStart => exact ⟨0,by simp,Nat.zero_le _,fun j h => by omega⟩
 case round =>
  obtain ⟨k,rfl,hk,hno⟩ := hrel
  by_cases hlt : k < n
  ·have g2 : decide (k < n) = true := by simpa using hlt
   have g2i : decide ((k : Int) < (n : Int)) = true := by simp; omega
   obtain ⟨b,off,rfl,hb,hat⟩ := HD.out.at HN.out (by omega)
   obtain ⟨ra,rc,d0,d1,d2,d3,d4,_,_⟩ := hat k hlt
   obtain ⟨HA,hHA⟩ : ∃ x,(atI db k).ha = x := ⟨_,rfl⟩
   rw [hHA] at d0
   have HHA := Lib.hid hHA
   have hi0 : (0 : Int) ≤ (k : Int) := by omega
   have hi1 : (k : Int) < (n : Int) := by omega
   clear hat d1 d2 d3 d4 hHA
   by_cases c1 : HA = H
   ·have t1 : (HA == H) = true := by simpa using c1
    have hfi : R = (k : Int) := by
     have := findN_hit (db := db) (h := H) (by rw [HN.out]; exact hlt) hno.out (by rw [HHA.out]; exact c1)
     rw [← HR.out]
     unfold fI
     rw [this,if_pos (by rw [HN.out]; exact hlt)]
    have HFI := Lib.hid hfi
    clear c1 hfi hno
    go_wp2
    go_ret
    exact ⟨ret_eq (by rw [HFI.out]),rfl⟩
   ·have t1 : (HA == H) = false := by simpa using c1
    have hno2 : Hid (∀ j,j < k + 1 → (atI db j).ha ≠ H) := Lib.hid (fun j hj => by
     by_cases c : j = k
     ·rw [c,HHA.out]; exact c1
     ·exact hno.out j (by omega))
    clear c1 hno
    go_wp2
    go_round
    case rel => exact ⟨k + 1,by go_num,by omega,hno2⟩
    case measure => simp [intOf]; omega
  ·have ek : k = n := by omega
   have g2 : decide (k < n) = false := by simpa using hlt
   have g2i : decide ((k : Int) < (n : Int)) = false := by simp; omega
   have hfi : R = -1 := by
    have := findN_miss (db := db) (h := H) (by rw [HN.out,← ek]; exact hno.out)
    rw [← HR.out]
    unfold fI
    rw [this,if_neg (by omega)]
   have HFI := Lib.hid hfi
   clear hfi hno ek hlt
   go_wp2
   go_ret
   exact ⟨ret_eq (by rw [HFI.out]),rfl⟩
/-- cells among which no bytes lie, and nothing found -/
structure Nob (cs : List Value) : Prop where
 u8 : ∀ (off : Nat) (x : Int),cs[off]? ≠ some (Value.int .u8 x)
 fd : ∀ (off : Nat) (a b c d : Int),cs[off]? = some (Value.int .u16 a) → cs[off + 1]? = some (Value.int .u16 b) → cs[off + 2]? = some (Value.int .u16 c) → cs[off + 3]? = some (Value.int .i64 d) → False
theorem BV.notc {w w' : World} {v : Value} {bs : List Nat} {rb : Nat} {t : TypeId} {zs : List Value} (h : BV w v bs) (hn : Nob zs) (hz : Blk w rb t zs) (hg : w.grownBy w' (some rb)) : BV w' v bs := by
 by_cases h0 : bs.length = 0
 ·refine h.with ?_
  have h1 := h.sr
  rw [h0] at h1 ⊢
  have e : bs = [] := List.eq_nil_of_length_eq_zero h0
  subst e
  exact h1.empty
 ·refine h.with (h.sr.grown hg ?_)
  obtain ⟨_,_,_,ao,cap,rfl,_,h4⟩ := h.sr
  obtain ⟨b,off,rfl,_,hc⟩ := h4 (by omega)
  refine .inr ⟨b,rfl,fun e => ?_⟩
  injection e with e
  subst e
  cases bs with
  |nil => simp at h0
  |cons x r =>
   have h6 := hc 0 (.int .u8 (x : Int)) rfl
   rw [hz.at?] at h6
   exact hn.u8 _ _ h6
theorem FdV.notc {w w' : World} {v : Value} {l : List Fd} {rb : Nat} {t : TypeId} {zs : List Value} (h : FdV w v l) (hn : Nob zs) (hz : Blk w rb t zs) (hg : w.grownBy w' (some rb)) : FdV w' v l := by
 by_cases h0 : l.length = 0
 ·have e : l = [] := List.eq_nil_of_length_eq_zero h0
  subst e
  exact SR.empty h
 ·refine SR.grown h hg ?_
  obtain ⟨_,_,_,ao,cap,rfl,_,h4⟩ := h
  obtain ⟨b,off,rfl,_,hc⟩ := h4 (by omega)
  refine .inr ⟨b,rfl,fun e => ?_⟩
  injection e with e
  subst e
  cases l with
  |nil => simp at h0
  |cons x r =>
   have h5 := hc 0 (.int .u16 x.ha) rfl
   have h6 := hc 1 (.int .u16 x.la) rfl
   have h7 := hc 2 (.int .u16 x.va) rfl
   have h8 := hc 3 (.int .i64 x.pr) rfl
   rw [hz.at?] at h5 h6 h7 h8
   exact hn.fd _ _ _ _ _ h5 h6 h7 h8
theorem SR.off {w w' : World} {v : Value} {n size : Nat} {cs : List Value} {rb : Nat} (h : SR w v n size cs) (ho : n = 0 ∨ Off rb v) (hg : w.grownBy w' (some rb)) : SR w' v n size cs := by
 rcases ho with h0 | ho
 ·subst h0
  exact h.empty
 ·by_cases hn : n = 0
  ·subst hn
   exact h.empty
  ·rcases h.lies with h0 | ⟨b,hb,_⟩
   ·exact absurd h0 hn
   ·exact h.grown hg (.inr ⟨b,hb,fun e => ho b hb (by injection e with e; exact e.symm)⟩)
/-- a client stays as it is when a block is written among whose cells no bytes lie, if its waiting row lies elsewhere -/
theorem ClV.kept {w w' : World} {v : Value} {c : Cl} {rb : Nat} {t : TypeId} {zs : List Value} (h : ClV w v c) (hn : Nob zs) (hz : Blk w rb t zs) (hg : w.grownBy w' (some rb)) (ho : WOff rb v c) : ClV w' v c := by
 obtain ⟨b1,f1,a1,i1,w1,rfl,h1,h2,h3,h4,qs,h5,h6,h7⟩ := h
 have hl : qs.length = c.wt.length := by rw [← h5]; simp
 exact ⟨b1,f1,a1,i1,w1,rfl,h1.notc hn hz hg,h2.notc hn hz hg,h3.notc hn hz hg,h4.empty,qs,h5,h6.off (by rw [hl]; exact ho _ rfl w1 rfl) hg,fun q hq => ⟨(h7 q hq).1.notc hn hz hg,(h7 q hq).2⟩⟩
theorem PsV.kept {w w' : World} {v : Value} {ps : List Pd} {rb : Nat} {t : TypeId} {zs : List Value} (h : PsV w v ps) (hn : Nob zs) (hz : Blk w rb t zs) (hg : w.grownBy w' (some rb)) (ho : ps.length = 0 ∨ Off rb v) : PsV w' v ps := by
 obtain ⟨qs,h1,h2,h3⟩ := h
 have hl : qs.length = ps.length := by rw [← h1]; simp
 exact ⟨qs,h1,h2.off (by rw [hl]; exact ho) hg,fun q hq => ⟨(h3 q hq).1.notc hn hz hg,(h3 q hq).2.empty⟩⟩
theorem RsV.kept {w w' : World} {v : Value} {us : List Rs} {rb : Nat} {t : TypeId} {zs : List Value} (h : RsV w v us) (hn : Nob zs) (hz : Blk w rb t zs) (hg : w.grownBy w' (some rb)) (ho : us.length = 0 ∨ Off rb v) : RsV w' v us := by
 obtain ⟨qs,h1,h2,h3⟩ := h
 have hl : qs.length = us.length := by rw [← h1]; simp
 exact ⟨qs,h1,h2.off (by rw [hl]; exact ho) hg,fun q hq => ⟨(h3 q hq).1.notc hn hz hg,(h3 q hq).2.notc hn hz hg⟩⟩
/-- the values of a client -/
structure Cv where
 bv : Value
 fv : Value
 ab : Value
 ai : Value
 wv : Value
 qs : List (Tk × Value)
def Cv.cells (k : Cv) (c : Cl) : List Value := clc c k.bv k.fv k.ab k.ai k.wv
theorem over_pre : ∀ (vs pre zs : List Value),zs.length = vs.length → over pre.length vs (pre ++ zs) = pre ++ vs
 |[],pre,zs,h => by
  have h0 : zs = [] := List.eq_nil_of_length_eq_zero (by simpa using h)
  simp [over,h0]
 |v :: vs,pre,[],h => by simp at h
 |v :: vs,pre,z :: zs,h => by
  have h1 := over_pre vs (pre ++ [v]) zs (by simpa using h)
  simp only [List.length_append,List.length_cons,List.length_nil,Nat.zero_add,List.append_assoc,List.cons_append,List.nil_append] at h1
  simp only [over]
  rw [show (pre ++ z :: zs).set pre.length v = pre ++ v :: zs by simp]
  exact h1
/-- a whole block is written -/
theorem Blk.putAll {w : World} {b : Nat} {t : TypeId} {zs vs : List Value} (h : Blk w b t zs) (hl : zs.length = vs.length) : Blk (w.setCells b 0 vs) b t vs := by
 have h1 := h.setCells (vs := vs) (o := 0)
 have h2 := over_pre vs [] zs hl
 simp only [List.length_nil,List.nil_append] at h2
 rw [h2] at h1
 exact h1
theorem sr_rows {α : Type} {w : World} {v : Value} {size : Nat} (enc : α → List Value) (he : ∀ q,(enc q).length = size) {qs : List α} (h : SR w v qs.length size (qs.flatMap enc)) (h0 : 0 < qs.length) :
 ∃ b off cap,v = .slice (some ⟨b,off,none⟩) qs.length cap ∧ ∀ k q,qs[k]? = some q → w.rangeAt b (off + k * size) (enc q) := by
 obtain ⟨_,_,_,ao,cap,rfl,_,h4⟩ := h
 obtain ⟨b,off,rfl,_,hc⟩ := h4 h0
 refine ⟨b,off,cap,rfl,fun k q hq j u hj => ?_⟩
 have hk := (List.getElem?_eq_some_iff.1 hq).1
 have hj5 : j < size := by rw [← he q]; exact (List.getElem?_eq_some_iff.1 hj).1
 rw [Nat.add_assoc]
 refine hc _ u ?_
 have h1 := flat_get enc size he qs k j hk hj5
 rw [(List.getElem?_eq_some_iff.1 hq).2] at h1
 exact h1.trans hj
/-- a load of a whole struct that is guarded -/
theorem wpList_load_midG {P : Program} {ops : Array Oper} {rest : List Oper} {op : Oper} {a : Act} {w : World} {Q : Exit → Act → World → Prop} (hw : Region.wanted op (yielded ops a.tmps) = true) (ty : TypeId) (x : Operand) (ho : op.op = .load ty x)
 (b o : Nat) (hx : a.eval x = .pointer (some ⟨b,o,none⟩)) (cs : List Value) (d : TypeDesc) (hc : w.rangeAt b o cs) (hu : P.underlying ty = some d) (hd : d.isRow = true) (hi : (P.info? ty).map (·.size) = some cs.length)
 (h : wpList P ops Q rest (a.put op.dst (.agg cs.toArray)) w) : wpList P ops Q (op :: rest) a w := by
 simp only [wpList,hw,if_true]
 exact .inl (wp_load_mid ty x ho b o hx cs d hc hu hd hi h)
theorem range_keep {w w' : World} {b o : Nat} {cs : List Value} (h : w.rangeAt b o cs) (hb : Below w.heap.size w w') : w'.rangeAt b o cs := fun j v hv => kc (h j v hv) hb
theorem put_namedB {w w5 : World} {b : Nat} {t : TypeId} {zs vs : List Value} (h : Blk w b t zs) (hX : w.setCells b 0 vs = w5) (hl : zs.length = vs.length) : w.grownBy w5 (some b) ∧ Blk w5 b t vs := by
 subst hX
 exact ⟨setCells_grown b vs 0 w,h.putAll hl⟩
end Go.Proofs.YtldcihjddebciaaGreat
