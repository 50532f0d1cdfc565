/- client: what lies apart from a block that holds a client or a PDU, by content: bytes, what was found. And what follows it. -/
import Derived.Test.YtldcihjddebciaaGreatDClX
import Derived.Test.YtldcihjddebciaaGreatDClZ
import Derived.Deep.OwnRows
import Derived.Test.YtldcihjddebciaaGreatDSdD
set_option linter.unusedSimpArgs false
set_option linter.unusedVariables false
set_option maxRecDepth 100000
set_option maxHeartbeats 4000000
namespace Go.Proofs.YtldcihjddebciaaGreat
open Go.RowKit
/-- cells among which no bytes lie, and nothing found -/
structure Nob (cs : List Value) : Prop where
 u8 : ∀ (off : Nat) (x : Int),cs[off]? ≠ some (Value.int .u8 x)
 fd : ∀ (off : Nat) (a b c d : Int),cs[off]? = some (Value.int .u16 a) → cs[off + 1]? = some (Value.int .u16 b) → cs[off + 2]? = some (Value.int .u16 c) → cs[off + 3]? = some (Value.int .i64 d) → False
theorem BV.notc {w w' : World} {v : Value} {bs : List Nat} {rb : Nat} {t : TypeId} {zs : List Value} (h : BV w v bs) (hn : Nob zs) (hz : Blk w rb t zs) (hg : w.grownBy w' (some rb)) : BV w' v bs := by
 by_cases h0 : bs.length = 0
 ·refine h.with ?_
  have h1 := h.sr
  rw [h0] at h1 ⊢
  have e : bs = [] := List.eq_nil_of_length_eq_zero h0
  subst e
  exact h1.empty
 ·refine h.with (h.sr.grown hg ?_)
  obtain ⟨_,_,_,ao,cap,rfl,_,h4⟩ := h.sr
  obtain ⟨b,off,rfl,_,hc⟩ := h4 (by omega)
  refine .inr ⟨b,rfl,fun e => ?_⟩
  injection e with e
  subst e
  cases bs with
  |nil => simp at h0
  |cons x r =>
   have h6 := hc 0 (.int .u8 (x : Int)) rfl
   rw [hz.at?] at h6
   exact hn.u8 _ _ h6
theorem FdV.notc {w w' : World} {v : Value} {l : List Fd} {rb : Nat} {t : TypeId} {zs : List Value} (h : FdV w v l) (hn : Nob zs) (hz : Blk w rb t zs) (hg : w.grownBy w' (some rb)) : FdV w' v l := by
 by_cases h0 : l.length = 0
 ·have e : l = [] := List.eq_nil_of_length_eq_zero h0
  subst e
  exact SR.empty h
 ·refine SR.grown h hg ?_
  obtain ⟨_,_,_,ao,cap,rfl,_,h4⟩ := h
  obtain ⟨b,off,rfl,_,hc⟩ := h4 (by omega)
  refine .inr ⟨b,rfl,fun e => ?_⟩
  injection e with e
  subst e
  cases l with
  |nil => simp at h0
  |cons x r =>
   have h5 := hc 0 (.int .u16 x.ha) rfl
   have h6 := hc 1 (.int .u16 x.la) rfl
   have h7 := hc 2 (.int .u16 x.va) rfl
   have h8 := hc 3 (.int .i64 x.pr) rfl
   rw [hz.at?] at h5 h6 h7 h8
   exact hn.fd _ _ _ _ _ h5 h6 h7 h8
theorem SR.off {w w' : World} {v : Value} {n size : Nat} {cs : List Value} {rb : Nat} (h : SR w v n size cs) (ho : n = 0 ∨ Off rb v) (hg : w.grownBy w' (some rb)) : SR w' v n size cs := by
 rcases ho with h0 | ho
 ·subst h0
  exact h.empty
 ·by_cases hn : n = 0
  ·subst hn
   exact h.empty
  ·rcases h.lies with h0 | ⟨b,hb,_⟩
   ·exact absurd h0 hn
   ·exact h.grown hg (.inr ⟨b,hb,fun e => ho b hb (by injection e with e; exact e.symm)⟩)
/-- a client stays as it is when a block is written among whose cells no bytes lie, if its waiting row lies elsewhere -/
theorem ClV.kept {w w' : World} {v : Value} {c : Cl} {rb : Nat} {t : TypeId} {zs : List Value} (h : ClV w v c) (hn : Nob zs) (hz : Blk w rb t zs) (hg : w.grownBy w' (some rb)) (ho : WOff rb v c) : ClV w' v c := by
 obtain ⟨b1,f1,a1,i1,w1,rfl,h1,h2,h3,h4,qs,h5,h6,h7⟩ := h
 have hl : qs.length = c.wt.length := by rw [← h5]; simp
 exact ⟨b1,f1,a1,i1,w1,rfl,h1.notc hn hz hg,h2.notc hn hz hg,h3.notc hn hz hg,h4.empty,qs,h5,h6.off (by rw [hl]; exact ho _ rfl w1 rfl) hg,fun q hq => ⟨(h7 q hq).1.notc hn hz hg,(h7 q hq).2⟩⟩
theorem PsV.kept {w w' : World} {v : Value} {ps : List Pd} {rb : Nat} {t : TypeId} {zs : List Value} (h : PsV w v ps) (hn : Nob zs) (hz : Blk w rb t zs) (hg : w.grownBy w' (some rb)) (ho : ps.length = 0 ∨ Off rb v) : PsV w' v ps := by
 obtain ⟨qs,h1,h2,h3⟩ := h
 have hl : qs.length = ps.length := by rw [← h1]; simp
 exact ⟨qs,h1,h2.off (by rw [hl]; exact ho) hg,fun q hq => ⟨(h3 q hq).1.notc hn hz hg,(h3 q hq).2.empty⟩⟩
theorem RsV.kept {w w' : World} {v : Value} {us : List Rs} {rb : Nat} {t : TypeId} {zs : List Value} (h : RsV w v us) (hn : Nob zs) (hz : Blk w rb t zs) (hg : w.grownBy w' (some rb)) (ho : us.length = 0 ∨ Off rb v) : RsV w' v us := by
 obtain ⟨qs,h1,h2,h3⟩ := h
 have hl : qs.length = us.length := by rw [← h1]; simp
 exact ⟨qs,h1,h2.off (by rw [hl]; exact ho) hg,fun q hq => ⟨(h3 q hq).1.notc hn hz hg,(h3 q hq).2.notc hn hz hg⟩⟩
/-- the values of a client -/
structure Cv where
 bv : Value
 fv : Value
 ab : Value
 ai : Value
 wv : Value
 qs : List (Tk × Value)
def Cv.cells (k : Cv) (c : Cl) : List Value := clc c k.bv k.fv k.ab k.ai k.wv
theorem over_pre : ∀ (vs pre zs : List Value),zs.length = vs.length → over pre.length vs (pre ++ zs) = pre ++ vs
 |[],pre,zs,h => by
  have h0 : zs = [] := List.eq_nil_of_length_eq_zero (by simpa using h)
  simp [over,h0]
 |v :: vs,pre,[],h => by simp at h
 |v :: vs,pre,z :: zs,h => by
  have h1 := over_pre vs (pre ++ [v]) zs (by simpa using h)
  simp only [List.length_append,List.length_cons,List.length_nil,Nat.zero_add,List.append_assoc,List.cons_append,List.nil_append] at h1
  simp only [over]
  rw [show (pre ++ z :: zs).set pre.length v = pre ++ v :: zs by simp]
  exact h1
/-- a whole block is written -/
theorem Blk.putAll {w : World} {b : Nat} {t : TypeId} {zs vs : List Value} (h : Blk w b t zs) (hl : zs.length = vs.length) : Blk (w.setCells b 0 vs) b t vs := by
 have h1 := h.setCells (vs := vs) (o := 0)
 have h2 := over_pre vs [] zs hl
 simp only [List.length_nil,List.nil_append] at h2
 rw [h2] at h1
 exact h1
theorem sr_rows {α : Type} {w : World} {v : Value} {size : Nat} (enc : α → List Value) (he : ∀ q,(enc q).length = size) {qs : List α} (h : SR w v qs.length size (qs.flatMap enc)) (h0 : 0 < qs.length) :
 ∃ b off cap,v = .slice (some ⟨b,off,none⟩) qs.length cap ∧ ∀ k q,qs[k]? = some q → w.rangeAt b (off + k * size) (enc q) := by
 obtain ⟨_,_,_,ao,cap,rfl,_,h4⟩ := h
 obtain ⟨b,off,rfl,_,hc⟩ := h4 h0
 refine ⟨b,off,cap,rfl,fun k q hq j u hj => ?_⟩
 have hk := (List.getElem?_eq_some_iff.1 hq).1
 have hj5 : j < size := by rw [← he q]; exact (List.getElem?_eq_some_iff.1 hj).1
 rw [Nat.add_assoc]
 refine hc _ u ?_
 have h1 := flat_get enc size he qs k j hk hj5
 rw [(List.getElem?_eq_some_iff.1 hq).2] at h1
 exact h1.trans hj
theorem range_keep {w w' : World} {b o : Nat} {cs : List Value} (h : w.rangeAt b o cs) (hb : Below w.heap.size w w') : w'.rangeAt b o cs := fun j v hv => kc (h j v hv) hb
theorem put_namedB {w w5 : World} {b : Nat} {t : TypeId} {zs vs : List Value} (h : Blk w b t zs) (hX : w.setCells b 0 vs = w5) (hl : zs.length = vs.length) : w.grownBy w5 (some b) ∧ Blk w5 b t vs := by
 subst hX
 exact ⟨setCells_grown b vs 0 w,h.putAll hl⟩
/-- the kind of a cell -/
def code : Value → Nat
 |.int .u8 _ => 1
 |.int .u16 _ => 2
 |.int .u64 _ => 3
 |.int .i64 _ => 4
 |.slice _ _ _ => 5
 |_ => 0
def noRun (cs pat : List Nat) : Bool := (List.range cs.length).all fun o => !(pat.isPrefixOf (cs.drop o))
theorem noRun_no {zs : List Value} {pat : List Nat} (h : noRun (zs.map code) pat = true) (off : Nat) (hp : 0 < pat.length) (hr : ∀ (j c : Nat),pat[j]? = some c → ∃ v : Value,zs[off + j]? = some v ∧ code v = c) : False := by
 unfold noRun at h
 rw [List.all_eq_true] at h
 have h0 : off < (zs.map code).length := by
  obtain ⟨v,hv,_⟩ := hr 0 _ (List.getElem?_eq_getElem hp)
  have := (List.getElem?_eq_some_iff.1 hv).1
  simpa using this
 have h1 := h off (List.mem_range.2 h0)
 have h2 : pat.isPrefixOf ((zs.map code).drop off) = true := by
  rw [List.isPrefixOf_iff_prefix]
  refine List.prefix_iff_getElem?.2 fun j hj => ?_
  obtain ⟨v,hv,hc⟩ := hr j _ (List.getElem?_eq_getElem hj)
  rw [List.getElem?_drop,List.getElem?_map,hv,← hc]
  rfl
 rw [h2] at h1
 cases h1
/-- cells among which no bytes lie, nothing found, no attribute and no prepared piece -/
structure Nox (zs : List Value) : Prop where
 nob : Nob zs
 at5 : noRun (zs.map code) [2,3,3,4,5] = true
 pq3 : noRun (zs.map code) [2,4,5] = true
 it5 : noRun (zs.map code) [2,2,3,3,5] = true
theorem nob_code {zs : List Value} (h1 : noRun (zs.map code) [1] = true) (h2 : noRun (zs.map code) [2,2,2,4] = true) : Nob zs := by
 refine ⟨fun off x he => noRun_no h1 off (by simp) fun j c hj => ?_,fun off a b c d h0 h3 h4 h5 => noRun_no h2 off (by simp) fun j c hj => ?_⟩
 ·match j,hj with
  |0,hj => exact ⟨_,he,by simpa [code] using hj⟩
 ·match j,hj with
  |0,hj => exact ⟨_,h0,by simpa [code] using hj⟩
  |1,hj => exact ⟨_,h3,by simpa [code] using hj⟩
  |2,hj => exact ⟨_,h4,by simpa [code] using hj⟩
  |3,hj => exact ⟨_,h5,by simpa [code] using hj⟩
theorem nox_code {zs : List Value} (h1 : noRun (zs.map code) [1] = true) (h2 : noRun (zs.map code) [2,2,2,4] = true) (h3 : noRun (zs.map code) [2,3,3,4,5] = true) (h4 : noRun (zs.map code) [2,4,5] = true) (h5 : noRun (zs.map code) [2,2,3,3,5] = true) : Nox zs := ⟨nob_code h1 h2,h3,h4,h5⟩
/-- rows whose first cells lie nowhere in a block's cells stay as the block is written -/
theorem SR.norun {w w' : World} {v : Value} {n size : Nat} {cs : List Value} {rb : Nat} {t : TypeId} {zs : List Value} {pat : List Nat} (h : SR w v n size cs) (hn : noRun (zs.map code) pat = true) (hp : 0 < pat.length) (hz : Blk w rb t zs) (hg : w.grownBy w' (some rb))
 (hc : 0 < n → ∀ (j c : Nat),pat[j]? = some c → ∃ u : Value,cs[j]? = some u ∧ code u = c) : SR w' v n size cs := by
 by_cases h0 : n = 0
 ·subst h0
  exact h.empty
 ·refine h.grown hg (.inr ?_)
  obtain ⟨_,_,_,ao,cap,rfl,_,h4⟩ := h
  obtain ⟨b,off,rfl,_,hx⟩ := h4 (by omega)
  refine ⟨b,rfl,fun e => ?_⟩
  injection e with e
  subst e
  refine noRun_no hn off hp fun j c hj => ?_
  obtain ⟨u,hu,hcu⟩ := hc (by omega) j c hj
  have h6 := hx j u hu
  rw [hz.at?] at h6
  exact ⟨u,h6,hcu⟩
/-- an attribute, a prepared piece -/
def aenc (q : At × Value) : List Value := [.int .u16 q.1.ha,.int .u64 q.1.hi,.int .u64 q.1.lo,.int .i64 q.1.pe,q.2]
def qenc (q : Pq × Value) : List Value := [.int .u16 q.1.ha,.int .i64 q.1.of,q.2]
/-- attributes that are read -/
def DbR (w : World) (v : Value) (db : List At) : Prop := ∃ qs : List (At × Value),qs.map (·.1) = db ∧ SR w v qs.length 5 (qs.flatMap aenc) ∧ ∀ q ∈ qs,BV w q.2 q.1.bs
/-- prepared pieces that are read -/
def QuR (w : World) (v : Value) (l : List Pq) : Prop := ∃ qs : List (Pq × Value),qs.map (·.1) = l ∧ SR w v qs.length 3 (qs.flatMap qenc) ∧ ∀ q ∈ qs,BV w q.2 q.1.vs
theorem DbR.below {w w' : World} {v : Value} {db : List At} (h : DbR w v db) (hb : Below w.heap.size w w') : DbR w' v db := by
 obtain ⟨qs,h1,h2,h3⟩ := h
 exact ⟨qs,h1,SR.below h2 hb,fun q hq => (h3 q hq).below hb⟩
theorem QuR.below {w w' : World} {v : Value} {l : List Pq} (h : QuR w v l) (hb : Below w.heap.size w w') : QuR w' v l := by
 obtain ⟨qs,h1,h2,h3⟩ := h
 exact ⟨qs,h1,SR.below h2 hb,fun q hq => (h3 q hq).below hb⟩
theorem QuR.nil (w : World) : QuR w (.slice none 0 0) [] := ⟨[],rfl,SR.nil w 3,fun q hq => by cases hq⟩
theorem DbR.kept {w w' : World} {v : Value} {db : List At} {rb : Nat} {t : TypeId} {zs : List Value} (h : DbR w v db) (hn : Nox zs) (hz : Blk w rb t zs) (hg : w.grownBy w' (some rb)) : DbR w' v db := by
 obtain ⟨qs,h1,h2,h3⟩ := h
 refine ⟨qs,h1,h2.norun hn.at5 (by simp) hz hg fun h0 j c hj => ?_,fun q hq => (h3 q hq).notc hn.nob hz hg⟩
 cases qs with
 |nil => exact absurd h0 (by simp)
 |cons q r =>
  obtain ⟨a,cp,e⟩ := (h3 q (by simp)).form
  match j,hj with
  |0,hj => exact ⟨_,rfl,by simpa [code] using hj⟩
  |1,hj => exact ⟨_,rfl,by simpa [code] using hj⟩
  |2,hj => exact ⟨_,rfl,by simpa [code] using hj⟩
  |3,hj => exact ⟨_,rfl,by simpa [code] using hj⟩
  |4,hj => exact ⟨_,rfl,by rw [e]; simpa [code] using hj⟩
theorem QuR.kept {w w' : World} {v : Value} {l : List Pq} {rb : Nat} {t : TypeId} {zs : List Value} (h : QuR w v l) (hn : Nox zs) (hz : Blk w rb t zs) (hg : w.grownBy w' (some rb)) : QuR w' v l := by
 obtain ⟨qs,h1,h2,h3⟩ := h
 refine ⟨qs,h1,h2.norun hn.pq3 (by simp) hz hg fun h0 j c hj => ?_,fun q hq => (h3 q hq).notc hn.nob hz hg⟩
 cases qs with
 |nil => exact absurd h0 (by simp)
 |cons q r =>
  obtain ⟨a,cp,e⟩ := (h3 q (by simp)).form
  match j,hj with
  |0,hj => exact ⟨_,rfl,by simpa [code] using hj⟩
  |1,hj => exact ⟨_,rfl,by simpa [code] using hj⟩
  |2,hj => exact ⟨_,rfl,by rw [e]; simpa [code] using hj⟩
theorem aenc_len (q : At × Value) : (aenc q).length = 5 := rfl
/-- both readings of attributes -/
theorem DbR.dbs {w : World} {v : Value} {db : List At} (h : DbR w v db) : Dbs w v db := by
 obtain ⟨qs,rfl,h2,h3⟩ := h
 obtain ⟨h4,_,_,ao,cap,rfl,_,h5⟩ := h2
 refine ⟨by simpa using h4,ao,cap,by simp,fun h0 => ?_⟩
 obtain ⟨b,off,rfl,hb,hc⟩ := h5 (by simpa using h0)
 refine ⟨b,off,rfl,hb,fun k hk => ?_⟩
 have hk' : k < qs.length := by simpa using hk
 have hg := fun j hj => flat_get aenc 5 aenc_len qs k j hk' hj
 obtain ⟨a,c,hv,hcl,hby⟩ := h3 qs[k] (List.getElem_mem hk')
 rw [List.getElem_map]
 refine ⟨a,c,?_,?_,?_,?_,?_,hcl,hby⟩
 ·exact hc (k * 5 + 0) _ (hg 0 (by omega))
 ·have := hc (k * 5 + 1) _ (hg 1 (by omega)); rwa [← Nat.add_assoc] at this
 ·have := hc (k * 5 + 2) _ (hg 2 (by omega)); rwa [← Nat.add_assoc] at this
 ·have := hc (k * 5 + 3) _ (hg 3 (by omega)); rwa [← Nat.add_assoc] at this
 ·have := hc (k * 5 + 4) _ (hg 4 (by omega)); rw [← Nat.add_assoc] at this; rw [this]; show some qs[k].2 = _; rw [hv]
/-- a server's cells -/
def svc (s : Ss) (dv qv uv ov : Value) : List Value := [dv,.int .i64 s.mt,.int .i64 s.mx,.int .i64 2,qv,.int .i64 2,.bool false,uv,ov,.bool false,.int .i64 0]
/-- a server's value, read -/
def SvV (w : World) (v : Value) (s : Ss) : Prop := ∃ dv qv uv ov,v = .agg (svc s dv qv uv ov).toArray ∧ DbR w dv s.db ∧ QuR w qv s.qu ∧ (∃ a n c,uv = .slice a n c) ∧ ∃ a n c,ov = .slice a n c
theorem SvV.below {w w' : World} {v : Value} {s : Ss} (h : SvV w v s) (hb : Below w.heap.size w w') : SvV w' v s := by
 obtain ⟨dv,qv,uv,ov,e,h1,h2,h3,h4⟩ := h
 exact ⟨dv,qv,uv,ov,e,h1.below hb,h2.below hb,h3,h4⟩
theorem SvV.kept {w w' : World} {v : Value} {s : Ss} {rb : Nat} {t : TypeId} {zs : List Value} (h : SvV w v s) (hn : Nox zs) (hz : Blk w rb t zs) (hg : w.grownBy w' (some rb)) : SvV w' v s := by
 obtain ⟨dv,qv,uv,ov,e,h1,h2,h3,h4⟩ := h
 exact ⟨dv,qv,uv,ov,e,h1.kept hn hz hg,h2.kept hn hz hg,h3,h4⟩
theorem DbR.form {w : World} {v : Value} {db : List At} (h : DbR w v db) : ∃ a c,v = .slice a db.length c := by
 obtain ⟨qs,rfl,h2,_⟩ := h
 obtain ⟨_,_,_,ao,cap,e,_,_⟩ := h2
 exact ⟨ao,cap,by rw [e,List.length_map]⟩
theorem QuR.form {w : World} {v : Value} {l : List Pq} (h : QuR w v l) : ∃ a c,v = .slice a l.length c := by
 obtain ⟨qs,rfl,h2,_⟩ := h
 obtain ⟨_,_,_,ao,cap,e,_,_⟩ := h2
 exact ⟨ao,cap,by rw [e,List.length_map]⟩
/-- an answer in a row of its own -/
structure AnsV (B : Nat) (w : World) (v : Value) (p : Pd) (l : List Im) : Prop where
 row : ∃ b bv iv,v = .slice (some ⟨b,0,none⟩) 1 1 ∧ B ≤ b ∧ Blk w b 49 (pdc p bv iv) ∧ BV w bv p.vs ∧ ∃ qs : List (Im × Value),qs.map (·.1) = l ∧ SR w iv qs.length 5 (qs.flatMap ienc) ∧ ∀ q ∈ qs,BV w q.2 q.1.bs
theorem AnsV.mono {B B' : Nat} {w : World} {v : Value} {p : Pd} {l : List Im} (h : AnsV B w v p l) (hB : B' ≤ B) : AnsV B' w v p l := by
 obtain ⟨b,bv,iv,h1,h2,h3⟩ := h.row
 exact ⟨b,bv,iv,h1,Nat.le_trans hB h2,h3⟩
theorem AnsV.kept {B : Nat} {w w' : World} {v : Value} {p : Pd} {l : List Im} {rb : Nat} {t : TypeId} {zs : List Value} (h : AnsV B w v p l) (hrb : rb < B) (hn : Nox zs) (hz : Blk w rb t zs) (hg : w.grownBy w' (some rb)) : AnsV B w' v p l := by
 obtain ⟨b,bv,iv,h1,h2,h3,h4,qs,h5,h6,h7⟩ := h.row
 refine ⟨b,bv,iv,h1,h2,h3.kept hg (fun e => by injection e with e; omega),h4.notc hn.nob hz hg,qs,h5,h6.norun hn.it5 (by simp) hz hg fun h0 j c hj => ?_,fun q hq => (h7 q hq).notc hn.nob hz hg⟩
 cases qs with
 |nil => exact absurd h0 (by simp)
 |cons q r =>
  obtain ⟨a,cp,e⟩ := (h7 q (by simp)).form
  match j,hj with
  |0,hj => exact ⟨_,rfl,by simpa [code] using hj⟩
  |1,hj => exact ⟨_,rfl,by simpa [code] using hj⟩
  |2,hj => exact ⟨_,rfl,by simpa [code] using hj⟩
  |3,hj => exact ⟨_,rfl,by simpa [code] using hj⟩
  |4,hj => exact ⟨_,rfl,by rw [e]; simpa [code] using hj⟩
/-- a server's attributes and queue -/
structure DQ (w : World) (dv qv : Value) (db : List At) (qu : List Pq) : Prop where
 db : DbR w dv db
 qu : QuR w qv qu
theorem DQ.below {w w' : World} {dv qv : Value} {db : List At} {qu : List Pq} (h : DQ w dv qv db qu) (hb : Below w.heap.size w w') : DQ w' dv qv db qu := ⟨h.db.below hb,h.qu.below hb⟩
theorem DQ.kept {w w' : World} {dv qv : Value} {db : List At} {qu : List Pq} {rb : Nat} {t : TypeId} {zs : List Value} (h : DQ w dv qv db qu) (hn : Nox zs) (hz : Blk w rb t zs) (hg : w.grownBy w' (some rb)) : DQ w' dv qv db qu := ⟨h.db.kept hn hz hg,h.qu.kept hn hz hg⟩
theorem DQ.svv {w : World} {s : Ss} {dv qv : Value} {ua oa : Option Addr} {un uc on oc : Nat} (h : DQ w dv qv s.db s.qu) : SvV w (.agg #[dv,.int .i64 s.mt,.int .i64 s.mx,.int .i64 2,qv,.int .i64 2,.bool false,.slice ua un uc,.slice oa on oc,.bool false,.int .i64 0]) s :=
 ⟨dv,qv,_,_,rfl,h.db,h.qu,⟨_,_,_,rfl⟩,⟨_,_,_,rfl⟩⟩
end Go.Proofs.YtldcihjddebciaaGreat
