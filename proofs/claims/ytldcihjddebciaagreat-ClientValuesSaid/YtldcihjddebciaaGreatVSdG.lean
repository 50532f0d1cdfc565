/- server: a server in memory: its attributes, its queue, and what is read stays. -/
import Derived.Test.YtldcihjddebciaaGreatVSdE
set_option linter.unusedSimpArgs false
set_option linter.unusedVariables false
namespace Go.Proofs.YtldcihjddebciaaGreat
open Go.RowKit
/-- the kind of a cell -/
def code : Value → Nat
 |.int .u8 _ => 1
 |.int .u16 _ => 2
 |.int .u64 _ => 3
 |.int .i64 _ => 4
 |.slice _ _ _ => 5
 |_ => 0
def noRun (cs pat : List Nat) : Bool := (List.range cs.length).all fun o => !(pat.isPrefixOf (cs.drop o))
theorem noRun_no {zs : List Value} {pat : List Nat} (h : noRun (zs.map code) pat = true) (off : Nat) (hp : 0 < pat.length) (hr : ∀ (j c : Nat),pat[j]? = some c → ∃ v : Value,zs[off + j]? = some v ∧ code v = c) : False := by
 unfold noRun at h
 rw [List.all_eq_true] at h
 have h0 : off < (zs.map code).length := by
  obtain ⟨v,hv,_⟩ := hr 0 _ (List.getElem?_eq_getElem hp)
  have := (List.getElem?_eq_some_iff.1 hv).1
  simpa using this
 have h1 := h off (List.mem_range.2 h0)
 have h2 : pat.isPrefixOf ((zs.map code).drop off) = true := by
  rw [List.isPrefixOf_iff_prefix]
  refine List.prefix_iff_getElem?.2 fun j hj => ?_
  obtain ⟨v,hv,hc⟩ := hr j _ (List.getElem?_eq_getElem hj)
  rw [List.getElem?_drop,List.getElem?_map,hv,← hc]
  rfl
 rw [h2] at h1
 cases h1
/-- cells among which no bytes lie, nothing found, no attribute and no prepared piece -/
structure Nox (zs : List Value) : Prop where
 nob : Nob zs
 at5 : noRun (zs.map code) [2,3,3,4,5] = true
 pq3 : noRun (zs.map code) [2,4,5] = true
 it5 : noRun (zs.map code) [2,2,3,3,5] = true
theorem nob_code {zs : List Value} (h1 : noRun (zs.map code) [1] = true) (h2 : noRun (zs.map code) [2,2,2,4] = true) : Nob zs := by
 refine ⟨fun off x he => noRun_no h1 off (by simp) fun j c hj => ?_,fun off a b c d h0 h3 h4 h5 => noRun_no h2 off (by simp) fun j c hj => ?_⟩
 ·match j,hj with
  |0,hj => exact ⟨_,he,by simpa [code] using hj⟩
 ·match j,hj with
  |0,hj => exact ⟨_,h0,by simpa [code] using hj⟩
  |1,hj => exact ⟨_,h3,by simpa [code] using hj⟩
  |2,hj => exact ⟨_,h4,by simpa [code] using hj⟩
  |3,hj => exact ⟨_,h5,by simpa [code] using hj⟩
theorem nox_code {zs : List Value} (h1 : noRun (zs.map code) [1] = true) (h2 : noRun (zs.map code) [2,2,2,4] = true) (h3 : noRun (zs.map code) [2,3,3,4,5] = true) (h4 : noRun (zs.map code) [2,4,5] = true) (h5 : noRun (zs.map code) [2,2,3,3,5] = true) : Nox zs := ⟨nob_code h1 h2,h3,h4,h5⟩
/-- rows whose first cells lie nowhere in a block's cells stay as the block is written -/
theorem SR.norun {w w' : World} {v : Value} {n size : Nat} {cs : List Value} {rb : Nat} {t : TypeId} {zs : List Value} {pat : List Nat} (h : SR w v n size cs) (hn : noRun (zs.map code) pat = true) (hp : 0 < pat.length) (hz : Blk w rb t zs) (hg : w.grownBy w' (some rb))
 (hc : 0 < n → ∀ (j c : Nat),pat[j]? = some c → ∃ u : Value,cs[j]? = some u ∧ code u = c) : SR w' v n size cs := by
 by_cases h0 : n = 0
 ·subst h0
  exact h.empty
 ·refine h.grown hg (.inr ?_)
  obtain ⟨_,_,_,ao,cap,rfl,_,h4⟩ := h
  obtain ⟨b,off,rfl,_,hx⟩ := h4 (by omega)
  refine ⟨b,rfl,fun e => ?_⟩
  injection e with e
  subst e
  refine noRun_no hn off hp fun j c hj => ?_
  obtain ⟨u,hu,hcu⟩ := hc (by omega) j c hj
  have h6 := hx j u hu
  rw [hz.at?] at h6
  exact ⟨u,h6,hcu⟩
/-- an attribute, a prepared piece -/
def aenc (q : At × Value) : List Value := [.int .u16 q.1.ha,.int .u64 q.1.hi,.int .u64 q.1.lo,.int .i64 q.1.pe,q.2]
def qenc (q : Pq × Value) : List Value := [.int .u16 q.1.ha,.int .i64 q.1.of,q.2]
/-- attributes that are read -/
def DbR (w : World) (v : Value) (db : List At) : Prop := ∃ qs : List (At × Value),qs.map (·.1) = db ∧ SR w v qs.length 5 (qs.flatMap aenc) ∧ ∀ q ∈ qs,BV w q.2 q.1.bs
/-- prepared pieces that are read -/
def QuR (w : World) (v : Value) (l : List Pq) : Prop := ∃ qs : List (Pq × Value),qs.map (·.1) = l ∧ SR w v qs.length 3 (qs.flatMap qenc) ∧ ∀ q ∈ qs,BV w q.2 q.1.vs
theorem DbR.below {w w' : World} {v : Value} {db : List At} (h : DbR w v db) (hb : Below w.heap.size w w') : DbR w' v db := by
 obtain ⟨qs,h1,h2,h3⟩ := h
 exact ⟨qs,h1,SR.below h2 hb,fun q hq => (h3 q hq).below hb⟩
theorem QuR.below {w w' : World} {v : Value} {l : List Pq} (h : QuR w v l) (hb : Below w.heap.size w w') : QuR w' v l := by
 obtain ⟨qs,h1,h2,h3⟩ := h
 exact ⟨qs,h1,SR.below h2 hb,fun q hq => (h3 q hq).below hb⟩
theorem QuR.nil (w : World) : QuR w (.slice none 0 0) [] := ⟨[],rfl,SR.nil w 3,fun q hq => by cases hq⟩
theorem DbR.kept {w w' : World} {v : Value} {db : List At} {rb : Nat} {t : TypeId} {zs : List Value} (h : DbR w v db) (hn : Nox zs) (hz : Blk w rb t zs) (hg : w.grownBy w' (some rb)) : DbR w' v db := by
 obtain ⟨qs,h1,h2,h3⟩ := h
 refine ⟨qs,h1,h2.norun hn.at5 (by simp) hz hg fun h0 j c hj => ?_,fun q hq => (h3 q hq).notc hn.nob hz hg⟩
 cases qs with
 |nil => exact absurd h0 (by simp)
 |cons q r =>
  obtain ⟨a,cp,e⟩ := (h3 q (by simp)).form
  match j,hj with
  |0,hj => exact ⟨_,rfl,by simpa [code] using hj⟩
  |1,hj => exact ⟨_,rfl,by simpa [code] using hj⟩
  |2,hj => exact ⟨_,rfl,by simpa [code] using hj⟩
  |3,hj => exact ⟨_,rfl,by simpa [code] using hj⟩
  |4,hj => exact ⟨_,rfl,by rw [e]; simpa [code] using hj⟩
theorem QuR.kept {w w' : World} {v : Value} {l : List Pq} {rb : Nat} {t : TypeId} {zs : List Value} (h : QuR w v l) (hn : Nox zs) (hz : Blk w rb t zs) (hg : w.grownBy w' (some rb)) : QuR w' v l := by
 obtain ⟨qs,h1,h2,h3⟩ := h
 refine ⟨qs,h1,h2.norun hn.pq3 (by simp) hz hg fun h0 j c hj => ?_,fun q hq => (h3 q hq).notc hn.nob hz hg⟩
 cases qs with
 |nil => exact absurd h0 (by simp)
 |cons q r =>
  obtain ⟨a,cp,e⟩ := (h3 q (by simp)).form
  match j,hj with
  |0,hj => exact ⟨_,rfl,by simpa [code] using hj⟩
  |1,hj => exact ⟨_,rfl,by simpa [code] using hj⟩
  |2,hj => exact ⟨_,rfl,by rw [e]; simpa [code] using hj⟩
theorem aenc_len (q : At × Value) : (aenc q).length = 5 := rfl
theorem qenc_len (q : Pq × Value) : (qenc q).length = 3 := rfl
/-- both readings of attributes -/
theorem DbR.dbs {w : World} {v : Value} {db : List At} (h : DbR w v db) : Dbs w v db := by
 obtain ⟨qs,rfl,h2,h3⟩ := h
 obtain ⟨h4,_,_,ao,cap,rfl,_,h5⟩ := h2
 refine ⟨by simpa using h4,ao,cap,by simp,fun h0 => ?_⟩
 obtain ⟨b,off,rfl,hb,hc⟩ := h5 (by simpa using h0)
 refine ⟨b,off,rfl,hb,fun k hk => ?_⟩
 have hk' : k < qs.length := by simpa using hk
 have hg := fun j hj => flat_get aenc 5 aenc_len qs k j hk' hj
 obtain ⟨a,c,hv,hcl,hby⟩ := h3 qs[k] (List.getElem_mem hk')
 rw [List.getElem_map]
 refine ⟨a,c,?_,?_,?_,?_,?_,hcl,hby⟩
 ·exact hc (k * 5 + 0) _ (hg 0 (by omega))
 ·have := hc (k * 5 + 1) _ (hg 1 (by omega)); rwa [← Nat.add_assoc] at this
 ·have := hc (k * 5 + 2) _ (hg 2 (by omega)); rwa [← Nat.add_assoc] at this
 ·have := hc (k * 5 + 3) _ (hg 3 (by omega)); rwa [← Nat.add_assoc] at this
 ·have := hc (k * 5 + 4) _ (hg 4 (by omega)); rw [← Nat.add_assoc] at this; rw [this]; show some qs[k].2 = _; rw [hv]
/-- a server's cells -/
def svc (s : Ss) (dv qv uv ov : Value) : List Value := [dv,.int .i64 s.mt,.int .i64 s.mx,.int .i64 2,qv,.int .i64 2,.bool false,uv,ov,.bool false,.int .i64 0]
/-- a server's value, read -/
def SvV (w : World) (v : Value) (s : Ss) : Prop := ∃ dv qv uv ov,v = .agg (svc s dv qv uv ov).toArray ∧ DbR w dv s.db ∧ QuR w qv s.qu ∧ (∃ a n c,uv = .slice a n c) ∧ ∃ a n c,ov = .slice a n c
theorem SvV.below {w w' : World} {v : Value} {s : Ss} (h : SvV w v s) (hb : Below w.heap.size w w') : SvV w' v s := by
 obtain ⟨dv,qv,uv,ov,e,h1,h2,h3,h4⟩ := h
 exact ⟨dv,qv,uv,ov,e,h1.below hb,h2.below hb,h3,h4⟩
theorem SvV.kept {w w' : World} {v : Value} {s : Ss} {rb : Nat} {t : TypeId} {zs : List Value} (h : SvV w v s) (hn : Nox zs) (hz : Blk w rb t zs) (hg : w.grownBy w' (some rb)) : SvV w' v s := by
 obtain ⟨dv,qv,uv,ov,e,h1,h2,h3,h4⟩ := h
 exact ⟨dv,qv,uv,ov,e,h1.kept hn hz hg,h2.kept hn hz hg,h3,h4⟩
theorem DbR.form {w : World} {v : Value} {db : List At} (h : DbR w v db) : ∃ a c,v = .slice a db.length c := by
 obtain ⟨qs,rfl,h2,_⟩ := h
 obtain ⟨_,_,_,ao,cap,e,_,_⟩ := h2
 exact ⟨ao,cap,by rw [e,List.length_map]⟩
theorem QuR.form {w : World} {v : Value} {l : List Pq} (h : QuR w v l) : ∃ a c,v = .slice a l.length c := by
 obtain ⟨qs,rfl,h2,_⟩ := h
 obtain ⟨_,_,_,ao,cap,e,_,_⟩ := h2
 exact ⟨ao,cap,by rw [e,List.length_map]⟩
/-- an answer in a row of its own -/
structure AnsV (B : Nat) (w : World) (v : Value) (p : Pd) (l : List Im) : Prop where
 row : ∃ b bv iv,v = .slice (some ⟨b,0,none⟩) 1 1 ∧ B ≤ b ∧ Blk w b 49 (pdc p bv iv) ∧ BV w bv p.vs ∧ ∃ qs : List (Im × Value),qs.map (·.1) = l ∧ SR w iv qs.length 5 (qs.flatMap ienc) ∧ ∀ q ∈ qs,BV w q.2 q.1.bs
theorem AnsV.mono {B B' : Nat} {w : World} {v : Value} {p : Pd} {l : List Im} (h : AnsV B w v p l) (hB : B' ≤ B) : AnsV B' w v p l := by
 obtain ⟨b,bv,iv,h1,h2,h3⟩ := h.row
 exact ⟨b,bv,iv,h1,Nat.le_trans hB h2,h3⟩
theorem AnsV.below {B : Nat} {w w' : World} {v : Value} {p : Pd} {l : List Im} (h : AnsV B w v p l) (hb : Below w.heap.size w w') : AnsV B w' v p l := by
 obtain ⟨b,bv,iv,h1,h2,h3,h4,qs,h5,h6,h7⟩ := h.row
 exact ⟨b,bv,iv,h1,h2,h3.below hb,h4.below hb,qs,h5,SR.below h6 hb,fun q hq => (h7 q hq).below hb⟩
theorem AnsV.kept {B : Nat} {w w' : World} {v : Value} {p : Pd} {l : List Im} {rb : Nat} {t : TypeId} {zs : List Value} (h : AnsV B w v p l) (hrb : rb < B) (hn : Nox zs) (hz : Blk w rb t zs) (hg : w.grownBy w' (some rb)) : AnsV B w' v p l := by
 obtain ⟨b,bv,iv,h1,h2,h3,h4,qs,h5,h6,h7⟩ := h.row
 refine ⟨b,bv,iv,h1,h2,h3.kept hg (fun e => by injection e with e; omega),h4.notc hn.nob hz hg,qs,h5,h6.norun hn.it5 (by simp) hz hg fun h0 j c hj => ?_,fun q hq => (h7 q hq).notc hn.nob hz hg⟩
 cases qs with
 |nil => exact absurd h0 (by simp)
 |cons q r =>
  obtain ⟨a,cp,e⟩ := (h7 q (by simp)).form
  match j,hj with
  |0,hj => exact ⟨_,rfl,by simpa [code] using hj⟩
  |1,hj => exact ⟨_,rfl,by simpa [code] using hj⟩
  |2,hj => exact ⟨_,rfl,by simpa [code] using hj⟩
  |3,hj => exact ⟨_,rfl,by simpa [code] using hj⟩
  |4,hj => exact ⟨_,rfl,by rw [e]; simpa [code] using hj⟩
/-- a server's attributes and queue -/
structure DQ (w : World) (dv qv : Value) (db : List At) (qu : List Pq) : Prop where
 db : DbR w dv db
 qu : QuR w qv qu
theorem DQ.below {w w' : World} {dv qv : Value} {db : List At} {qu : List Pq} (h : DQ w dv qv db qu) (hb : Below w.heap.size w w') : DQ w' dv qv db qu := ⟨h.db.below hb,h.qu.below hb⟩
theorem DQ.kept {w w' : World} {dv qv : Value} {db : List At} {qu : List Pq} {rb : Nat} {t : TypeId} {zs : List Value} (h : DQ w dv qv db qu) (hn : Nox zs) (hz : Blk w rb t zs) (hg : w.grownBy w' (some rb)) : DQ w' dv qv db qu := ⟨h.db.kept hn hz hg,h.qu.kept hn hz hg⟩
theorem DQ.svv {w : World} {s : Ss} {dv qv : Value} {ua oa : Option Addr} {un uc on oc : Nat} (h : DQ w dv qv s.db s.qu) : SvV w (.agg #[dv,.int .i64 s.mt,.int .i64 s.mx,.int .i64 2,qv,.int .i64 2,.bool false,.slice ua un uc,.slice oa on oc,.bool false,.int .i64 0]) s :=
 ⟨dv,qv,_,_,rfl,h.db,h.qu,⟨_,_,_,rfl⟩,⟨_,_,_,rfl⟩⟩
/-- attributes that are read, apart from some blocks -/
def DbA (w : World) (R : List (Option Nat)) (v : Value) (db : List At) : Prop := ∃ qs : List (At × Value),qs.map (·.1) = db ∧ SR w v qs.length 5 (qs.flatMap aenc) ∧ (qs.length = 0 ∨ Apart R v) ∧ ∀ q ∈ qs,BD w R q.2 q.1.bs
theorem DbA.dbr {w : World} {R : List (Option Nat)} {v : Value} {db : List At} (h : DbA w R v db) : DbR w v db := by
 obtain ⟨qs,h1,h2,_,h3⟩ := h
 exact ⟨qs,h1,h2,fun q hq => (h3 q hq).1⟩
theorem DbR.dba {w : World} {v : Value} {db : List At} (h : DbR w v db) : DbA w [] v db := by
 obtain ⟨qs,h1,h2,h3⟩ := h
 exact ⟨qs,h1,h2,.inr (fun _ _ hm => by cases hm),fun q hq => ⟨h3 q hq,.inr (fun _ _ hm => by cases hm)⟩⟩
theorem DbA.below {w w' : World} {R : List (Option Nat)} {v : Value} {db : List At} (h : DbA w R v db) (hb : Below w.heap.size w w') : DbA w' R v db := by
 obtain ⟨qs,h1,h2,h4,h3⟩ := h
 exact ⟨qs,h1,SR.below h2 hb,h4,fun q hq => (h3 q hq).below hb⟩
theorem DbA.turned {w w' : World} {R : List (Option Nat)} {v : Value} {db : List At} {r : Option Nat} (h : DbA w R v db) (hg : w.grownBy w' r) (hr : Turns w R r) : DbA w' R v db := by
 obtain ⟨qs,h1,h2,h4,h3⟩ := h
 exact ⟨qs,h1,h2.turned h4 hg hr,h4,fun q hq => (h3 q hq).turned hg hr⟩
theorem DbA.follows {w : World} {R R' : List (Option Nat)} {v : Value} {db : List At} (h : DbA w R v db) (hR : Follows w R R') : DbA w R' v db := by
 obtain ⟨qs,h1,h2,h4,h3⟩ := h
 exact ⟨qs,h1,h2,apart_follows h2 h4 hR,fun q hq => (h3 q hq).follows hR⟩
theorem DbA.kept {w w' : World} {R : List (Option Nat)} {v : Value} {db : List At} {rb : Nat} {t : TypeId} {zs : List Value} (h : DbA w R v db) (hn : Nox zs) (hz : Blk w rb t zs) (hg : w.grownBy w' (some rb)) : DbA w' R v db := by
 obtain ⟨qs,h1,h2,h4,h3⟩ := h
 refine ⟨qs,h1,h2.norun hn.at5 (by simp) hz hg fun h0 j c hj => ?_,h4,fun q hq => ⟨(h3 q hq).1.notc hn.nob hz hg,(h3 q hq).2⟩⟩
 cases qs with
 |nil => exact absurd h0 (by simp)
 |cons q r =>
  obtain ⟨a,cp,e⟩ := (h3 q (by simp)).1.form
  match j,hj with
  |0,hj => exact ⟨_,rfl,by simpa [code] using hj⟩
  |1,hj => exact ⟨_,rfl,by simpa [code] using hj⟩
  |2,hj => exact ⟨_,rfl,by simpa [code] using hj⟩
  |3,hj => exact ⟨_,rfl,by simpa [code] using hj⟩
  |4,hj => exact ⟨_,rfl,by rw [e]; simpa [code] using hj⟩
end Go.Proofs.YtldcihjddebciaaGreat
