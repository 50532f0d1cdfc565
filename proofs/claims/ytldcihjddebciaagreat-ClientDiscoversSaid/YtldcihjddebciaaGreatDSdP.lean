/- client with a server: the pair in memory. -/
import Derived.Test.YtldcihjddebciaaGreatDSdF
set_option linter.unusedSimpArgs false
set_option linter.unusedVariables false
namespace Go.Proofs.YtldcihjddebciaaGreat
open Go.RowKit
theorem over_mid : ∀ (vs pre zs post : List Value),zs.length = vs.length → over pre.length vs (pre ++ (zs ++ post)) = pre ++ (vs ++ post)
 |[],pre,zs,post,h => by
  have h0 : zs = [] := List.eq_nil_of_length_eq_zero (by simpa using h)
  simp [over,h0]
 |v :: vs,pre,[],post,h => by simp at h
 |v :: vs,pre,z :: zs,post,h => by
  have h1 := over_mid vs (pre ++ [v]) zs post (by simpa using h)
  simp only [List.length_append,List.length_cons,List.length_nil,Nat.zero_add,List.append_assoc,List.cons_append,List.nil_append] at h1
  simp only [over]
  rw [show (pre ++ (z :: zs ++ post)).set pre.length v = pre ++ v :: (zs ++ post) by simp]
  exact h1
theorem Blk.putMid {w : World} {b o : Nat} {t : TypeId} {pre zs post vs : List Value} (h : Blk w b t (pre ++ (zs ++ post))) (ho : pre.length = o) (hl : zs.length = vs.length) : Blk (w.setCells b o vs) b t (pre ++ (vs ++ post)) := by
 subst ho
 have h1 := h.setCells (vs := vs) (o := pre.length)
 rw [over_mid vs pre zs post hl] at h1
 exact h1
/-- a client and a server in one block -/
structure PR (w : World) (X : Nat) (cs ss : List Value) (c : Cl) (s : Ss) (ok : Bool) : Prop where
 blk : Blk w X 59 (cs ++ (ss ++ [.bool ok]))
 lc : cs.length = 26
 ls : ss.length = 11
 cv : ClV w (.agg cs.toArray) c
 off : WOff X (.agg cs.toArray) c
 sv : SvV w (.agg ss.toArray) s
theorem clv_cells {w : World} {cs : List Value} {c : Cl} (h : ClV w (.agg cs.toArray) c) : ∃ (a1 : Option Addr) (n1 c1 : Nat) (a2 : Option Addr) (n2 c2 : Nat) (a3 : Option Addr) (n3 c3 : Nat) (a4 : Option Addr) (n4 c4 : Nat) (a5 : Option Addr) (n5 c5 : Nat),cs = clc c (.slice a1 n1 c1) (.slice a2 n2 c2) (.slice a3 n3 c3) (.slice a4 n4 c4) (.slice a5 n5 c5) := by
 obtain ⟨bv,fv,ab,ai,wv,e,h1,h2,h3,h4,qs,h5,h6,_⟩ := h
 simp only [Value.agg.injEq] at e
 have e' : cs = clc c bv fv ab ai wv := by simpa using congrArg Array.toList e
 subst e'
 obtain ⟨a1,c1,e1⟩ := h1.form
 obtain ⟨a2,c2,e2⟩ := h2.form
 obtain ⟨a3,c3,e3⟩ := h3.form
 obtain ⟨a4,c4,e4⟩ := h4.form
 obtain ⟨a5,c5,e5⟩ := h6.form
 rw [e1,e2,e3,e4,e5]
 exact ⟨_,_,_,_,_,_,_,_,_,_,_,_,_,_,_,rfl⟩
theorem svv_cells {w : World} {ss : List Value} {s : Ss} (h : SvV w (.agg ss.toArray) s) : ∃ (a1 : Option Addr) (n1 c1 : Nat) (a2 : Option Addr) (n2 c2 : Nat) (a3 : Option Addr) (n3 c3 : Nat) (a4 : Option Addr) (n4 c4 : Nat),ss = svc s (.slice a1 n1 c1) (.slice a2 n2 c2) (.slice a3 n3 c3) (.slice a4 n4 c4) := by
 obtain ⟨dv,qv,uv,ov,e,h1,h2,⟨ua,un,uc,rfl⟩,oa,on,oc,rfl⟩ := h
 simp only [Value.agg.injEq] at e
 have e' : ss = svc s dv qv (.slice ua un uc) (.slice oa on oc) := by simpa using congrArg Array.toList e
 obtain ⟨a1,c1,e1⟩ := h1.form
 obtain ⟨a2,c2,e2⟩ := h2.form
 rw [e',e1,e2]
 exact ⟨_,_,_,_,_,_,_,_,_,_,_,_,rfl⟩
theorem PR.nox {w : World} {X : Nat} {cs ss : List Value} {c : Cl} {s : Ss} {ok : Bool} (h : PR w X cs ss c s ok) : Nox (cs ++ (ss ++ [.bool ok])) := by
 obtain ⟨a1,n1,c1,a2,n2,c2,a3,n3,c3,a4,n4,c4,a5,n5,c5,rfl⟩ := clv_cells h.cv
 obtain ⟨a6,n6,c6,a7,n7,c7,a8,n8,c8,a9,n9,c9,rfl⟩ := svv_cells h.sv
 refine nox_code ?_ ?_ ?_ ?_ ?_ <;> (simp only [clc,svc,List.cons_append,List.nil_append,List.map_cons,List.map_nil,code]; decide)
theorem PR.below {w w' : World} {X : Nat} {cs ss : List Value} {c : Cl} {s : Ss} {ok : Bool} (h : PR w X cs ss c s ok) (hb : Below w.heap.size w w') : PR w' X cs ss c s ok := by
 obtain ⟨bv,fv,ab,ai,wv,e,h1,h2,h3,h4,qs,h5,h6,h7⟩ := h.cv
 exact ⟨h.blk.below hb,h.lc,h.ls,⟨bv,fv,ab,ai,wv,e,h1.below hb,h2.below hb,h3.below hb,h4.empty,qs,h5,SR.below h6 hb,fun q hq => ⟨(h7 q hq).1.below hb,(h7 q hq).2⟩⟩,h.off,h.sv.below hb⟩
theorem PR.set_c {w : World} {X : Nat} {cs ss cs2 : List Value} {c c2 : Cl} {s : Ss} {ok : Bool} (h : PR w X cs ss c s ok) (hl : cs2.length = 26) (hc : ClV w (.agg cs2.toArray) c2) (ho : WOff X (.agg cs2.toArray) c2) : PR (w.setCells X 0 cs2) X cs2 ss c2 s ok := by
 have hg := setCells_grown X cs2 0 w
 exact ⟨Blk.putMid (pre := []) h.blk rfl (by rw [h.lc,hl]),hl,h.ls,hc.kept h.nox.nob h.blk hg ho,ho,h.sv.kept h.nox h.blk hg⟩
theorem PR.set_s {w : World} {X : Nat} {cs ss ss2 : List Value} {c : Cl} {s s2 : Ss} {ok : Bool} (h : PR w X cs ss c s ok) (hl : ss2.length = 11) (hs : SvV w (.agg ss2.toArray) s2) : PR (w.setCells X 26 ss2) X cs ss2 c s2 ok := by
 have hg := setCells_grown X ss2 26 w
 exact ⟨Blk.putMid h.blk h.lc (by rw [h.ls,hl]),h.lc,hl,h.cv.kept h.nox.nob h.blk hg h.off,h.off,hs.kept h.nox h.blk hg⟩
theorem PR.set_ok {w : World} {X : Nat} {cs ss : List Value} {c : Cl} {s : Ss} {ok : Bool} (h : PR w X cs ss c s ok) (b : Bool) : PR (w.setCell ⟨X,37,none⟩ (.bool b)) X cs ss c s b := by
 have hg := set1 w ⟨X,37,none⟩ (.bool b)
 have hb := h.blk.setAt (j := 37) (.bool b)
 have e : (cs ++ (ss ++ [Value.bool ok])).set 37 (Value.bool b) = cs ++ (ss ++ [Value.bool b]) := by
  rw [List.set_append_right _ _ (by rw [h.lc]; omega),h.lc,List.set_append_right _ _ (by rw [h.ls]; omega),h.ls]
  rfl
 rw [e] at hb
 exact ⟨hb,h.lc,h.ls,h.cv.kept h.nox.nob h.blk hg h.off,h.off,h.sv.kept h.nox h.blk hg⟩
theorem PR.rc {w : World} {X : Nat} {cs ss : List Value} {c : Cl} {s : Ss} {ok : Bool} (h : PR w X cs ss c s ok) : w.rangeAt X 0 cs := h.blk.range 0 cs (fun j v hv => by
 rw [Nat.zero_add,List.getElem?_append_left (List.getElem?_eq_some_iff.1 hv).1]
 exact hv)
theorem PR.rs {w : World} {X : Nat} {cs ss : List Value} {c : Cl} {s : Ss} {ok : Bool} (h : PR w X cs ss c s ok) : w.rangeAt X 26 ss := h.blk.range 26 ss (fun j v hv => by
 rw [List.getElem?_append_right (by rw [h.lc]; omega),h.lc,Nat.add_sub_cancel_left,List.getElem?_append_left (List.getElem?_eq_some_iff.1 hv).1]
 exact hv)
theorem PR.cell {w : World} {X : Nat} {cs ss : List Value} {c : Cl} {s : Ss} {ok : Bool} (h : PR w X cs ss c s ok) : w.cell? ⟨X,37,none⟩ = some (.bool ok) := h.blk.cell (by
 rw [List.getElem?_append_right (by rw [h.lc]; omega),h.lc,List.getElem?_append_right (by rw [h.ls]; omega),h.ls]
 rfl)
theorem PR.cell_c {w : World} {X : Nat} {cs ss : List Value} {c : Cl} {s : Ss} {ok : Bool} (h : PR w X cs ss c s ok) {j : Nat} {v : Value} (hj : cs[j]? = some v) : w.cell? ⟨X,j,none⟩ = some v := by
 have := h.rc j v hj
 rwa [Nat.zero_add] at this
theorem PR.there {w : World} {X : Nat} {cs ss : List Value} {c : Cl} {s : Ss} {ok : Bool} (h : PR w X cs ss c s ok) : w.there X 0 26 ∧ w.there X 26 11 :=
 ⟨h.blk.there 0 26 (by simp [h.lc,h.ls]),h.blk.there 26 11 (by simp [h.lc,h.ls])⟩
/-- limits of the elements of an answer -/
structure Lim (l : List Im) : Prop where
 n : l.length ≤ 50000
 e : ∀ i ∈ l,i.bs.length ≤ 1000000 ∧ i.ha < 65536 ∧ i.la < 65536 ∧ i.hi < 18446744073709551616 ∧ i.lo < 18446744073709551616
theorem Lim.nil : Lim [] := ⟨Nat.zero_le _,fun i hi => by cases hi⟩
theorem itb_ans {w : World} {iv : Value} {qs : List (Im × Value)} (h1 : SR w iv qs.length 5 (qs.flatMap ienc)) (h2 : ∀ q ∈ qs,BV w q.2 q.1.bs) (hl : Lim (qs.map (·.1))) : ItB w w.heap.size iv qs :=
 ⟨h1,h1.lies,fun q hq => ⟨h2 q hq,(h2 q hq).sr.lies,(hl.e q.1 (List.mem_map.2 ⟨q,hq,rfl⟩)).1⟩,fun q hq => (hl.e q.1 (List.mem_map.2 ⟨q,hq,rfl⟩)).2⟩
/-- nothing has turned but one block, and what is new -/
structure KX (X : Nat) (w w' : World) : Prop where
 lo : Below X w w'
 kp : Kp (some X) w w'
theorem KX.refl (X : Nat) (w : World) : KX X w w := ⟨Below.refl X w,Kp.refl _ w⟩
theorem KX.below {X : Nat} {w w' w2 : World} (h : KX X w w') (hX : X ≤ w'.heap.size) (hb : Below w'.heap.size w' w2) : KX X w w2 := ⟨h.lo.trans (hb.mono hX),h.kp.below hb⟩
theorem KX.grown {X : Nat} {w w' w2 : World} (h : KX X w w') (hX : X ≤ w'.heap.size) (hg : w'.grownBy w2 (some X)) : KX X w w2 := ⟨h.lo.grown hg hX (fun k hk => by cases hk; exact Nat.le_refl _),h.kp.grown hg⟩
theorem Blk.kx {X b : Nat} {w w' : World} {t : TypeId} {l : List Value} (h : Blk w b t l) (hne : b ≠ X) (hk : KX X w w') : Blk w' b t l := (hk.kp.2 b h.lt (fun e => hne (by injection e))).trans h
/-- what a play asks of the server, and of what it answers -/
structure HOk (st : Ss → Pd → Ss × Pd × List Im) (G : Cl → Ss → Pd → Prop) : Prop where
 hs : ∀ (c : Cl) (s : Ss) (q : Pd) (sv bv iv : Value) (w : World),G c s q → SvV w sv s → BV w bv q.vs → SR w iv 0 5 [] →
  Calls Tryz.prog 27 #[sv,.agg (pdc q bv iv).toArray,.int .i64 0] w fun e w' => ∃ sv' mv lv,e = .returned (.tuple #[sv',mv,lv]) ∧ SvV w' sv' (st s q).1 ∧ AnsV w.heap.size w' mv (st s q).2.1 (st s q).2.2 ∧ Below w.heap.size w w'
 hc : ∀ (c : Cl) (s : Ss) (q : Pd),G c s q → ClOk c ∧ (-9223372036854775808 ≤ c.ad.kd ∧ c.ad.kd ≤ 9223372036854775807) ∧ (c.busy = true → (st s q).2.1.kd = ansI c.ad.kd → ((st s q).2.1.kd = 5 ∨ ((st s q).2.1.kd = 9 ∧ ¬ c.tk.kd = 9)) → c.ad.la = c.tk.la) ∧ (st s q).2.1.vs.length ≤ 1000000 ∧ Lim (st s q).2.2
end Go.Proofs.YtldcihjddebciaaGreat
