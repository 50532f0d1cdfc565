/- capture: Make. capture: rows of records, an element put in. capture: the reference's Make. capture: the walk of CaptureMakes. CaptureMakes: the tied card: for every input the law returns true, and each argument reads afterwards as before. The walk is 'captureMakes_walk'; this text lays the frame of the row and of the card. -/
import Derived.Test.YtccknpdnapoboaaDoorMkZd
import Derived.Test.YtccknpdnapoboaaDoorMkZc
import Derived.Deep.DeepCutAuto
import Derived.Deep.CutRange
import Derived.Test.YtccknpdnapoboaaDoorMkB
import Derived.Test.YtccknpdnapoboaaDoorCpLaid
import Derived.Test.YtccknpdnapoboaaDoorFrame2
import Derived.Test.YtccknpdnapoboaaDoorCards
import Derived.Test.YtccknpdnapoboaaDoorTie
import Derived.WalkKit
import Derived.ProofKit
import Derived.OpenShut
import Derived.Deep.DeepHandedRow
namespace Go.Proofs.YtccknpdnapoboaaDoor
open Go.RowKit Go.Maps

theorem Tryd.zero_int (w : World) : (zeroValue 3).run Tryd.prog w = .ok (.int .i64 0) w := by kernel_rfl
theorem Tryd.law_int : Keyed Tryd.prog 3 := int_keyed Tryd.underlying3
set_option maxRecDepth 100000 in
/-- the kind of a number, looked up in the map -/
theorem KD.run {H : Type} {W : World} {B n : Nat} {D : DataW H} {gs : List (Int × Int)} (hkd : KD D gs) (h : W.ownsMap Tryd.prog 3 (plainElem Tryd.prog 3) B n D) {id : Int} (wf : (Lit.int .i64 id).wf = true) :
    (Instr.lookup 93 (.map (some B)) (.int .i64 id) false).run Tryd.prog W = .ok (.int .i64 (kindR gs id)) W := by
  obtain ⟨c, hrun, hat, _⟩ := h.lookup_int (t := 93) (q := .i64) Tryd.law_int Tryd.underlying93 Tryd.underlying3 (Tryd.zero_int W) (keyOf_int_mk Tryd.underlying3 wf)
  rw [(hkd.2 id).2, kind_eq] at hat
  injection hat with hat
  injection hat with _ hat
  rw [hrun, ← hat]
theorem ownsMap_below {H : Type} {P : Program} {k : TypeId} {R : Value → Option (DataW H × List MemPlace)} {w w' : World} {b n : Nat} {D : DataW H} (h : w.ownsMap P k R b n D) (hB : Below w.heap.size w w') : w'.ownsMap P k R b n D := by
  have hlt := h.lt
  obtain ⟨es, clock, hb, F, hs, hD⟩ := h
  exact ⟨es, clock, (hB.block b hlt).trans hb, F, hs, hD⟩
theorem Cells.grownO {W X : World} {r : Option Nat} (hg : W.grownBy X r) : ∀ {l : List (Nat × Nat × Value)}, Cells W l → (∀ x ∈ l, r ≠ some x.1) → Cells X l
  | [], _, _ => trivial
  | (b, o, v) :: l, h, hne => ⟨(World.cell?_of_block (a := ⟨b, o, none⟩) (hg.block b (World.block_lt_of_cell? W _ h.1) (fun e => hne (b, o, v) (by simp) e.symm))).trans h.1, Cells.grownO hg h.2 (fun x hx => hne x (by simp [hx]))⟩
theorem step_append_own {P : Program} {w : World} {ops : Array Oper} {o : Oper} {a : Act} {K : Act → World → Prop} {Q : Exit → Act → World → Prop} {E : Prop} (hgd : o.guard = none) (s x : Operand) (t : TypeId)
    (ho : o.op = .call { callee := .builtin .append, args := #[s, x], argTypes := #[t, t] })
    (base : Nat) (e : TypeId) (i : TypeInfo) (z : Value) (size bytes : Nat) (ht : P.underlying t = some (.slice e)) (hi : P.info? e = some i) (hz : i.zero = some z)
    (hsize : i.size = size) (hby : i.bytes = bytes) (hzs : z.cells.size = size) (hsz : 0 < size)
    (v : Value) (n : Nat) (xs : List Value) (hs : a.eval s = v) (hown : w.ownsRow base e size v n xs)
    (ad : Addr) (m c : Nat) (news : List Value) (hx : a.eval x = .slice (some ad) m c) (hl : news.length = m * size) (hnews : ∀ j u, news[j]? = some u → w.cell? (ad.add j) = some u) (h1 : ∀ u ∈ news, u.oneCell' = true)
    (h63 : n + m ≤ maxLen) (hbytes : (n + m) * bytes ≤ 140737488355328) (hbase : base ≤ w.heap.size)
    (h : ∀ v' w', w'.ownsRow base e size v' (n + m) (xs ++ news) → w.grownBy w' v.ownBlock → (v'.ownBlock = v.ownBlock ∨ v'.ownBlock = some w.heap.size) → K (a.put o.dst v') w') :
    if Region.wanted o (yielded ops a.tmps) = true then Oper.wp P o a w K Q else E := by
  have hw : Region.wanted o (yielded ops a.tmps) = true := by simp [Region.wanted, hgd]
  rw [if_pos hw]
  obtain ⟨v', w', hr, h2, h3, _, h5⟩ := run_append_own_at (P := P) w base t o.type e i z size bytes ht hi hz hsize hby hzs hsz v n xs hown ad m c news hl hnews h1 h63 hbytes hbase
  unfold Oper.wp execOp
  simp only [ho, resolve, invoke, builtin, Sem.run_bind, Sem.run_pure, Result.andThen_ok, List.map_toArray, List.map_cons, List.map_nil, hs, hx, hr]
  exact h v' w' h2 h3 h5
set_option linter.unusedSimpArgs false in
set_option linter.unusedVariables false in
set_option maxRecDepth 100000 in
set_option maxHeartbeats 4000000 in
theorem make_any (base e0 : Nat) (v0 : Value) (ts : List Tr) (vs : List Value) (v1 : Value) (rs : List Rc) (w : World) (h0 : TcInv base e0 w v0 ts vs) (h1 : Rcs w v1 rs) (hn : ts.length ≤ 64) (hm : rs.length ≤ 200) (hw : ∀ r ∈ rs, i64b r.id ∧ i64b r.kd) (hid : ∀ t ∈ ts, i64b t.id) (hL : ∀ t ∈ ts, t.bs.length ≤ 260) (he : e0 = 88) :
    Calls Tryd.prog 25 #[v0, v1] w fun e w' => ∃ v' p, e = .returned v' ∧ Mem (fun k => k) p 0 ts.length ∧ Srt (fun x y => tlt (ts.getD x default) (ts.getD y default)) p 0 ts.length ∧
      Cps w' v' (prm (fun x => recOf (rs.map fun r => (r.id, r.kd)) (ts.getD x default)) p ts.length) ∧ Below w.heap.size w w' := by
  subst he
  have HCL := Lib.hid (clone_tx v0 ts vs w h0.len h0.sr h0.some' (by omega))
  have H0 := Lib.hid h0
  have H1 := Lib.hid h1
  have HWF := Lib.hid hw
  have HID := Lib.hid hid
  have HLB := Lib.hid hL
  have hmm := @run_makeMap Tryd.prog
  obtain ⟨n, hnn⟩ : ∃ n, ts.length = n := ⟨_, rfl⟩
  obtain ⟨m, hmn⟩ : ∃ n, rs.length = n := ⟨_, rfl⟩
  have HN := Lib.hid hnn
  have HM := Lib.hid hmn
  have hv : ∃ a c, v1 = .slice a m c := by
    obtain ⟨_, ao, cap, rfl, _⟩ := h1
    exact ⟨ao, cap, by rw [hmn]⟩
  obtain ⟨a1, c1, rfl⟩ := hv
  rw [hnn] at hn ⊢
  rw [hmn] at hm
  clear h0 h1 hw hid hL hnn hmn
  go_enter Tryd.func25, Tryd.ntmps25
  go_wp2_with fail
  refine HCL.out.mono ?_
  rintro e w1 ⟨u1, rfl, hrow, hB1⟩
  have HST := Lib.hid (sort_tx w.heap.size u1 ts vs w1 hrow H0.out.one (by rw [HN.out]; omega))
  have HB1 := Lib.hid hB1
  clear hrow HCL hB1
  go_wp2_with fail
  refine HST.out.mono ?_
  rintro e U ⟨rfl, p, hmem, hsrt, hrow, hBU⟩
  have HMEM := Lib.hid hmem
  have HSRT := Lib.hid hsrt
  have HROW := Lib.hid hrow
  have HBU := Lib.hid (HB1.out.trans hBU)
  clear hmem hsrt hrow hBU HB1 HST
  go_wp2_with fail
  have hown0 : (U.alloc (.map #[] 0)).ownsMap Tryd.prog 3 (plainElem (H := Unit) Tryd.prog 3) U.heap.size 0 (.map []) := World.ownsMap_made U _ _ _
  have HOWN0 := Lib.hid hown0
  clear hown0
  go_loopw [8, 9, 10, 21] (fun _ _ _ i wr => ∃ (k : Nat) (D : DataW Unit), i = .int .i64 k ∧ k ≤ m ∧ Hid (wr.ownsMap Tryd.prog 3 (plainElem Tryd.prog 3) U.heap.size k D) ∧ Hid (KD D ((rs.take k).map fun r => (r.id, r.kd))) ∧ Below U.heap.size U wr) (fun _ _ _ i _ => m - (intOf i).toNat)
  case atStart => exact ⟨0, .map [], by simp, Nat.zero_le _, HOWN0, KD.made, (Below.refl _ _).alloc (Nat.le_refl _) _⟩
  case round =>
    obtain ⟨k, D, rfl, hk, hown, hkd, hB⟩ := hrel
    by_cases hlt : k < m
    · have hkl : k < rs.length := by rw [HM.out]; exact hlt
      have hbb := (H1.out.below HBU.out).below hB
      obtain ⟨b, off, rfl, hb, hx⟩ := hbb.2.elim fun ao h => h.elim fun cap h => by
        have e := h.1
        rw [HM.out] at e
        cases e
        exact h.2 (by omega)
      obtain ⟨va, d0, d1, d2, d3, d4, d5, hby⟩ := hx k hkl
      have hwr := HWF.out _ (List.getElem_mem hkl)
      have tse : (rs.take (k + 1)).map (fun r => (r.id, r.kd)) = (rs.take k).map (fun r => (r.id, r.kd)) ++ [(rs[k].id, rs[k].kd)] := by
        rw [List.take_succ_eq_append_getElem hkl, List.map_append]; rfl
      obtain ⟨⟨I, X, Y, S, E, bs⟩, he⟩ : ∃ r, rs[k] = r := ⟨_, rfl⟩
      rw [he] at d0 d1 d2 d3 d4 hby hwr tse
      simp only at d0 d1 d2 d3 d4 hby hwr tse
      obtain ⟨ra, rc, rfl⟩ := hby.1.val
      obtain ⟨L, hL⟩ : ∃ L, bs.length = L := ⟨_, rfl⟩
      rw [hL] at d5
      have wfI : (Lit.int .i64 I).wf = true := by have := hwr.1; unfold i64b at this; exact WalkArith.wf_i64 (by omega)
      have wfY : (Lit.int .i64 Y).wf = true := by have := hwr.2; unfold i64b at this; exact WalkArith.wf_i64 (by omega)
      have hi1 : (k : Int) < (m : Int) := by omega
      have g1 : decide ((k : Int) < (m : Int)) = true := by simp; omega
      have w1 : IntKind.i64.wrap ((k : Int) + 1) = (k : Int) + 1 := IntWalk.i64_in _ (by omega)
      have TSE := Lib.hid tse
      have HWI := Lib.hid wfI
      have HWY := Lib.hid wfY
      have hHas := (hkd.out.2 I).1
      have HB := Lib.hid hB
      clear hbb hx he tse hby hL hwr wfI wfY hB
      go_upto_region 7 with fail
      generalize hV : World.alloc wr _ = V
      obtain ⟨h6, hV6, h6z⟩ := alloc_named hV
      have f0 := cell_of_row _ _ 0 _ _ _ h6
      have f2 := cell_of_row _ _ 2 _ _ _ h6
      simp at f0 f2
      have HOWN := Lib.hid (show V.ownsMap Tryd.prog 3 (plainElem (H := Unit) Tryd.prog 3) U.heap.size k D by rw [← hV]; exact hown.out.alloc _)
      have HF := Lib.hid (HB.out.trans (hV6.mono HB.out.size))
      clear hV h6 h6z hV6 d0 d1 d2 d3 d4 d5 hown
      cases hsome : (kindF ((rs.take k).map fun r => (r.id, r.kd)) I).isSome with
      | false =>
        rw [hsome] at hHas
        have hnone : kindF ((rs.take k).map fun r => (r.id, r.kd)) I = none := by simpa using hsome
        have HP := Lib.hid (hkd.out.put (g := (I, Y)) (.inl hnone))
        clear hsome hnone hkd
        go_wp2_with (first | (at_lookup; refine wpList_lookup_own_ok_int _ rfl _ _ 93 rfl 3 3 .i64 Tryd.law_int Tryd.underlying93 Tryd.underlying3 (Tryd.zero_int _) U.heap.size k _ rfl HOWN.out _ _ rfl (keyOf_int_mk Tryd.underlying3 HWI.out) ?_; intro c hat hwc; rw [hHas]; clear hat hwc) | (at_mapUpdate; refine wpList_mapUpdate_own _ rfl _ _ _ 93 rfl 3 3 Tryd.law_int Tryd.underlying93 _ U.heap.size k _ rfl HOWN.out (by unfold maxLen; omega) _ _ _ rfl rfl (keyOf_int_mk Tryd.underlying3 HWI.out) _ [] (plainElem_int Tryd.underlying3 HWY.out) ?_; intro w5 hown5 hg5))
        have hp := HP.out
        rw [← TSE.out] at hp
        exact ⟨⟨k + 1, _, by go_num, by omega, hown5, hp, HF.out.grown hg5 HF.out.size (fun q hq => by cases hq; exact Nat.le_refl _)⟩, by simp [intOf]; omega⟩
      | true =>
        rw [hsome] at hHas
        by_cases hY : Y = 1
        · have gy : (Y == 1) = true := by simpa using hY
          have HP := Lib.hid (hkd.out.put (g := (I, Y)) (.inr hY))
          clear hsome hY hkd
          go_wp2_with (first | (at_lookup; refine wpList_lookup_own_ok_int _ rfl _ _ 93 rfl 3 3 .i64 Tryd.law_int Tryd.underlying93 Tryd.underlying3 (Tryd.zero_int _) U.heap.size k _ rfl HOWN.out _ _ rfl (keyOf_int_mk Tryd.underlying3 HWI.out) ?_; intro c hat hwc; rw [hHas]; clear hat hwc) | (at_mapUpdate; refine wpList_mapUpdate_own _ rfl _ _ _ 93 rfl 3 3 Tryd.law_int Tryd.underlying93 _ U.heap.size k _ rfl HOWN.out (by unfold maxLen; omega) _ _ _ rfl rfl (keyOf_int_mk Tryd.underlying3 HWI.out) _ [] (plainElem_int Tryd.underlying3 HWY.out) ?_; intro w5 hown5 hg5))
          have hp := HP.out
          rw [← TSE.out] at hp
          exact ⟨⟨k + 1, _, by go_num, by omega, hown5, hp, HF.out.grown hg5 HF.out.size (fun q hq => by cases hq; exact Nat.le_refl _)⟩, by simp [intOf]; omega⟩
        · have gy : (Y == 1) = false := by simpa using hY
          have HP := Lib.hid (hkd.out.skip (g := (I, Y)) (fun h => by
            rcases h with h | h
            · rw [show (I, Y).1 = I from rfl] at h; rw [h] at hsome; cases hsome
            · exact hY h))
          clear hsome hY hkd
          go_wp2_with (at_lookup; refine wpList_lookup_own_ok_int _ rfl _ _ 93 rfl 3 3 .i64 Tryd.law_int Tryd.underlying93 Tryd.underlying3 (Tryd.zero_int _) U.heap.size k _ rfl HOWN.out _ _ rfl (keyOf_int_mk Tryd.underlying3 HWI.out) ?_; intro c hat hwc; rw [hHas]; clear hat hwc)
          have hp := HP.out
          rw [← TSE.out] at hp
          exact ⟨⟨k + 1, _, by go_num, by omega, HOWN.out.mono (by omega), hp, HF.out⟩, by simp [intOf]; omega⟩
    · have ek : k = m := by omega
      have g1 : decide ((k : Int) < (m : Int)) = false := by simp; omega
      have g1n : decide (k < m) = false := by simpa using hlt
      have et : rs.take k = rs := List.take_of_length_le (by rw [HM.out]; omega)
      rw [et] at hkd
      have HB := Lib.hid hB
      have HUP := Lib.hid (show ∀ x, U.heap.size ≤ x → True from fun _ _ => trivial)
      have HRW := Lib.hid (HROW.out.below hB)
      clear hlt ek et hB HROW HUP HOWN0
      obtain ⟨g, cap, hu1, hg, hrow⟩ := HRW.out
      rw [HN.out] at hu1 hrow
      subst hu1
      have HR5 := Lib.hid hrow
      clear hrow HRW
      obtain ⟨i5, hi5, hy0, hy1, hy2⟩ := info_parts Tryd.info_cp
      have HI0 := Lib.hid (CpI.nil wr.heap.size 35 wr)
      go_wp2_with fail
      go_loopw [11, 13, 47] (fun out _ i w2 => ∃ (j : Nat) (us : List Value), i = .int .i64 j ∧ j ≤ n ∧ Hid (CpI wr.heap.size 35 w2 out ((prm (fun x => recOf (rs.map fun r => (r.id, r.kd)) (ts.getD x default)) p n).take j) us) ∧ Below wr.heap.size wr w2) (fun _ _ i _ => n - (intOf i).toNat)
      case atStart => exact ⟨0, [], by simp, Nat.zero_le _, HI0, Below.refl _ _⟩
      case round =>
        obtain ⟨j, us, rfl, hj, hinv, hB2⟩ := hrel
        rename World => w2
        by_cases hjn : j < n
        · have hpj : p j < n := by
            obtain ⟨q, _, hq, e⟩ := HMEM.out.from' j (Nat.zero_le _) (by rw [HN.out]; exact hjn)
            rw [e, ← HN.out]; exact hq
          have hkl : p j < ts.length := by rw [HN.out]; exact hpj
          have hvl : p j < vs.length := by rw [← H0.out.len]; exact hkl
          have hby := (((H0.out.rd (p j) hkl hvl).1.below HBU.out).below HB.out).below hB2
          obtain ⟨d0, d1, d2, d3, d4⟩ := (HR5.out.below hB2).get hjn
          have e1 : ts.getD (p j) default = ts[p j] := by rw [List.getD_eq_getElem?_getD, List.getElem?_eq_getElem hkl]; rfl
          have e2 : vs.getD (p j) (.slice none 0 0) = vs[p j] := by rw [List.getD_eq_getElem?_getD, List.getElem?_eq_getElem hvl]; rfl
          have tse : (prm (fun x => recOf (rs.map fun r => (r.id, r.kd)) (ts.getD x default)) p n).take (j + 1) = (prm (fun x => recOf (rs.map fun r => (r.id, r.kd)) (ts.getD x default)) p n).take j ++ [recOf (rs.map fun r => (r.id, r.kd)) (ts.getD (p j) default)] := by
            rw [List.take_succ_eq_append_getElem (by rw [prm_len]; exact hjn), prm_get]
          rw [e1] at tse
          unfold esT elT at d0 d1 d2 d3 d4
          simp only [e1, e2] at d0 d1 d2 d3 d4
          have hlb := HLB.out _ (List.getElem_mem hkl)
          have hwi := HID.out _ (List.getElem_mem hkl)
          obtain ⟨vv, hvv⟩ : ∃ v, vs[p j] = v := ⟨_, rfl⟩
          obtain ⟨⟨I, F, C, S, bs⟩, he⟩ : ∃ t, ts[p j] = t := ⟨_, rfl⟩
          rw [he] at hby d0 d1 d2 d3 tse hlb hwi
          rw [hvv] at hby d4
          simp only [Nat.zero_add, Nat.add_zero] at d0 d1 d2 d3 d4
          simp only at hby d0 d1 d2 d3 tse hlb hwi
          obtain ⟨ra, rc, rfl⟩ := hby.1.val
          obtain ⟨L, hL⟩ : ∃ L, bs.length = L := ⟨_, rfl⟩
          rw [hL] at d4 hby hlb
          have wfI : (Lit.int .i64 I).wf = true := by unfold i64b at hwi; exact WalkArith.wf_i64 (by omega)
          obtain ⟨KK, hKK⟩ : ∃ x, kindR (rs.map fun r => (r.id, r.kd)) I = x := ⟨_, rfl⟩
          have hlk : ∀ W' : World, Below wr.heap.size wr W' → (Instr.lookup 93 (.map (some U.heap.size)) (.int .i64 I) false).run Tryd.prog W' = .ok (.int .i64 KK) W' := fun W' hW => by
            rw [← hKK]
            exact hkd.out.run (ownsMap_below hown.out hW) wfI
          have hrec : recOf (rs.map fun r => (r.id, r.kd)) ⟨I, F, C, S, bs⟩ = ⟨S, C, F, KK, bs⟩ := by unfold recOf; rw [hKK]
          rw [hrec] at tse
          have hi1 : (j : Int) < (n : Int) := by omega
          have g2 : decide ((j : Int) < (n : Int)) = true := by simp; omega
          have w1 : IntKind.i64.wrap ((j : Int) + 1) = (j : Int) + 1 := IntWalk.i64_in _ (by omega)
          have HLK := Lib.hid hlk
          have TSE := Lib.hid tse
          have HBY := Lib.hid hby
          have HL := Lib.hid hL
          have HB2 := Lib.hid hB2
          clear hlk tse hby hL hB2 hrec hKK wfI hwi he hvv e1 e2 hkl hvl hpj
          go_upto_region 15 with fail
          generalize hV : World.alloc w2 _ = V
          obtain ⟨h6, hV6, h6z⟩ := alloc_named hV
          have TT : Cells V (blk w2.heap.size 0 0 [.int .i64 I, .int .i64 F, .int .i64 C, .int .i64 S, .slice ra L rc]) := ⟨cell_of_row _ _ 0 _ _ _ h6, cell_of_row _ _ 1 _ _ _ h6, cell_of_row _ _ 2 _ _ _ h6, cell_of_row _ _ 3 _ _ _ h6, cell_of_row _ _ 4 _ _ _ h6, trivial⟩
          have HI := Lib.hid (hinv.out.below hV6)
          have HBV := Lib.hid (HBY.out.below hV6)
          have hF := HB2.out.trans (hV6.mono HB2.out.size)
          have HF := Lib.hid hF
          have hol : ∀ q, u11.ownBlock = some q → q < w2.heap.size := fun q hq => (hinv.out.own.lt q hq).2
          have hbD : Below V.heap.size V V.drew := (Below.refl _ _).drew
          have HSZ := Lib.hid (Nat.le_of_eq h6z.symm)
          have hlen : ((prm (fun x => recOf (rs.map fun r => (r.id, r.kd)) (ts.getD x default)) p n).take j).length = j := by rw [List.length_take, prm_len]; omega
          have HLEN := Lib.hid hlen
          clear hV h6 h6z hV6 d0 d1 d2 d3 d4 hinv hlen
          refine wp_region_held_drew (S := (fun W' : World => Below wr.heap.size wr W' ∧ V.heap.size ≤ W'.heap.size ∧ Cells W' (blk w2.heap.size 0 0 [.int .i64 I, .int .i64 F, .int .i64 C, .int .i64 S, .slice ra L rc]) ∧ (Instr.lookup 93 (.map (some U.heap.size)) (.int .i64 I) false).run Tryd.prog W' = .ok (.int .i64 KK) W')) (by kernel_rfl) (⟨HF.out.drew, Nat.le_refl _, TT.drew, HLK.out _ HF.out.drew⟩) (fun hHeld => ?_)
          generalize World.drew _ = wd at hHeld hbD ⊢
          have hz := hHeld.2.1
          refine wpAnyH_take (i := 0) (oi := _) (v := ?_) (by rw [List.getElem?_toArray]; rfl) (by kernel_rfl) (by kernel_rfl) (by kernel_rfl) (by exact fun _ _ _ h => h) (Or.inl ⟨by rfl, ?_⟩) (by assumption) ?_
          rotate_left
          · intro w hSw
            try simp only [Cells, blk, List.cons_append, List.nil_append, and_true, Nat.reduceAdd, Nat.add_zero, Nat.zero_add] at hSw
            go_simp
            try with_reducible rfl
          simp only [Act.put, List.setIfInBounds_toArray, List.set_cons_zero, List.set_cons_succ]
          refine wpAnyH_take (i := 1) (oi := _) (v := ?_) (by rw [List.getElem?_toArray]; rfl) (by kernel_rfl) (by kernel_rfl) (by kernel_rfl) (by exact fun _ _ _ h => h) (Or.inl ⟨by rfl, ?_⟩) (by assumption) ?_
          rotate_left
          · intro w hSw
            try simp only [Cells, blk, List.cons_append, List.nil_append, and_true, Nat.reduceAdd, Nat.add_zero, Nat.zero_add] at hSw
            go_simp
            try with_reducible rfl
          simp only [Act.put, List.setIfInBounds_toArray, List.set_cons_zero, List.set_cons_succ]
          refine wpAnyH_take (i := 2) (oi := _) (v := ?_) (by rw [List.getElem?_toArray]; rfl) (by kernel_rfl) (by kernel_rfl) (by kernel_rfl) (by exact fun _ _ _ h => h) (Or.inl ⟨by rfl, ?_⟩) (by assumption) ?_
          rotate_left
          · intro w hSw
            try simp only [Cells, blk, List.cons_append, List.nil_append, and_true, Nat.reduceAdd, Nat.add_zero, Nat.zero_add] at hSw
            go_simp
            try with_reducible rfl
          simp only [Act.put, List.setIfInBounds_toArray, List.set_cons_zero, List.set_cons_succ]
          refine wpAnyH_take (i := 3) (oi := _) (v := ?_) (by rw [List.getElem?_toArray]; rfl) (by kernel_rfl) (by kernel_rfl) (by kernel_rfl) (by exact fun _ _ _ h => h) (Or.inl ⟨by rfl, ?_⟩) (by assumption) ?_
          rotate_left
          · intro w hSw
            try simp only [Cells, blk, List.cons_append, List.nil_append, and_true, Nat.reduceAdd, Nat.add_zero, Nat.zero_add] at hSw
            go_simp
            try with_reducible rfl
          simp only [Act.put, List.setIfInBounds_toArray, List.set_cons_zero, List.set_cons_succ]
          refine wpAnyH_take (i := 4) (oi := _) (v := ?_) (by rw [List.getElem?_toArray]; rfl) (by kernel_rfl) (by kernel_rfl) (by kernel_rfl) (by exact fun _ _ _ h => h) (Or.inl ⟨by rfl, ?_⟩) (by assumption) ?_
          rotate_left
          · intro w hSw
            try simp only [Cells, blk, List.cons_append, List.nil_append, and_true, Nat.reduceAdd, Nat.add_zero, Nat.zero_add] at hSw
            go_simp
            try with_reducible rfl
          simp only [Act.put, List.setIfInBounds_toArray, List.set_cons_zero, List.set_cons_succ]
          refine wpAnyH_take (i := 5) (oi := _) (v := ?_) (by rw [List.getElem?_toArray]; rfl) (by kernel_rfl) (by kernel_rfl) (by kernel_rfl) (by exact fun _ _ _ h => h) (Or.inl ⟨by rfl, ?_⟩) (by assumption) ?_
          rotate_left
          · intro w hSw
            try simp only [Cells, blk, List.cons_append, List.nil_append, and_true, Nat.reduceAdd, Nat.add_zero, Nat.zero_add] at hSw
            go_simp
            try with_reducible rfl
          simp only [Act.put, List.setIfInBounds_toArray, List.set_cons_zero, List.set_cons_succ]
          refine wpAnyH_take (i := 6) (oi := _) (v := ?_) (by rw [List.getElem?_toArray]; rfl) (by kernel_rfl) (by kernel_rfl) (by kernel_rfl) (by exact fun _ _ _ h => h) (Or.inl ⟨by rfl, ?_⟩) (by assumption) ?_
          rotate_left
          · intro w hSw
            try simp only [Cells, blk, List.cons_append, List.nil_append, and_true, Nat.reduceAdd, Nat.add_zero, Nat.zero_add] at hSw
            go_simp
            try with_reducible rfl
          simp only [Act.put, List.setIfInBounds_toArray, List.set_cons_zero, List.set_cons_succ]
          refine wpAnyH_take (i := 7) (oi := _) (v := ?_) (by rw [List.getElem?_toArray]; rfl) (by kernel_rfl) (by kernel_rfl) (by kernel_rfl) (by exact fun _ _ _ h => h) (Or.inl ⟨by rfl, ?_⟩) (by assumption) ?_
          rotate_left
          · intro w hSw
            try simp only [Cells, blk, List.cons_append, List.nil_append, and_true, Nat.reduceAdd, Nat.add_zero, Nat.zero_add] at hSw
            go_simp
            try with_reducible rfl
          simp only [Act.put, List.setIfInBounds_toArray, List.set_cons_zero, List.set_cons_succ]
          refine wpAnyH_take (i := 8) (oi := _) (v := ?_) (by rw [List.getElem?_toArray]; rfl) (by kernel_rfl) (by kernel_rfl) (by kernel_rfl) (by exact fun _ _ _ h => h) (Or.inl ⟨by rfl, ?_⟩) (by assumption) ?_
          rotate_left
          · intro w hSw
            try simp only [Cells, blk, List.cons_append, List.nil_append, and_true, Nat.reduceAdd, Nat.add_zero, Nat.zero_add] at hSw
            go_simp
            try with_reducible rfl
          simp only [Act.put, List.setIfInBounds_toArray, List.set_cons_zero, List.set_cons_succ]
          refine wpAnyH_take (i := 9) (oi := _) (v := ?_) (by rw [List.getElem?_toArray]; rfl) (by kernel_rfl) (by kernel_rfl) (by kernel_rfl) (by exact fun _ _ _ h => h) (Or.inl ⟨by rfl, ?_⟩) (by assumption) ?_
          rotate_left
          · intro w hSw
            try simp only [Cells, blk, List.cons_append, List.nil_append, and_true, Nat.reduceAdd, Nat.add_zero, Nat.zero_add] at hSw
            go_simp
            try with_reducible rfl
          simp only [Act.put, List.setIfInBounds_toArray, List.set_cons_zero, List.set_cons_succ]
          refine wpAnyH_take (i := 10) (oi := _) (v := ?_) (by rw [List.getElem?_toArray]; rfl) (by kernel_rfl) (by kernel_rfl) (by kernel_rfl) (by exact fun _ _ _ h => h) (Or.inl ⟨by rfl, ?_⟩) (by assumption) ?_
          rotate_left
          · intro w hSw
            try simp only [Cells, blk, List.cons_append, List.nil_append, and_true, Nat.reduceAdd, Nat.add_zero, Nat.zero_add] at hSw
            go_simp
            try with_reducible rfl
          simp only [Act.put, List.setIfInBounds_toArray, List.set_cons_zero, List.set_cons_succ]
          refine wpAnyH_take (i := 11) (oi := _) (v := ?_) (by rw [List.getElem?_toArray]; rfl) (by kernel_rfl) (by kernel_rfl) (by kernel_rfl) (by exact fun _ _ _ h => h) (Or.inl ⟨by rfl, ?_⟩) (by assumption) ?_
          rotate_left
          · intro w hSw
            try simp only [Cells, blk, List.cons_append, List.nil_append, and_true, Nat.reduceAdd, Nat.add_zero, Nat.zero_add] at hSw
            go_simp
            try with_reducible rfl
          simp only [Act.put, List.setIfInBounds_toArray, List.set_cons_zero, List.set_cons_succ]
          refine wpAnyH_take (i := 12) (oi := _) (v := ?_) (by rw [List.getElem?_toArray]; rfl) (by kernel_rfl) (by kernel_rfl) (by kernel_rfl) (by exact fun _ _ _ h => h) (Or.inl ⟨by rfl, ?_⟩) (by assumption) ?_
          rotate_left
          · intro w hSw
            try simp only [Cells, blk, List.cons_append, List.nil_append, and_true, Nat.reduceAdd, Nat.add_zero, Nat.zero_add] at hSw
            go_simp
            try with_reducible rfl
          simp only [Act.put, List.setIfInBounds_toArray, List.set_cons_zero, List.set_cons_succ]
          refine wpAnyH_ready (rs := [13]) (by kernel_rfl) (by simp) (AllReadyH.cons (o := _) (by rw [List.getElem?_toArray]; rfl) (fun K hK => ?_) AllReadyH.nil)
          go_simp
          generalize hX : World.alloc _ (.cells _ 25) = w13
          obtain ⟨h13, hB13, h13z⟩ := alloc_named hX
          clear hX h13z
          have hsr := sr_one h13 rfl
          have hbD2 := hbD.trans (hB13.mono hz)
          have hby := HBV.out.below hbD2
          have hF13 := hHeld.1.trans (hB13.mono hHeld.1.size)
          refine hK.out _ _ (⟨hF13, Nat.le_trans hz hB13.size, hHeld.2.2.1.keep hB13, HLK.out _ hF13⟩) (fun hHeld2 => ?_)
          replace hHeld := hHeld2
          clear hK K hHeld2
          try simp only [Act.put, List.setIfInBounds_toArray, List.set_cons_zero, List.set_cons_succ]
          have hz := hHeld.2.1
          refine wpAnyH_ready (rs := [14]) (by kernel_rfl) (by simp) (AllReadyH.cons (o := _) (by rw [List.getElem?_toArray]; rfl) (fun K hK => ?_) AllReadyH.nil)
          go_simp
          go_at_call 31
          refine (joinO_any _ bs L HL.out _ _ hsr hby (by omega)).mono ?_
          rintro e w14 ⟨xa, xc, rfl, hbo, hbl, hB14⟩
          have hbD3 := hbD2.trans (hB14.mono hz)
          have hF14 := hHeld.1.trans (hB14.mono hHeld.1.size)
          have hlo : ∀ q, (Value.slice xa L xc).ownBlock = some q → V.heap.size ≤ q := fun q hq => Nat.le_trans hz (hbl q hq).1
          refine hK.out _ _ (⟨hF14, Nat.le_trans hz hB14.size, hHeld.2.2.1.keep hB14, HLK.out _ hF14⟩) (fun hHeld2 => ?_)
          replace hHeld := hHeld2
          clear hK K hHeld2
          try simp only [Act.put, List.setIfInBounds_toArray, List.set_cons_zero, List.set_cons_succ]
          have hz := hHeld.2.1
          clear hsr hby hB14 hB13 h13
          refine wpAnyH_take (i := 15) (oi := _) (v := ?_) (by rw [List.getElem?_toArray]; rfl) (by kernel_rfl) (by kernel_rfl) (by kernel_rfl) (by exact fun _ _ _ h => h) (Or.inl ⟨by rfl, ?_⟩) (by assumption) ?_
          rotate_left
          · intro w hSw
            try simp only [Cells, blk, List.cons_append, List.nil_append, and_true, Nat.reduceAdd, Nat.add_zero, Nat.zero_add] at hSw
            go_simp
            try with_reducible rfl
          simp only [Act.put, List.setIfInBounds_toArray, List.set_cons_zero, List.set_cons_succ]
          refine wpAnyH_ready (rs := [16]) (by kernel_rfl) (by simp) (AllReadyH.cons (o := _) (by rw [List.getElem?_toArray]; rfl) (fun K hK => ?_) AllReadyH.nil)
          go_simp
          generalize hX : World.alloc _ (.cells _ 35) = w16
          obtain ⟨h16, hB16, h16z⟩ := alloc_named hX
          clear hX
          have hbD4 := hbD3.trans (hB16.mono hz)
          have hF16 := hHeld.1.trans (hB16.mono hHeld.1.size)
          have HI7 := Lib.hid (HI.out.below hbD4)
          have HIN := Lib.hid HI7.out.own
          have HV7 := Lib.hid (hbo.below hB16)
          have hov : bs = [] ∨ ∃ b, (Value.slice xa L xc).ownBlock = some b ∧ b < w16.heap.size ∧ u11.ownBlock ≠ some b := by
            rcases HV7.out.nil_or with h | ⟨b', e1, e2⟩
            · exact .inl h
            · refine .inr ⟨b', e1, e2, fun e => ?_⟩
              have q1 := hlo b' e1
              have q2 := hol b' e
              have q3 := HSZ.out
              omega
          have HOV := Lib.hid hov
          have hnew : ∀ j u, [.int .i64 S, .int .i64 C, .int .i64 F, .int .i64 KK, .slice xa L xc][j]? = some u → w16.cell? ((⟨w14.heap.size, 0, none⟩ : Addr).add j) = some u := fun j u hj => by
            rw [addr_add, Nat.zero_add]
            exact (cell_of_row w16 w14.heap.size j _ _ _ h16).trans (by simpa using hj)
          have HNEW := Lib.hid hnew
          have HSZ16 := Lib.hid h16z
          refine hK.out _ _ (⟨hF16, Nat.le_trans hz hB16.size, hHeld.2.2.1.keep hB16, HLK.out _ hF16⟩) (fun hHeld2 => ?_)
          replace hHeld := hHeld2
          clear hK K hHeld2
          try simp only [Act.put, List.setIfInBounds_toArray, List.set_cons_zero, List.set_cons_succ]
          have hz := hHeld.2.1
          clear hov hnew h16 hB16 h16z hbD4 hbD3 hbD2
          refine wpAnyH_ready (rs := [17]) (by kernel_rfl) (by simp) (AllReadyH.cons (o := _) (by rw [List.getElem?_toArray]; rfl) (fun K hK => ?_) AllReadyH.nil)
          refine step_append_own (by rfl) _ _ 22 (by rfl) wr.heap.size 35 i5 _ 5 56 Tryd.underlying22 hi5 hy0 hy1 hy2 rfl (by decide) u11 _ _ (by rfl) HIN.out ⟨w14.heap.size, 0, none⟩ 1 1 [.int .i64 S, .int .i64 C, .int .i64 F, .int .i64 KK, .slice xa L xc] (by rfl) (by rfl) HNEW.out (by intro u hu; simp at hu; rcases hu with rfl | rfl | rfl | rfl | rfl <;> rfl) (by rw [HLEN.out]; unfold maxLen; omega) (by rw [HLEN.out]; omega) hHeld.1.size ?_
          intro v17 w17 hown17 hg17 hob17
          have hF17 := hHeld.1.grown hg17 hHeld.1.size (fun q hq => (HIN.out.lt q hq).1)
          have hpush := HI7.out.push (t := ⟨S, C, F, KK, bs⟩) HV7.out (fun q hq => Nat.le_trans HF.out.size (hlo q hq)) HOV.out hown17 hg17 hob17
          rw [← TSE.out] at hpush
          have HP := Lib.hid hpush
          clear hpush hown17 hob17
          refine hK.out _ _ (⟨hF17, Nat.le_trans hz hg17.size, hHeld.2.2.1.grownO hg17 (fun x hx e => by have := hol _ e; simp [blk] at hx; rcases hx with rfl | rfl | rfl | rfl | rfl <;> simp at this), HLK.out _ hF17⟩) (fun hHeld2 => ?_)
          replace hHeld := hHeld2
          clear hK K hHeld2
          try simp only [Act.put, List.setIfInBounds_toArray, List.set_cons_zero, List.set_cons_succ]
          have hz := hHeld.2.1
          refine wpAnyH_take (i := 18) (oi := _) (v := ?_) (by rw [List.getElem?_toArray]; rfl) (by kernel_rfl) (by kernel_rfl) (by kernel_rfl) (by exact fun _ _ _ h => h) (Or.inl ⟨by rfl, ?_⟩) (by assumption) ?_
          rotate_left
          · intro w hSw
            try simp only [Cells, blk, List.cons_append, List.nil_append, and_true, Nat.reduceAdd, Nat.add_zero, Nat.zero_add] at hSw
            go_simp
            try with_reducible rfl
          simp only [Act.put, List.setIfInBounds_toArray, List.set_cons_zero, List.set_cons_succ]
          refine wpAnyH_done (by kernel_rfl) ?_ _
          have HFF := Lib.hid hHeld.1
          clear hHeld hz HNEW TT hg17 HIN HI7 HV7 HOV
          go_wp2_with fail
          go_roundw
          case rel => exact ⟨j + 1, _, by go_num, by omega, HP, HFF.out⟩
          case measure => simp [intOf]; omega
        · have ej : j = n := by omega
          have et : (prm (fun x => recOf (rs.map fun r => (r.id, r.kd)) (ts.getD x default)) p n).take j = prm (fun x => recOf (rs.map fun r => (r.id, r.kd)) (ts.getD x default)) p n := List.take_of_length_le (by rw [prm_len]; omega)
          rw [et] at hinv
          have hcp := hinv.out.cps
          have hfin := (HBU.out.trans (HB.out.mono HBU.out.size)).trans (hB2.mono (Nat.le_trans HBU.out.size HB.out.size))
          have g2 : decide ((j : Int) < (n : Int)) = false := by simp; omega
          have g2n : decide (j < n) = false := by simpa using hjn
          have hme := HMEM.out
          have hsr := HSRT.out
          rw [HN.out] at hme hsr
          have HFIN := Lib.hid (And.intro hme (And.intro hsr (And.intro hcp hfin)))
          clear et hinv hcp hfin ej hme hsr
          go_wp2
          go_ret
          exact ⟨_, p, rfl, HFIN.out.1, HFIN.out.2.1, HFIN.out.2.2.1, HFIN.out.2.2.2⟩
end Go.Proofs.YtccknpdnapoboaaDoor
namespace Go.Proofs.YtccknpdnapoboaaDoor
open Go.RowKit

theorem cpcells_app : ∀ (l l' : List Cp) (vs vs' : List Value), l.length = vs.length → cpcells (l ++ l') (vs ++ vs') = cpcells l vs ++ cpcells l' vs'
  | [], _, [], _, _ => rfl
  | x :: l, l', y :: vs, vs', h => by
    have := cpcells_app l l' vs vs' (by simpa using h)
    simp [cpcells, this]
theorem cpcells_take (l : List Cp) (vs : List Value) (h : l.length = vs.length) (k : Nat) (hk : k ≤ l.length) : (cpcells l vs).take (k * 5) = cpcells (l.take k) (vs.take k) := by
  have e : cpcells l vs = cpcells (l.take k) (vs.take k) ++ cpcells (l.drop k) (vs.drop k) := by
    rw [← cpcells_app _ _ _ _ (by rw [List.length_take, List.length_take]; omega), List.take_append_drop, List.take_append_drop]
  have hl := cpcells_len (l.take k) (vs.take k) (by rw [List.length_take, List.length_take]; omega)
  rw [List.length_take, Nat.min_eq_left hk] at hl
  rw [e, List.take_append_of_le_length (by omega), List.take_of_length_le (by omega)]
theorem cpcells_drop (l : List Cp) (vs : List Value) (h : l.length = vs.length) (k : Nat) (hk : k ≤ l.length) : (cpcells l vs).drop (k * 5) = cpcells (l.drop k) (vs.drop k) := by
  have e : cpcells l vs = cpcells (l.take k) (vs.take k) ++ cpcells (l.drop k) (vs.drop k) := by
    rw [← cpcells_app _ _ _ _ (by rw [List.length_take, List.length_take]; omega), List.take_append_drop, List.take_append_drop]
  have hl := cpcells_len (l.take k) (vs.take k) (by rw [List.length_take, List.length_take]; omega)
  rw [List.length_take, Nat.min_eq_left hk] at hl
  rw [e, List.drop_append_of_le_length (by omega), List.drop_of_length_le (by omega), List.nil_append]
theorem cpcells_one (l : List Cp) (vs : List Value) (h : l.length = vs.length) (hv : ∀ j (h : j < vs.length), vs[j].oneCell' = true) : ∀ u ∈ cpcells l vs, u.oneCell' = true := by
  induction l generalizing vs with
  | nil => intro u hu; cases vs <;> simp [cpcells] at hu
  | cons t l ih =>
    intro u hu
    match vs, h, hv with
    | v :: vs, h, hv =>
      simp only [cpcells, List.mem_cons] at hu
      rcases hu with rfl | rfl | rfl | rfl | rfl | hu
      · rfl
      · rfl
      · rfl
      · rfl
      · exact hv 0 (by simp)
      · exact ih vs (by simpa using h) (fun j h => hv (j + 1) (by simpa using h)) u hu
theorem CpI.one {base e : Nat} {w : World} {out : Value} {rs : List Cp} {vs : List Value} (h : CpI base e w out rs vs) : ∀ j (hj : j < vs.length), vs[j].oneCell' = true := fun j hj => by
  obtain ⟨ao, cap, e⟩ := (h.rd j (by have := h.len; omega) hj).1.1.val
  rw [e]
  rfl
/-- what is known of one record -/
def Cd1 (base : Nat) (w : World) (out : Value) (r : Cp) (v : Value) : Prop := BytesAt w v r.bs ∧ Own base v ∧ (r.bs = [] ∨ ∃ b, v.ownBlock = some b ∧ b < w.heap.size ∧ out.ownBlock ≠ some b)
theorem Cd1.fresh {base : Nat} {Y w' : World} {out v' : Value} {r : Cp} {v : Value} (h : Cd1 base Y out r v) (hB : Below Y.heap.size Y w') (ho : ∀ b, v'.ownBlock = some b → Y.heap.size ≤ b) : Cd1 base w' v' r v := by
  refine ⟨h.1.below hB, h.2.1, h.2.2.imp id fun ⟨b, e1, e3, _⟩ => ⟨b, e1, Nat.lt_of_lt_of_le e3 hB.size, fun e => ?_⟩⟩
  have := ho b e
  omega
theorem cpi_ins {base E : Nat} {Y w' : World} {out v' : Value} {rs : List Cp} {vs : List Value} {r : Cp} {va : Value} {t : Nat} (h : CpI base E Y out rs vs) (hr : Cd1 base Y out r va) (ht : t ≤ rs.length) (hB : Below Y.heap.size Y w') (hbase : base ≤ Y.heap.size)
    (hown : w'.ownsRow Y.heap.size E 5 v' (0 + t + 1 + (rs.length - t)) ((([] ++ (cpcells rs vs).take (t * 5)) ++ [.int .i64 r.t, .int .i64 r.c, .int .i64 r.f, .int .i64 r.k, va]) ++ (cpcells rs vs).drop (t * 5))) :
    CpI base E w' v' (rs.take t ++ [r] ++ rs.drop t) (vs.take t ++ [va] ++ vs.drop t) := by
  have hl := h.len
  have ho : ∀ b, v'.ownBlock = some b → Y.heap.size ≤ b := fun b hb => (hown.lt b hb).1
  have e1 : cpcells (rs.take t ++ [r] ++ rs.drop t) (vs.take t ++ [va] ++ vs.drop t) = (([] ++ (cpcells rs vs).take (t * 5)) ++ [.int .i64 r.t, .int .i64 r.c, .int .i64 r.f, .int .i64 r.k, va]) ++ (cpcells rs vs).drop (t * 5) := by
    rw [cpcells_app _ _ _ _ (by simp; omega), cpcells_app _ _ _ _ (by simp; omega), cpcells_take _ _ hl _ ht, cpcells_drop _ _ hl _ ht]
    simp [cpcells]
  have e2 : (rs.take t ++ [r] ++ rs.drop t).length = 0 + t + 1 + (rs.length - t) := by simp; omega
  have key : ∀ j (h1 : j < (rs.take t ++ [r] ++ rs.drop t).length) (h2 : j < (vs.take t ++ [va] ++ vs.drop t).length), Cd1 base w' v' (rs.take t ++ [r] ++ rs.drop t)[j] (vs.take t ++ [va] ++ vs.drop t)[j] := fun j h1 h2 => by
    have h1' := h1
    rw [e2] at h1
    by_cases c1 : j < t
    · rw [List.getElem_append_left (by simp; omega), List.getElem_append_left (by simp; omega), List.getElem_append_left (by simp; omega), List.getElem_append_left (by simp; omega), List.getElem_take, List.getElem_take]
      exact Cd1.fresh (h.rd j (by omega) (by omega)) hB ho
    · by_cases c2 : j = t
      · subst c2
        have e3 : (rs.take j ++ [r] ++ rs.drop j)[j]? = some r := by
          rw [List.append_assoc, List.getElem?_append_right (by simp; omega)]
          simp [Nat.min_eq_left ht]
        have e4 : (vs.take j ++ [va] ++ vs.drop j)[j]? = some va := by
          rw [List.append_assoc, List.getElem?_append_right (by simp; omega)]
          simp [Nat.min_eq_left (show j ≤ vs.length by omega)]
        rw [List.getElem?_eq_getElem h1'] at e3
        rw [List.getElem?_eq_getElem h2] at e4
        simp only [Option.some.injEq] at e3 e4
        rw [e3, e4]
        exact hr.fresh hB ho
      · rw [List.getElem_append_right (by simp; omega), List.getElem_append_right (by simp; omega), List.getElem_drop, List.getElem_drop]
        have q1 : t + (j - (rs.take t ++ [r]).length) = j - 1 := by simp; omega
        have q2 : t + (j - (vs.take t ++ [va]).length) = j - 1 := by simp; omega
        simp only [q1, q2]
        exact Cd1.fresh (h.rd (j - 1) (by omega) (by omega)) hB ho
  exact ⟨by simp; omega, by rw [e1, e2]; exact own_base hown hbase, key⟩
/-- a block of one element's cells -/
def New5 (w : World) (g : Nat) (cs : List Value) : Prop := w.heap[g]? = some (.cells cs.toArray 35 (0, 0))
theorem new5_of {w : World} {g : Nat} {cs : List Value} (h : w.heap[g]? = some (.cells cs.toArray 35 (0, 0))) : New5 w g cs := h
theorem New5.below2 {w w' : World} {g : Nat} {cs : List Value} (h : New5 w g cs) (hB : Below w.heap.size w w') : New5 w' g cs := (hB.block g (Array.getElem?_eq_some_iff.1 h).1).trans h
theorem New5.news {w : World} {g : Nat} {cs : List Value} (h : New5 w g cs) : ∀ j u, cs[j]? = some u → w.cell? ((⟨g, 0, none⟩ : Addr).add j) = some u := fun j u hj => by
  rw [addr_add, Nat.zero_add]
  exact (cell_of_row w g j _ _ _ h).trans (by simpa using hj)
theorem New5.grown2 {w w' : World} {g : Nat} {cs : List Value} (h : New5 w g cs) {v : Value} (hg : w.grownBy w' v.ownBlock) (hne : v.ownBlock ≠ some g) : New5 w' g cs := (hg.block g (Array.getElem?_eq_some_iff.1 h).1 (fun e => hne e.symm)).trans h
/-- the cells of a list, from a place on, wherever the list is still read -/
theorem CpI.news {base E : Nat} {Y : World} {g m cap : Nat} {rs : List Cp} {vs : List Value} (h : CpI base E Y (.slice (some ⟨g, 0, none⟩) m cap) rs vs) (hl : rs.length = m) {W : World} (hB : Below Y.heap.size Y W) (o : Nat) : ∀ j u, ((cpcells rs vs).drop o)[j]? = some u → W.cell? ((⟨g, o, none⟩ : Addr).add j) = some u := by
  intro j u hj
  have hg : g < Y.heap.size := (h.own.lt g (by simp [Value.ownBlock])).2
  rw [List.getElem?_drop] at hj
  have hlt := (List.getElem?_eq_some_iff.1 hj).1
  rw [h.own.1] at hlt
  subst hl
  rw [addr_add]
  refine (World.cell?_of_block (a := ⟨g, o + j, none⟩) (hB.block g hg)).trans ?_
  rw [h.own.cellAt (o + j) hlt, hj]
theorem CpI.time {base E : Nat} {Y : World} {g m cap : Nat} {rs : List Cp} {vs : List Value} (h : CpI base E Y (.slice (some ⟨g, 0, none⟩) m cap) rs vs) (hl : rs.length = m) {W : World} (hB : Below Y.heap.size Y W) {j : Nat} (hj : j < m) : W.cell? ⟨g, j * 5, none⟩ = some (.int .i64 (rs.getD j default).t) := by
  have hj' : j < rs.length := by omega
  have h0 := (cpcells_get rs vs j hj' (by have := h.len; omega)).1
  have := h.news hl hB 0 (j * 5) _ (by rw [List.drop_zero]; exact h0)
  rw [addr_add, Nat.zero_add] at this
  rw [this, List.getD_eq_getElem?_getD, List.getElem?_eq_getElem hj']
  rfl
theorem kindR_drop (gs : List (Int × Int)) (id : Int) (k : Nat) (hk : k < gs.length) : kindR (gs.drop k) id = if gs[k].1 = id ∧ (kindR (gs.drop (k + 1)) id ≠ 1 ∨ gs[k].2 = 1) then gs[k].2 else kindR (gs.drop (k + 1)) id := by
  rw [List.drop_eq_getElem_cons hk]
  rfl
end Go.Proofs.YtccknpdnapoboaaDoor
namespace Go.Proofs.YtccknpdnapoboaaDoor
open Go.RowKit

set_option linter.unusedSimpArgs false in
set_option linter.unusedVariables false in
set_option maxRecDepth 100000 in
set_option maxHeartbeats 8000000 in
theorem rmake_any (v0 v1 : Value) (ts : List Tr) (rs : List Rc) (w : World) (h0 : Txs w v0 ts) (h1 : Rcs w v1 rs) (hn : ts.length ≤ 64) (hm : rs.length ≤ 200) (hL : ∀ t ∈ ts, t.bs.length ≤ 260)
    (hids : ∀ j i, i < j → j < ts.length → (ts.getD i default).id < (ts.getD j default).id) :
    Calls Tryd.prog 27 #[v0, v1] w fun e w' => ∃ v' p, e = .returned v' ∧ Mem (fun k => k) p 0 ts.length ∧ Srt (fun x y => tlt (ts.getD x default) (ts.getD y default)) p 0 ts.length ∧
      Cps w' v' (prm (fun x => recOf (rs.map fun r => (r.id, r.kd)) (ts.getD x default)) p ts.length) ∧ Below w.heap.size w w' := by
  obtain ⟨i0, hi0, hu0, hu1, hu2⟩ := info_parts Tryd.info_u8
  obtain ⟨i5, hi5, hy0, hy1, hy2⟩ := info_parts Tryd.info_cp
  obtain ⟨n, hnn⟩ : ∃ n, ts.length = n := ⟨_, rfl⟩
  obtain ⟨m, hmn⟩ : ∃ n, rs.length = n := ⟨_, rfl⟩
  obtain ⟨gs, hgs⟩ : ∃ gs, (rs.map fun r => (r.id, r.kd)) = gs := ⟨_, rfl⟩
  obtain ⟨hf, hff⟩ : ∃ f : Nat → Cp, f = fun x => recOf gs (ts.getD x default) := ⟨_, rfl⟩
  have HN := Lib.hid hnn
  have HM := Lib.hid hmn
  have HGS := Lib.hid hgs
  have HFF := Lib.hid hff
  have H0 := Lib.hid h0
  have H1 := Lib.hid h1
  have HLB := Lib.hid hL
  have HIDS := Lib.hid hids
  have hv0 : ∃ a c, v0 = .slice a n c := by
    obtain ⟨_, ao, cap, rfl, _⟩ := h0
    exact ⟨ao, cap, by rw [hnn]⟩
  have hv1 : ∃ a c, v1 = .slice a m c := by
    obtain ⟨_, ao, cap, rfl, _⟩ := h1
    exact ⟨ao, cap, by rw [hmn]⟩
  obtain ⟨a0, c0, rfl⟩ := hv0
  obtain ⟨a1, c1, rfl⟩ := hv1
  rw [hgs, ← hff]
  rw [hnn] at hn ⊢
  rw [hmn] at hm
  have own0 := World.ownsRow_made (base := w.heap.size) (e := 35) (size := 5) w #[] 0 (Nat.le_refl _) (by unfold maxLen; omega) rfl
  have hb0 : Below w.heap.size w (w.alloc (.cells #[] 35)) := (Below.refl _ _).alloc (Nat.le_refl _) _
  have inv0 : CpI w.heap.size 35 (w.alloc (.cells #[] 35)) (.slice (some ⟨w.heap.size, 0, none⟩) 0 0) (prm hf (fun k => k) 0) [] := ⟨rfl, own0, fun j h => absurd h (by simp [prm])⟩
  have INV0 := Lib.hid inv0
  clear h0 h1 hL hids hnn hmn hgs hff own0 inv0
  go_enter Tryd.func27, Tryd.ntmps27
  go_wp2_with fail
  go_loopw [5, 6, 7, 8, 9, 10] (fun out i _ _ _ _ wr => ∃ (k : Nat) (q : Nat → Nat) (vs : List Value), k ≤ n ∧ i = .int .i64 k ∧ out ≠ .slice none 0 0 ∧ Hid (CpI w.heap.size 35 wr out (prm hf q k) vs) ∧ Hid (Mem (fun k => k) q 0 k) ∧ Hid (Srt (fun x y => tlt (ts.getD x default) (ts.getD y default)) q 0 k) ∧ Below w.heap.size w wr) (fun _ i _ _ _ _ _ => n - (intOf i).toNat)
  case atStart => exact ⟨0, fun k => k, [], by omega, by simp, by simp, INV0.out, Mem.refl _ _ _, fun i j h1 h2 => by omega, hb0⟩
  case round =>
    obtain ⟨k, q, vs, hk, rfl, hne, hinv, hmem, hsrt, hB⟩ := hrel
    by_cases hlt : k < n
    · have hkl : k < ts.length := by rw [HN.out]; exact hlt
      obtain ⟨b, off, rfl, hb, hx⟩ := H0.out.2.elim fun ao h => h.elim fun cap h => by
        have e := h.1
        rw [HN.out] at e
        cases e
        exact h.2 (by omega)
      obtain ⟨ra, rc, d0, d1, d2, d3, d4, hby⟩ := (hx k hkl).below hB
      have hlb := HLB.out _ (List.getElem_mem hkl)
      have hfk : hf k = recOf gs ts[k] := by rw [HFF.out]; simp only; rw [List.getD_eq_getElem?_getD, List.getElem?_eq_getElem hkl]; rfl
      have hgk : ts.getD k default = ts[k] := by rw [List.getD_eq_getElem?_getD, List.getElem?_eq_getElem hkl]; rfl
      obtain ⟨⟨I, F, C, S, bs⟩, he⟩ : ∃ t, ts[k] = t := ⟨_, rfl⟩
      rw [he] at d0 d1 d2 d3 d4 hby hlb hfk hgk
      simp only at d0 d1 d2 d3 d4 hby hlb
      obtain ⟨KK, hKK⟩ : ∃ x, kindR gs I = x := ⟨_, rfl⟩
      have hrec : hf k = ⟨S, C, F, KK, bs⟩ := by rw [hfk]; unfold recOf; rw [hKK]
      obtain ⟨L, hL⟩ : ∃ L, bs.length = L := ⟨_, rfl⟩
      rw [hL] at d4 hby hlb
      have hi1 : (k : Int) < (n : Int) := by omega
      have g1 : decide ((k : Int) < (n : Int)) = true := by simp; omega
      have w1 : IntKind.i64.wrap ((k : Int) + 1) = (k : Int) + 1 := IntWalk.i64_in _ (by omega)
      have HL := Lib.hid hL
      have HREC := Lib.hid hrec
      have HGK := Lib.hid hgk
      have HKK := Lib.hid hKK
      have HBY := Lib.hid hby
      have HB := Lib.hid hB
      clear hx he hfk hgk hrec hKK hby hL hB
      go_upto_region 6 with fail
      generalize hV : World.alloc wr _ = V
      obtain ⟨h7, hV7, h7z⟩ := alloc_named hV
      have TT : Cells V (blk wr.heap.size 0 0 [.int .i64 I, .int .i64 F, .int .i64 C, .int .i64 S, .slice ra L rc]) := ⟨cell_of_row _ _ 0 _ _ _ h7, cell_of_row _ _ 1 _ _ _ h7, cell_of_row _ _ 2 _ _ _ h7, cell_of_row _ _ 3 _ _ _ h7, cell_of_row _ _ 4 _ _ _ h7, trivial⟩
      have HINV := Lib.hid (hinv.out.below hV7)
      have hby7 := HBY.out.below hV7
      have hs7 := hby7.1
      rw [HL.out] at hs7
      have HSR := Lib.hid hs7
      have HRE := Lib.hid hby7.2
      have HF := Lib.hid (HB.out.trans (hV7.mono HB.out.size))
      have HSZ := Lib.hid (Nat.le_of_eq h7z.symm)
      have HT7 := Lib.hid h7
      clear hV h7 h7z hV7 d0 d1 d2 d3 d4 hinv hby7 hs7
      go_cut [8] (fun p wx => ∃ i xa xc, p = .pointer (some ⟨i, 0, none⟩) ∧ V.heap.size ≤ i ∧ wx.heap[i]? = some (.cells #[.int .i64 S, .int .i64 C, .int .i64 F, .int .i64 0, .slice xa L xc] 35 (0, 0)) ∧ BytesAt wx (.slice xa L xc) bs ∧ (∀ k, (Value.slice xa L xc).ownBlock = some k → V.heap.size ≤ k) ∧ (L = 0 ∨ ∀ k, (Value.slice xa L xc).ownBlock = some k → k ≠ i) ∧ Below V.heap.size V wx)
      case first =>
        refine wp_region_held_drew (S := (fun W' : World => Below V.heap.size V W' ∧ V.heap.size ≤ W'.heap.size ∧ Cells W' (blk wr.heap.size 0 0 [.int .i64 I, .int .i64 F, .int .i64 C, .int .i64 S, .slice ra L rc]))) (by kernel_rfl) (⟨(Below.refl _ _).drew, Nat.le_refl _, TT.drew⟩) (fun hHeld => ?_)
        generalize World.drew _ = wd at hHeld ⊢
        have hz := hHeld.2.1
        refine wpAnyH_take (i := 0) (oi := _) (v := ?_) (by rw [List.getElem?_toArray]; rfl) (by kernel_rfl) (by kernel_rfl) (by kernel_rfl) (by exact fun _ _ _ h => h) (Or.inl ⟨by rfl, ?_⟩) (by assumption) ?_
        rotate_left
        · intro w hSw
          try simp only [Cells, blk, List.cons_append, List.nil_append, and_true, Nat.reduceAdd, Nat.add_zero, Nat.zero_add] at hSw
          go_simp
          try with_reducible rfl
        simp only [Act.put, List.setIfInBounds_toArray, List.set_cons_zero, List.set_cons_succ]
        refine wpAnyH_take (i := 1) (oi := _) (v := ?_) (by rw [List.getElem?_toArray]; rfl) (by kernel_rfl) (by kernel_rfl) (by kernel_rfl) (by exact fun _ _ _ h => h) (Or.inl ⟨by rfl, ?_⟩) (by assumption) ?_
        rotate_left
        · intro w hSw
          try simp only [Cells, blk, List.cons_append, List.nil_append, and_true, Nat.reduceAdd, Nat.add_zero, Nat.zero_add] at hSw
          go_simp
          try with_reducible rfl
        simp only [Act.put, List.setIfInBounds_toArray, List.set_cons_zero, List.set_cons_succ]
        refine wpAnyH_take (i := 2) (oi := _) (v := ?_) (by rw [List.getElem?_toArray]; rfl) (by kernel_rfl) (by kernel_rfl) (by kernel_rfl) (by exact fun _ _ _ h => h) (Or.inl ⟨by rfl, ?_⟩) (by assumption) ?_
        rotate_left
        · intro w hSw
          try simp only [Cells, blk, List.cons_append, List.nil_append, and_true, Nat.reduceAdd, Nat.add_zero, Nat.zero_add] at hSw
          go_simp
          try with_reducible rfl
        simp only [Act.put, List.setIfInBounds_toArray, List.set_cons_zero, List.set_cons_succ]
        refine wpAnyH_take (i := 3) (oi := _) (v := ?_) (by rw [List.getElem?_toArray]; rfl) (by kernel_rfl) (by kernel_rfl) (by kernel_rfl) (by exact fun _ _ _ h => h) (Or.inl ⟨by rfl, ?_⟩) (by assumption) ?_
        rotate_left
        · intro w hSw
          try simp only [Cells, blk, List.cons_append, List.nil_append, and_true, Nat.reduceAdd, Nat.add_zero, Nat.zero_add] at hSw
          go_simp
          try with_reducible rfl
        simp only [Act.put, List.setIfInBounds_toArray, List.set_cons_zero, List.set_cons_succ]
        refine wpAnyH_take (i := 4) (oi := _) (v := ?_) (by rw [List.getElem?_toArray]; rfl) (by kernel_rfl) (by kernel_rfl) (by kernel_rfl) (by exact fun _ _ _ h => h) (Or.inl ⟨by rfl, ?_⟩) (by assumption) ?_
        rotate_left
        · intro w hSw
          try simp only [Cells, blk, List.cons_append, List.nil_append, and_true, Nat.reduceAdd, Nat.add_zero, Nat.zero_add] at hSw
          go_simp
          try with_reducible rfl
        simp only [Act.put, List.setIfInBounds_toArray, List.set_cons_zero, List.set_cons_succ]
        refine wpAnyH_take (i := 5) (oi := _) (v := ?_) (by rw [List.getElem?_toArray]; rfl) (by kernel_rfl) (by kernel_rfl) (by kernel_rfl) (by exact fun _ _ _ h => h) (Or.inl ⟨by rfl, ?_⟩) (by assumption) ?_
        rotate_left
        · intro w hSw
          try simp only [Cells, blk, List.cons_append, List.nil_append, and_true, Nat.reduceAdd, Nat.add_zero, Nat.zero_add] at hSw
          go_simp
          try with_reducible rfl
        simp only [Act.put, List.setIfInBounds_toArray, List.set_cons_zero, List.set_cons_succ]
        refine wpAnyH_take (i := 7) (oi := _) (v := ?_) (by rw [List.getElem?_toArray]; rfl) (by kernel_rfl) (by kernel_rfl) (by kernel_rfl) (by exact fun _ _ _ h => h) (Or.inl ⟨by rfl, ?_⟩) (by assumption) ?_
        rotate_left
        · intro w hSw
          try simp only [Cells, blk, List.cons_append, List.nil_append, and_true, Nat.reduceAdd, Nat.add_zero, Nat.zero_add] at hSw
          go_simp
          try with_reducible rfl
        simp only [Act.put, List.setIfInBounds_toArray, List.set_cons_zero, List.set_cons_succ]
        refine wpAnyH_take (i := 8) (oi := _) (v := ?_) (by rw [List.getElem?_toArray]; rfl) (by kernel_rfl) (by kernel_rfl) (by kernel_rfl) (by exact fun _ _ _ h => h) (Or.inl ⟨by rfl, ?_⟩) (by assumption) ?_
        rotate_left
        · intro w hSw
          try simp only [Cells, blk, List.cons_append, List.nil_append, and_true, Nat.reduceAdd, Nat.add_zero, Nat.zero_add] at hSw
          go_simp
          try with_reducible rfl
        simp only [Act.put, List.setIfInBounds_toArray, List.set_cons_zero, List.set_cons_succ]
        refine wpAnyH_ready (rs := [6, 11]) (by kernel_rfl) (by simp) (AllReadyH.cons (o := _) (by rw [List.getElem?_toArray]; rfl) (fun K hK => ?_) (AllReadyH.cons (o := _) (by rw [List.getElem?_toArray]; rfl) (fun K hK => ?_) AllReadyH.nil))
        · go_simp
          generalize hX : World.alloc _ (.cells #[] 5) = w6
          obtain ⟨h6, hB6, h6z⟩ := alloc_named hX
          clear hX h6
          try have hGI := Nat.ne_of_gt h11s
          have hsr := HSR.out.below (hHeld.1.trans (hB6.mono (by have := hHeld.2.1; omega)))
          refine hK.out _ _ (⟨hHeld.1.trans (hB6.mono (by have := hHeld.2.1; omega)), Nat.le_trans hHeld.2.1 hB6.size, hHeld.2.2.keep hB6⟩) (fun hHeld2 => ?_)
          replace hHeld := hHeld2
          clear hK K hHeld2
          try simp only [Act.put, List.setIfInBounds_toArray, List.set_cons_zero, List.set_cons_succ]
          have h6s := Nat.le_of_eq h6z.symm
          clear h6z
          have hG1 := hz
          have hz := hHeld.2.1
          try replace h11 := (hB6.block _ (by have := h11s; omega)).trans h11
          try replace h11s := Nat.le_trans h11s hB6.size
          clear hB6
          refine wpAnyH_ready (rs := [9, 11]) (by kernel_rfl) (by simp) (AllReadyH.cons (o := _) (by rw [List.getElem?_toArray]; rfl) (fun K hK => ?_) (AllReadyH.cons (o := _) (by rw [List.getElem?_toArray]; rfl) (fun K hK => ?_) AllReadyH.nil))
          · refine step_append_empty (by rfl) _ _ 25 (by rfl) 5 i0 _ 1 1 Tryd.underlying25 hi0 hu0 hu1 hu2 rfl (by decide) _ (by rfl) (.slice ra L rc) L (bcells bs) (by rfl) hsr (by omega) ?_
            intro v9 w9 hr9 hB9 ho9 hn9
            obtain ⟨xa, xc, rfl⟩ := hr9.val
            have hbo : BytesAt w9 (.slice xa L xc) bs := ⟨by rw [HL.out]; exact hr9, HRE.out⟩
            have hbl := hr9.own_lt
            have hol : ∀ k, (Value.slice xa L xc).ownBlock = some k → V.heap.size ≤ k := fun k hk => ho9.elim (fun h => by rw [h] at hk; cases hk; exact hG1) (fun h => by rw [h] at hk; cases hk; exact hHeld.2.1)
            refine hK.out _ _ (⟨hHeld.1.trans (hB9.mono (by have := hHeld.2.1; omega)), Nat.le_trans hHeld.2.1 hB9.size, hHeld.2.2.keep hB9⟩) (fun hHeld2 => ?_)
            replace hHeld := hHeld2
            clear hK K hHeld2
            try simp only [Act.put, List.setIfInBounds_toArray, List.set_cons_zero, List.set_cons_succ]
            try have hne : L = 0 ∨ ∀ k, (Value.slice xa L xc).ownBlock = some k → k ≠ _ := .inr fun k hk e => ho9.elim (fun h => absurd ((Option.some.inj (hk.symm.trans h)).symm.trans e) hGI) (fun h => absurd ((Option.some.inj (hk.symm.trans h)).symm.trans e) (Nat.ne_of_gt h11s))
            try replace h11 := (hB9.block _ (by have := h11s; omega)).trans h11
            try replace h11s := Nat.le_trans h11s hB9.size
            have hz := hHeld.2.1
            clear hB9 hsr hr9 ho9 hn9
            try have f0 := cell_of_row _ _ 0 _ _ _ h11
            try have f1 := cell_of_row _ _ 1 _ _ _ h11
            try have f2 := cell_of_row _ _ 2 _ _ _ h11
            try have f3 := cell_of_row _ _ 3 _ _ _ h11
            try have f4 := cell_of_row _ _ 4 _ _ _ h11
            try have y0 := frozen_of_row _ _ 0 _ _ h11
            try have y1 := frozen_of_row _ _ 1 _ _ h11
            try have y2 := frozen_of_row _ _ 2 _ _ h11
            try have y3 := frozen_of_row _ _ 3 _ _ h11
            try have y4 := frozen_of_row _ _ 4 _ _ h11
            try simp at f0 f1 f2 f3 f4
            refine wpAnyH_take (i := 10) (oi := _) (v := ?_) (by rw [List.getElem?_toArray]; rfl) (by kernel_rfl) (by kernel_rfl) (by kernel_rfl) (by exact fun _ _ _ h => h) (Or.inl ⟨by rfl, ?_⟩) (by assumption) ?_
            rotate_left
            · intro w hSw
              try simp only [Cells, blk, List.cons_append, List.nil_append, and_true, Nat.reduceAdd, Nat.add_zero, Nat.zero_add] at hSw
              go_simp
              try with_reducible rfl
            simp only [Act.put, List.setIfInBounds_toArray, List.set_cons_zero, List.set_cons_succ]
            refine wpAnyH_ready (rs := [11]) (by kernel_rfl) (by simp) (AllReadyH.cons (o := _) (by rw [List.getElem?_toArray]; rfl) (fun K hK => ?_) AllReadyH.nil)
            go_simp
            generalize hX : World.alloc _ (.cells _ 35) = w11
            obtain ⟨h11, hB11, h11z⟩ := alloc_named hX
            clear hX
            try have hne : L = 0 ∨ ∀ k, (Value.slice xa L xc).ownBlock = some k → k ≠ _ := hbl.imp id (fun h k hk e => absurd e (Nat.ne_of_lt (h k hk)))
            try have hGI := Nat.ne_of_lt h6s
            refine hK.out _ _ (⟨hHeld.1.trans (hB11.mono (by have := hHeld.2.1; omega)), Nat.le_trans hHeld.2.1 hB11.size, hHeld.2.2.keep hB11⟩) (fun hHeld2 => ?_)
            replace hHeld := hHeld2
            clear hK K hHeld2
            try simp only [Act.put, List.setIfInBounds_toArray, List.set_cons_zero, List.set_cons_succ]
            have h11s := Nat.le_of_eq h11z.symm
            clear h11z
            have hi11 := hz
            have hz := hHeld.2.1
            try replace h6s := Nat.le_trans h6s hB11.size
            try replace hsr := hsr.below hB11
            try replace hbo := hbo.below hB11
            clear hB11
            try have f0 := cell_of_row _ _ 0 _ _ _ h11
            try have f1 := cell_of_row _ _ 1 _ _ _ h11
            try have f2 := cell_of_row _ _ 2 _ _ _ h11
            try have f3 := cell_of_row _ _ 3 _ _ _ h11
            try have f4 := cell_of_row _ _ 4 _ _ _ h11
            try have y0 := frozen_of_row _ _ 0 _ _ h11
            try have y1 := frozen_of_row _ _ 1 _ _ h11
            try have y2 := frozen_of_row _ _ 2 _ _ h11
            try have y3 := frozen_of_row _ _ 3 _ _ h11
            try have y4 := frozen_of_row _ _ 4 _ _ h11
            try simp at f0 f1 f2 f3 f4
            refine wpAnyH_ready (rs := [12]) (by kernel_rfl) (by simp) (AllReadyH.cons (o := _) (by rw [List.getElem?_toArray]; rfl) (fun K hK => ?_) AllReadyH.nil)
            go_simp
            generalize hX : World.setCell _ _ _ = w12
            obtain ⟨h12, hg12⟩ := set5 h11 hX
            clear hX
            have hbo12 := hbo.grownE hg12 (by rw [HL.out]; exact hne)
            refine hK.out _ _ (⟨hHeld.1.grown hg12 (by have := hHeld.2.1; omega) (fun q hq => by have := hi11; simp at hq; omega), Nat.le_trans hHeld.2.1 hg12.size, hHeld.2.2.grown hg12 (fun x hx => by have := hi11; have := HSZ.out; simp [blk] at hx; rcases hx with rfl | rfl | rfl | rfl | rfl <;> (simp; omega))⟩) (fun hHeld2 => ?_)
            replace hHeld := hHeld2
            clear hK K hHeld2
            try simp only [Act.put, List.setIfInBounds_toArray, List.set_cons_zero, List.set_cons_succ]
            have hz := hHeld.2.1
            refine wpAnyH_done (by kernel_rfl) ?_ _
            go_wp2_with fail
            go_meet
            exact ⟨_, _, _, rfl, hi11, h12, hbo12, hol, hne, hHeld.1⟩
          · go_simp
            generalize hX : World.alloc _ (.cells _ 35) = w11
            obtain ⟨h11, hB11, h11z⟩ := alloc_named hX
            clear hX
            try have hne : L = 0 ∨ ∀ k, (Value.slice xa L xc).ownBlock = some k → k ≠ _ := hbl.imp id (fun h k hk e => absurd e (Nat.ne_of_lt (h k hk)))
            try have hGI := Nat.ne_of_lt h6s
            refine hK.out _ _ (⟨hHeld.1.trans (hB11.mono (by have := hHeld.2.1; omega)), Nat.le_trans hHeld.2.1 hB11.size, hHeld.2.2.keep hB11⟩) (fun hHeld2 => ?_)
            replace hHeld := hHeld2
            clear hK K hHeld2
            try simp only [Act.put, List.setIfInBounds_toArray, List.set_cons_zero, List.set_cons_succ]
            have h11s := Nat.le_of_eq h11z.symm
            clear h11z
            have hi11 := hz
            have hz := hHeld.2.1
            try replace h6s := Nat.le_trans h6s hB11.size
            try replace hsr := hsr.below hB11
            try replace hbo := hbo.below hB11
            clear hB11
            try have f0 := cell_of_row _ _ 0 _ _ _ h11
            try have f1 := cell_of_row _ _ 1 _ _ _ h11
            try have f2 := cell_of_row _ _ 2 _ _ _ h11
            try have f3 := cell_of_row _ _ 3 _ _ _ h11
            try have f4 := cell_of_row _ _ 4 _ _ _ h11
            try have y0 := frozen_of_row _ _ 0 _ _ h11
            try have y1 := frozen_of_row _ _ 1 _ _ h11
            try have y2 := frozen_of_row _ _ 2 _ _ h11
            try have y3 := frozen_of_row _ _ 3 _ _ h11
            try have y4 := frozen_of_row _ _ 4 _ _ h11
            try simp at f0 f1 f2 f3 f4
            refine wpAnyH_ready (rs := [9]) (by kernel_rfl) (by simp) (AllReadyH.cons (o := _) (by rw [List.getElem?_toArray]; rfl) (fun K hK => ?_) AllReadyH.nil)
            refine step_append_empty (by rfl) _ _ 25 (by rfl) 5 i0 _ 1 1 Tryd.underlying25 hi0 hu0 hu1 hu2 rfl (by decide) _ (by rfl) (.slice ra L rc) L (bcells bs) (by rfl) hsr (by omega) ?_
            intro v9 w9 hr9 hB9 ho9 hn9
            obtain ⟨xa, xc, rfl⟩ := hr9.val
            have hbo : BytesAt w9 (.slice xa L xc) bs := ⟨by rw [HL.out]; exact hr9, HRE.out⟩
            have hbl := hr9.own_lt
            have hol : ∀ k, (Value.slice xa L xc).ownBlock = some k → V.heap.size ≤ k := fun k hk => ho9.elim (fun h => by rw [h] at hk; cases hk; exact hG1) (fun h => by rw [h] at hk; cases hk; exact hHeld.2.1)
            refine hK.out _ _ (⟨hHeld.1.trans (hB9.mono (by have := hHeld.2.1; omega)), Nat.le_trans hHeld.2.1 hB9.size, hHeld.2.2.keep hB9⟩) (fun hHeld2 => ?_)
            replace hHeld := hHeld2
            clear hK K hHeld2
            try simp only [Act.put, List.setIfInBounds_toArray, List.set_cons_zero, List.set_cons_succ]
            try have hne : L = 0 ∨ ∀ k, (Value.slice xa L xc).ownBlock = some k → k ≠ _ := .inr fun k hk e => ho9.elim (fun h => absurd ((Option.some.inj (hk.symm.trans h)).symm.trans e) hGI) (fun h => absurd ((Option.some.inj (hk.symm.trans h)).symm.trans e) (Nat.ne_of_gt h11s))
            try replace h11 := (hB9.block _ (by have := h11s; omega)).trans h11
            try replace h11s := Nat.le_trans h11s hB9.size
            have hz := hHeld.2.1
            clear hB9 hsr hr9 ho9 hn9
            try have f0 := cell_of_row _ _ 0 _ _ _ h11
            try have f1 := cell_of_row _ _ 1 _ _ _ h11
            try have f2 := cell_of_row _ _ 2 _ _ _ h11
            try have f3 := cell_of_row _ _ 3 _ _ _ h11
            try have f4 := cell_of_row _ _ 4 _ _ _ h11
            try have y0 := frozen_of_row _ _ 0 _ _ h11
            try have y1 := frozen_of_row _ _ 1 _ _ h11
            try have y2 := frozen_of_row _ _ 2 _ _ h11
            try have y3 := frozen_of_row _ _ 3 _ _ h11
            try have y4 := frozen_of_row _ _ 4 _ _ h11
            try simp at f0 f1 f2 f3 f4
            refine wpAnyH_take (i := 10) (oi := _) (v := ?_) (by rw [List.getElem?_toArray]; rfl) (by kernel_rfl) (by kernel_rfl) (by kernel_rfl) (by exact fun _ _ _ h => h) (Or.inl ⟨by rfl, ?_⟩) (by assumption) ?_
            rotate_left
            · intro w hSw
              try simp only [Cells, blk, List.cons_append, List.nil_append, and_true, Nat.reduceAdd, Nat.add_zero, Nat.zero_add] at hSw
              go_simp
              try with_reducible rfl
            simp only [Act.put, List.setIfInBounds_toArray, List.set_cons_zero, List.set_cons_succ]
            refine wpAnyH_ready (rs := [12]) (by kernel_rfl) (by simp) (AllReadyH.cons (o := _) (by rw [List.getElem?_toArray]; rfl) (fun K hK => ?_) AllReadyH.nil)
            go_simp
            generalize hX : World.setCell _ _ _ = w12
            obtain ⟨h12, hg12⟩ := set5 h11 hX
            clear hX
            have hbo12 := hbo.grownE hg12 (by rw [HL.out]; exact hne)
            refine hK.out _ _ (⟨hHeld.1.grown hg12 (by have := hHeld.2.1; omega) (fun q hq => by have := hi11; simp at hq; omega), Nat.le_trans hHeld.2.1 hg12.size, hHeld.2.2.grown hg12 (fun x hx => by have := hi11; have := HSZ.out; simp [blk] at hx; rcases hx with rfl | rfl | rfl | rfl | rfl <;> (simp; omega))⟩) (fun hHeld2 => ?_)
            replace hHeld := hHeld2
            clear hK K hHeld2
            try simp only [Act.put, List.setIfInBounds_toArray, List.set_cons_zero, List.set_cons_succ]
            have hz := hHeld.2.1
            refine wpAnyH_done (by kernel_rfl) ?_ _
            go_wp2_with fail
            go_meet
            exact ⟨_, _, _, rfl, hi11, h12, hbo12, hol, hne, hHeld.1⟩
        · go_simp
          generalize hX : World.alloc _ (.cells _ 35) = w11
          obtain ⟨h11, hB11, h11z⟩ := alloc_named hX
          clear hX
          try have hne : L = 0 ∨ ∀ k, (Value.slice xa L xc).ownBlock = some k → k ≠ _ := hbl.imp id (fun h k hk e => absurd e (Nat.ne_of_lt (h k hk)))
          try have hGI := Nat.ne_of_lt h6s
          refine hK.out _ _ (⟨hHeld.1.trans (hB11.mono (by have := hHeld.2.1; omega)), Nat.le_trans hHeld.2.1 hB11.size, hHeld.2.2.keep hB11⟩) (fun hHeld2 => ?_)
          replace hHeld := hHeld2
          clear hK K hHeld2
          try simp only [Act.put, List.setIfInBounds_toArray, List.set_cons_zero, List.set_cons_succ]
          have h11s := Nat.le_of_eq h11z.symm
          clear h11z
          have hi11 := hz
          have hz := hHeld.2.1
          try replace h6s := Nat.le_trans h6s hB11.size
          try replace hsr := hsr.below hB11
          try replace hbo := hbo.below hB11
          clear hB11
          try have f0 := cell_of_row _ _ 0 _ _ _ h11
          try have f1 := cell_of_row _ _ 1 _ _ _ h11
          try have f2 := cell_of_row _ _ 2 _ _ _ h11
          try have f3 := cell_of_row _ _ 3 _ _ _ h11
          try have f4 := cell_of_row _ _ 4 _ _ _ h11
          try have y0 := frozen_of_row _ _ 0 _ _ h11
          try have y1 := frozen_of_row _ _ 1 _ _ h11
          try have y2 := frozen_of_row _ _ 2 _ _ h11
          try have y3 := frozen_of_row _ _ 3 _ _ h11
          try have y4 := frozen_of_row _ _ 4 _ _ h11
          try simp at f0 f1 f2 f3 f4
          refine wpAnyH_ready (rs := [6]) (by kernel_rfl) (by simp) (AllReadyH.cons (o := _) (by rw [List.getElem?_toArray]; rfl) (fun K hK => ?_) AllReadyH.nil)
          go_simp
          generalize hX : World.alloc _ (.cells #[] 5) = w6
          obtain ⟨h6, hB6, h6z⟩ := alloc_named hX
          clear hX h6
          try have hGI := Nat.ne_of_gt h11s
          have hsr := HSR.out.below (hHeld.1.trans (hB6.mono (by have := hHeld.2.1; omega)))
          refine hK.out _ _ (⟨hHeld.1.trans (hB6.mono (by have := hHeld.2.1; omega)), Nat.le_trans hHeld.2.1 hB6.size, hHeld.2.2.keep hB6⟩) (fun hHeld2 => ?_)
          replace hHeld := hHeld2
          clear hK K hHeld2
          try simp only [Act.put, List.setIfInBounds_toArray, List.set_cons_zero, List.set_cons_succ]
          have h6s := Nat.le_of_eq h6z.symm
          clear h6z
          have hG1 := hz
          have hz := hHeld.2.1
          try replace h11 := (hB6.block _ (by have := h11s; omega)).trans h11
          try replace h11s := Nat.le_trans h11s hB6.size
          clear hB6
          refine wpAnyH_ready (rs := [9]) (by kernel_rfl) (by simp) (AllReadyH.cons (o := _) (by rw [List.getElem?_toArray]; rfl) (fun K hK => ?_) AllReadyH.nil)
          refine step_append_empty (by rfl) _ _ 25 (by rfl) 5 i0 _ 1 1 Tryd.underlying25 hi0 hu0 hu1 hu2 rfl (by decide) _ (by rfl) (.slice ra L rc) L (bcells bs) (by rfl) hsr (by omega) ?_
          intro v9 w9 hr9 hB9 ho9 hn9
          obtain ⟨xa, xc, rfl⟩ := hr9.val
          have hbo : BytesAt w9 (.slice xa L xc) bs := ⟨by rw [HL.out]; exact hr9, HRE.out⟩
          have hbl := hr9.own_lt
          have hol : ∀ k, (Value.slice xa L xc).ownBlock = some k → V.heap.size ≤ k := fun k hk => ho9.elim (fun h => by rw [h] at hk; cases hk; exact hG1) (fun h => by rw [h] at hk; cases hk; exact hHeld.2.1)
          refine hK.out _ _ (⟨hHeld.1.trans (hB9.mono (by have := hHeld.2.1; omega)), Nat.le_trans hHeld.2.1 hB9.size, hHeld.2.2.keep hB9⟩) (fun hHeld2 => ?_)
          replace hHeld := hHeld2
          clear hK K hHeld2
          try simp only [Act.put, List.setIfInBounds_toArray, List.set_cons_zero, List.set_cons_succ]
          try have hne : L = 0 ∨ ∀ k, (Value.slice xa L xc).ownBlock = some k → k ≠ _ := .inr fun k hk e => ho9.elim (fun h => absurd ((Option.some.inj (hk.symm.trans h)).symm.trans e) hGI) (fun h => absurd ((Option.some.inj (hk.symm.trans h)).symm.trans e) (Nat.ne_of_gt h11s))
          try replace h11 := (hB9.block _ (by have := h11s; omega)).trans h11
          try replace h11s := Nat.le_trans h11s hB9.size
          have hz := hHeld.2.1
          clear hB9 hsr hr9 ho9 hn9
          try have f0 := cell_of_row _ _ 0 _ _ _ h11
          try have f1 := cell_of_row _ _ 1 _ _ _ h11
          try have f2 := cell_of_row _ _ 2 _ _ _ h11
          try have f3 := cell_of_row _ _ 3 _ _ _ h11
          try have f4 := cell_of_row _ _ 4 _ _ _ h11
          try have y0 := frozen_of_row _ _ 0 _ _ h11
          try have y1 := frozen_of_row _ _ 1 _ _ h11
          try have y2 := frozen_of_row _ _ 2 _ _ h11
          try have y3 := frozen_of_row _ _ 3 _ _ h11
          try have y4 := frozen_of_row _ _ 4 _ _ h11
          try simp at f0 f1 f2 f3 f4
          refine wpAnyH_take (i := 10) (oi := _) (v := ?_) (by rw [List.getElem?_toArray]; rfl) (by kernel_rfl) (by kernel_rfl) (by kernel_rfl) (by exact fun _ _ _ h => h) (Or.inl ⟨by rfl, ?_⟩) (by assumption) ?_
          rotate_left
          · intro w hSw
            try simp only [Cells, blk, List.cons_append, List.nil_append, and_true, Nat.reduceAdd, Nat.add_zero, Nat.zero_add] at hSw
            go_simp
            try with_reducible rfl
          simp only [Act.put, List.setIfInBounds_toArray, List.set_cons_zero, List.set_cons_succ]
          refine wpAnyH_ready (rs := [12]) (by kernel_rfl) (by simp) (AllReadyH.cons (o := _) (by rw [List.getElem?_toArray]; rfl) (fun K hK => ?_) AllReadyH.nil)
          go_simp
          generalize hX : World.setCell _ _ _ = w12
          obtain ⟨h12, hg12⟩ := set5 h11 hX
          clear hX
          have hbo12 := hbo.grownE hg12 (by rw [HL.out]; exact hne)
          refine hK.out _ _ (⟨hHeld.1.grown hg12 (by have := hHeld.2.1; omega) (fun q hq => by have := hi11; simp at hq; omega), Nat.le_trans hHeld.2.1 hg12.size, hHeld.2.2.grown hg12 (fun x hx => by have := hi11; have := HSZ.out; simp [blk] at hx; rcases hx with rfl | rfl | rfl | rfl | rfl <;> (simp; omega))⟩) (fun hHeld2 => ?_)
          replace hHeld := hHeld2
          clear hK K hHeld2
          try simp only [Act.put, List.setIfInBounds_toArray, List.set_cons_zero, List.set_cons_succ]
          have hz := hHeld.2.1
          refine wpAnyH_done (by kernel_rfl) ?_ _
          go_wp2_with fail
          go_meet
          exact ⟨_, _, _, rfl, hi11, h12, hbo12, hol, hne, hHeld.1⟩
      case rest =>
        obtain ⟨i, xa, xc, rfl, hi2, hi, hbo, hol, hnei, hB3⟩ := hcut
        rename World => X
        have HNE := Lib.hid hnei
        have HB3 := Lib.hid hB3
        have HOL := Lib.hid hol
        have HBO := Lib.hid hbo
        have hi' : Hid (X.heap[i]? = some (.cells #[.int .i64 S, .int .i64 C, .int .i64 F, .int .i64 (kindR (gs.drop m) I), .slice xa L xc] 35 (0, 0))) := by
          refine Lib.hid ?_
          rw [List.drop_of_length_le (by rw [← HGS.out, List.length_map, HM.out]; exact Nat.le_refl _)]
          exact hi
        have HI := hi'
        have wm : IntKind.i64.wrap ((m : Int) - 1) = (m : Int) - 1 := IntWalk.i64_in _ (by omega)
        rcases HINV.out.own.2 with ⟨e0, _⟩ | ⟨gb, cap, cur, rfl, hgb, hgh, hkc, _⟩
        · exact absurd e0 hne
        rw [prm_len] at hkc HINV ⊢
        clear hi hbo hol hnei hB3 hi'
        go_wp2_with fail
        go_loopw [9] (fun v W => ∃ kk : Nat, v = .int .i64 ((kk : Int) - 1) ∧ kk ≤ m ∧ Hid (W.heap[i]? = some (.cells #[.int .i64 S, .int .i64 C, .int .i64 F, .int .i64 (kindR (gs.drop kk) I), .slice xa L xc] 35 (0, 0))) ∧ Hid (BytesAt W (.slice xa L xc) bs) ∧ Below V.heap.size V W) (fun v _ => (intOf v + 1).toNat)
        case atStart => exact ⟨m, rfl, Nat.le_refl _, HI.out, HBO.out, HB3.out⟩
        case round =>
          obtain ⟨kk, rfl, hkk, hbk, hbb, hBW⟩ := hrel
          rename World => Y0
          have hiY : i < Y0.heap.size := (Array.getElem?_eq_some_iff.1 hbk.out).1
          by_cases hk0 : 0 < kk
          · obtain ⟨k1, rfl⟩ : ∃ k1, kk = k1 + 1 := ⟨kk - 1, by omega⟩
            have e9 : (((k1 + 1 : Nat) : Int) - 1) = (k1 : Int) := by omega
            simp only [e9]
            have hk1 : k1 < rs.length := by rw [HM.out]; omega
            have hgl : k1 < gs.length := by rw [← HGS.out, List.length_map]; exact hk1
            have hdr := kindR_drop gs I k1 hgl
            have hgg : gs[k1] = (rs[k1].id, rs[k1].kd) := by simp only [← HGS.out, List.getElem_map]
            rw [hgg] at hdr
            obtain ⟨b1, off1, rfl, hb1, hx1⟩ := H1.out.2.elim fun ao h => h.elim fun cap h => by
              have e := h.1
              rw [HM.out] at e
              cases e
              exact h.2 (by omega)
            have hBB := HF.out.trans (hBW.mono HF.out.size)
            obtain ⟨va, d0, dx1, d2, dx3, dx4, dx5, dx6⟩ := hx1 k1 hk1
            clear dx1 dx3 dx4 dx5 dx6
            replace d0 := kc d0 hBB
            replace d2 := kc d2 hBB
            obtain ⟨⟨RI, RX, RY, RS, RE, rbs⟩, hr⟩ : ∃ r, rs[k1] = r := ⟨_, rfl⟩
            rw [hr] at d0 d2 hdr
            simp only at d0 d2 hdr
            obtain ⟨K0, hK0⟩ : ∃ x, kindR (gs.drop (k1 + 1)) I = x := ⟨_, rfl⟩
            rw [hK0] at hdr hbk
            obtain ⟨B1, hB1⟩ : ∃ x, (RI == I) = x := ⟨_, rfl⟩
            obtain ⟨B2, hB2⟩ : ∃ x, (K0 != 1) = x := ⟨_, rfl⟩
            obtain ⟨B3, hB3⟩ : ∃ x, (RY == 1) = x := ⟨_, rfl⟩
            have hdr2 : kindR (gs.drop k1) I = if (B1 && (B2 || B3)) = true then RY else K0 := by
              rw [hdr, ← hB1, ← hB2, ← hB3]
              simp
            obtain ⟨BB, hBBe⟩ : ∃ x, (B1 && (B2 || B3)) = x := ⟨_, rfl⟩
            rw [hBBe] at hdr2
            have HDR := Lib.hid hdr2
            have HBBE := Lib.hid hBBe
            have TY0 : Cells Y0 ([(b1, off1 + k1 * 6, .int .i64 RI), (b1, off1 + k1 * 6 + 2, .int .i64 RY)] ++ ((blk wr.heap.size 0 0 [.int .i64 I, .int .i64 F, .int .i64 C, .int .i64 S, .slice ra L rc]) ++ (blk i 0 0 [.int .i64 S, .int .i64 C, .int .i64 F, .int .i64 K0, .slice xa L xc]))) := ⟨d0, d2, (TT.keep hBW).app ⟨cell_of_row _ _ 0 _ _ _ hbk.out, cell_of_row _ _ 1 _ _ _ hbk.out, cell_of_row _ _ 2 _ _ _ hbk.out, cell_of_row _ _ 3 _ _ _ hbk.out, cell_of_row _ _ 4 _ _ _ hbk.out, trivial⟩⟩
            have hi0 : (0 : Int) ≤ (k1 : Int) := by omega
            have hi1 : (k1 : Int) < (m : Int) := by omega
            have g3 : decide ((0 : Int) ≤ (k1 : Int)) = true := by simp
            have w3 : IntKind.i64.wrap ((k1 : Int) - 1) = (k1 : Int) - 1 := IntWalk.i64_in _ (by omega)
            have HBW := Lib.hid hBW
            clear e9 hk1 hgl hdr hgg hx1 hBB hr hK0 hdr2 hBBe d0 d2 hk0 hBW
            go_upto_region 10 with fail
            go_cut [60] (fun b wx => b = .bool BB ∧ Below Y0.heap.size Y0 wx)
            case first =>
              cases B1 with
              | false =>
                refine wp_region_held_drew (S := (fun W' : World => Cells W' ([(b1, off1 + k1 * 6, .int .i64 RI), (b1, off1 + k1 * 6 + 2, .int .i64 RY)] ++ ((blk wr.heap.size 0 0 [.int .i64 I, .int .i64 F, .int .i64 C, .int .i64 S, .slice ra L rc]) ++ (blk i 0 0 [.int .i64 S, .int .i64 C, .int .i64 F, .int .i64 K0, .slice xa L xc]))))) (by kernel_rfl) (TY0.drew) (fun hHeld => ?_)
                refine wpAnyH_take (i := 0) (oi := _) (v := ?_) (by rw [List.getElem?_toArray]; rfl) (by kernel_rfl) (by kernel_rfl) (by kernel_rfl) (by exact fun _ _ _ h => h) (Or.inl ⟨by rfl, ?_⟩) (by assumption) ?_
                rotate_left
                · intro w hSw
                  try simp only [Cells, blk, List.cons_append, List.nil_append, and_true, Nat.reduceAdd, Nat.add_zero, Nat.zero_add] at hSw
                  go_simp
                  try with_reducible rfl
                simp only [Act.put, List.setIfInBounds_toArray, List.set_cons_zero, List.set_cons_succ]
                refine wpAnyH_take (i := 1) (oi := _) (v := ?_) (by rw [List.getElem?_toArray]; rfl) (by kernel_rfl) (by kernel_rfl) (by kernel_rfl) (by exact fun _ _ _ h => h) (Or.inl ⟨by rfl, ?_⟩) (by assumption) ?_
                rotate_left
                · intro w hSw
                  try simp only [Cells, blk, List.cons_append, List.nil_append, and_true, Nat.reduceAdd, Nat.add_zero, Nat.zero_add] at hSw
                  go_simp
                  try with_reducible rfl
                simp only [Act.put, List.setIfInBounds_toArray, List.set_cons_zero, List.set_cons_succ]
                refine wpAnyH_take (i := 2) (oi := _) (v := ?_) (by rw [List.getElem?_toArray]; rfl) (by kernel_rfl) (by kernel_rfl) (by kernel_rfl) (by exact fun _ _ _ h => h) (Or.inl ⟨by rfl, ?_⟩) (by assumption) ?_
                rotate_left
                · intro w hSw
                  try simp only [Cells, blk, List.cons_append, List.nil_append, and_true, Nat.reduceAdd, Nat.add_zero, Nat.zero_add] at hSw
                  go_simp
                  try with_reducible rfl
                simp only [Act.put, List.setIfInBounds_toArray, List.set_cons_zero, List.set_cons_succ]
                refine wpAnyH_take (i := 3) (oi := _) (v := ?_) (by rw [List.getElem?_toArray]; rfl) (by kernel_rfl) (by kernel_rfl) (by kernel_rfl) (by exact fun _ _ _ h => h) (Or.inl ⟨by rfl, ?_⟩) (by assumption) ?_
                rotate_left
                · intro w hSw
                  try simp only [Cells, blk, List.cons_append, List.nil_append, and_true, Nat.reduceAdd, Nat.add_zero, Nat.zero_add] at hSw
                  go_simp
                  try with_reducible rfl
                simp only [Act.put, List.setIfInBounds_toArray, List.set_cons_zero, List.set_cons_succ]
                refine wpAnyH_take (i := 4) (oi := _) (v := ?_) (by rw [List.getElem?_toArray]; rfl) (by kernel_rfl) (by kernel_rfl) (by kernel_rfl) (by exact fun _ _ _ h => h) (Or.inl ⟨by rfl, ?_⟩) (by assumption) ?_
                rotate_left
                · intro w hSw
                  try simp only [Cells, blk, List.cons_append, List.nil_append, and_true, Nat.reduceAdd, Nat.add_zero, Nat.zero_add] at hSw
                  go_simp
                  try with_reducible rfl
                simp only [Act.put, List.setIfInBounds_toArray, List.set_cons_zero, List.set_cons_succ]
                refine wpAnyH_take (i := 5) (oi := _) (v := ?_) (by rw [List.getElem?_toArray]; rfl) (by kernel_rfl) (by kernel_rfl) (by kernel_rfl) (by exact fun _ _ _ h => h) (Or.inl ⟨by rfl, ?_⟩) (by assumption) ?_
                rotate_left
                · intro w hSw
                  try simp only [Cells, blk, List.cons_append, List.nil_append, and_true, Nat.reduceAdd, Nat.add_zero, Nat.zero_add] at hSw
                  go_simp
                  try with_reducible rfl
                simp only [Act.put, List.setIfInBounds_toArray, List.set_cons_zero, List.set_cons_succ]
                refine wpAnyH_take (i := 6) (oi := _) (v := ?_) (by rw [List.getElem?_toArray]; rfl) (by kernel_rfl) (by kernel_rfl) (by kernel_rfl) (by exact fun _ _ _ h => h) (Or.inl ⟨by rfl, ?_⟩) (by assumption) ?_
                rotate_left
                · intro w hSw
                  try simp only [Cells, blk, List.cons_append, List.nil_append, and_true, Nat.reduceAdd, Nat.add_zero, Nat.zero_add] at hSw
                  go_simp
                  try with_reducible rfl
                simp only [Act.put, List.setIfInBounds_toArray, List.set_cons_zero, List.set_cons_succ]
                refine wpAnyH_take (i := 7) (oi := _) (v := ?_) (by rw [List.getElem?_toArray]; rfl) (by kernel_rfl) (by kernel_rfl) (by kernel_rfl) (by exact fun _ _ _ h => h) (Or.inl ⟨by rfl, ?_⟩) (by assumption) ?_
                rotate_left
                · intro w hSw
                  try simp only [Cells, blk, List.cons_append, List.nil_append, and_true, Nat.reduceAdd, Nat.add_zero, Nat.zero_add] at hSw
                  go_simp
                  try with_reducible rfl
                simp only [Act.put, List.setIfInBounds_toArray, List.set_cons_zero, List.set_cons_succ]
                refine wpAnyH_take (i := 8) (oi := _) (v := ?_) (by rw [List.getElem?_toArray]; rfl) (by kernel_rfl) (by kernel_rfl) (by kernel_rfl) (by exact fun _ _ _ h => h) (Or.inl ⟨by rfl, ?_⟩) (by assumption) ?_
                rotate_left
                · intro w hSw
                  try simp only [Cells, blk, List.cons_append, List.nil_append, and_true, Nat.reduceAdd, Nat.add_zero, Nat.zero_add] at hSw
                  go_simp
                  try with_reducible rfl
                simp only [Act.put, List.setIfInBounds_toArray, List.set_cons_zero, List.set_cons_succ]
                refine wpAnyH_take (i := 9) (oi := _) (v := undef) (by rw [List.getElem?_toArray]; rfl) (by kernel_rfl) (by kernel_rfl) (by kernel_rfl) (by exact fun _ _ _ h => h) (Or.inr ⟨by rfl, rfl⟩) (by assumption) ?_
                simp only [Act.put, List.setIfInBounds_toArray, List.set_cons_zero, List.set_cons_succ]
                refine wpAnyH_take (i := 10) (oi := _) (v := undef) (by rw [List.getElem?_toArray]; rfl) (by kernel_rfl) (by kernel_rfl) (by kernel_rfl) (by exact fun _ _ _ h => h) (Or.inr ⟨by rfl, rfl⟩) (by assumption) ?_
                simp only [Act.put, List.setIfInBounds_toArray, List.set_cons_zero, List.set_cons_succ]
                refine wpAnyH_take (i := 11) (oi := _) (v := undef) (by rw [List.getElem?_toArray]; rfl) (by kernel_rfl) (by kernel_rfl) (by kernel_rfl) (by exact fun _ _ _ h => h) (Or.inr ⟨by rfl, rfl⟩) (by assumption) ?_
                simp only [Act.put, List.setIfInBounds_toArray, List.set_cons_zero, List.set_cons_succ]
                refine wpAnyH_take (i := 12) (oi := _) (v := undef) (by rw [List.getElem?_toArray]; rfl) (by kernel_rfl) (by kernel_rfl) (by kernel_rfl) (by exact fun _ _ _ h => h) (Or.inr ⟨by rfl, rfl⟩) (by assumption) ?_
                simp only [Act.put, List.setIfInBounds_toArray, List.set_cons_zero, List.set_cons_succ]
                refine wpAnyH_take (i := 13) (oi := _) (v := undef) (by rw [List.getElem?_toArray]; rfl) (by kernel_rfl) (by kernel_rfl) (by kernel_rfl) (by exact fun _ _ _ h => h) (Or.inr ⟨by rfl, rfl⟩) (by assumption) ?_
                simp only [Act.put, List.setIfInBounds_toArray, List.set_cons_zero, List.set_cons_succ]
                refine wpAnyH_take (i := 14) (oi := _) (v := undef) (by rw [List.getElem?_toArray]; rfl) (by kernel_rfl) (by kernel_rfl) (by kernel_rfl) (by exact fun _ _ _ h => h) (Or.inr ⟨by rfl, rfl⟩) (by assumption) ?_
                simp only [Act.put, List.setIfInBounds_toArray, List.set_cons_zero, List.set_cons_succ]
                refine wpAnyH_take (i := 15) (oi := _) (v := undef) (by rw [List.getElem?_toArray]; rfl) (by kernel_rfl) (by kernel_rfl) (by kernel_rfl) (by exact fun _ _ _ h => h) (Or.inr ⟨by rfl, rfl⟩) (by assumption) ?_
                simp only [Act.put, List.setIfInBounds_toArray, List.set_cons_zero, List.set_cons_succ]
                refine wpAnyH_take (i := 16) (oi := _) (v := undef) (by rw [List.getElem?_toArray]; rfl) (by kernel_rfl) (by kernel_rfl) (by kernel_rfl) (by exact fun _ _ _ h => h) (Or.inr ⟨by rfl, rfl⟩) (by assumption) ?_
                simp only [Act.put, List.setIfInBounds_toArray, List.set_cons_zero, List.set_cons_succ]
                refine wpAnyH_take (i := 17) (oi := _) (v := undef) (by rw [List.getElem?_toArray]; rfl) (by kernel_rfl) (by kernel_rfl) (by kernel_rfl) (by exact fun _ _ _ h => h) (Or.inr ⟨by rfl, rfl⟩) (by assumption) ?_
                simp only [Act.put, List.setIfInBounds_toArray, List.set_cons_zero, List.set_cons_succ]
                refine wpAnyH_take (i := 18) (oi := _) (v := undef) (by rw [List.getElem?_toArray]; rfl) (by kernel_rfl) (by kernel_rfl) (by kernel_rfl) (by exact fun _ _ _ h => h) (Or.inr ⟨by rfl, rfl⟩) (by assumption) ?_
                simp only [Act.put, List.setIfInBounds_toArray, List.set_cons_zero, List.set_cons_succ]
                refine wpAnyH_take (i := 19) (oi := _) (v := undef) (by rw [List.getElem?_toArray]; rfl) (by kernel_rfl) (by kernel_rfl) (by kernel_rfl) (by exact fun _ _ _ h => h) (Or.inr ⟨by rfl, rfl⟩) (by assumption) ?_
                simp only [Act.put, List.setIfInBounds_toArray, List.set_cons_zero, List.set_cons_succ]
                refine wpAnyH_take (i := 20) (oi := _) (v := ?_) (by rw [List.getElem?_toArray]; rfl) (by kernel_rfl) (by kernel_rfl) (by kernel_rfl) (by exact fun _ _ _ h => h) (Or.inl ⟨by rfl, ?_⟩) (by assumption) ?_
                rotate_left
                · intro w hSw
                  try simp only [Cells, blk, List.cons_append, List.nil_append, and_true, Nat.reduceAdd, Nat.add_zero, Nat.zero_add] at hSw
                  go_simp
                  try with_reducible rfl
                simp only [Act.put, List.setIfInBounds_toArray, List.set_cons_zero, List.set_cons_succ]
                refine wpAnyH_done (by kernel_rfl) ?_ _
                go_wp2_with fail
                go_meet
                exact ⟨by rw [← HBBE.out]; rfl, (Below.refl _ _).drew⟩
              | true =>
                cases B2 with
                | true =>
                  refine wp_region_held_drew (S := (fun W' : World => Cells W' ([(b1, off1 + k1 * 6, .int .i64 RI), (b1, off1 + k1 * 6 + 2, .int .i64 RY)] ++ ((blk wr.heap.size 0 0 [.int .i64 I, .int .i64 F, .int .i64 C, .int .i64 S, .slice ra L rc]) ++ (blk i 0 0 [.int .i64 S, .int .i64 C, .int .i64 F, .int .i64 K0, .slice xa L xc]))))) (by kernel_rfl) (TY0.drew) (fun hHeld => ?_)
                  refine wpAnyH_take (i := 0) (oi := _) (v := ?_) (by rw [List.getElem?_toArray]; rfl) (by kernel_rfl) (by kernel_rfl) (by kernel_rfl) (by exact fun _ _ _ h => h) (Or.inl ⟨by rfl, ?_⟩) (by assumption) ?_
                  rotate_left
                  · intro w hSw
                    try simp only [Cells, blk, List.cons_append, List.nil_append, and_true, Nat.reduceAdd, Nat.add_zero, Nat.zero_add] at hSw
                    go_simp
                    try with_reducible rfl
                  simp only [Act.put, List.setIfInBounds_toArray, List.set_cons_zero, List.set_cons_succ]
                  refine wpAnyH_take (i := 1) (oi := _) (v := ?_) (by rw [List.getElem?_toArray]; rfl) (by kernel_rfl) (by kernel_rfl) (by kernel_rfl) (by exact fun _ _ _ h => h) (Or.inl ⟨by rfl, ?_⟩) (by assumption) ?_
                  rotate_left
                  · intro w hSw
                    try simp only [Cells, blk, List.cons_append, List.nil_append, and_true, Nat.reduceAdd, Nat.add_zero, Nat.zero_add] at hSw
                    go_simp
                    try with_reducible rfl
                  simp only [Act.put, List.setIfInBounds_toArray, List.set_cons_zero, List.set_cons_succ]
                  refine wpAnyH_take (i := 2) (oi := _) (v := ?_) (by rw [List.getElem?_toArray]; rfl) (by kernel_rfl) (by kernel_rfl) (by kernel_rfl) (by exact fun _ _ _ h => h) (Or.inl ⟨by rfl, ?_⟩) (by assumption) ?_
                  rotate_left
                  · intro w hSw
                    try simp only [Cells, blk, List.cons_append, List.nil_append, and_true, Nat.reduceAdd, Nat.add_zero, Nat.zero_add] at hSw
                    go_simp
                    try with_reducible rfl
                  simp only [Act.put, List.setIfInBounds_toArray, List.set_cons_zero, List.set_cons_succ]
                  refine wpAnyH_take (i := 3) (oi := _) (v := ?_) (by rw [List.getElem?_toArray]; rfl) (by kernel_rfl) (by kernel_rfl) (by kernel_rfl) (by exact fun _ _ _ h => h) (Or.inl ⟨by rfl, ?_⟩) (by assumption) ?_
                  rotate_left
                  · intro w hSw
                    try simp only [Cells, blk, List.cons_append, List.nil_append, and_true, Nat.reduceAdd, Nat.add_zero, Nat.zero_add] at hSw
                    go_simp
                    try with_reducible rfl
                  simp only [Act.put, List.setIfInBounds_toArray, List.set_cons_zero, List.set_cons_succ]
                  refine wpAnyH_take (i := 4) (oi := _) (v := ?_) (by rw [List.getElem?_toArray]; rfl) (by kernel_rfl) (by kernel_rfl) (by kernel_rfl) (by exact fun _ _ _ h => h) (Or.inl ⟨by rfl, ?_⟩) (by assumption) ?_
                  rotate_left
                  · intro w hSw
                    try simp only [Cells, blk, List.cons_append, List.nil_append, and_true, Nat.reduceAdd, Nat.add_zero, Nat.zero_add] at hSw
                    go_simp
                    try with_reducible rfl
                  simp only [Act.put, List.setIfInBounds_toArray, List.set_cons_zero, List.set_cons_succ]
                  refine wpAnyH_take (i := 5) (oi := _) (v := ?_) (by rw [List.getElem?_toArray]; rfl) (by kernel_rfl) (by kernel_rfl) (by kernel_rfl) (by exact fun _ _ _ h => h) (Or.inl ⟨by rfl, ?_⟩) (by assumption) ?_
                  rotate_left
                  · intro w hSw
                    try simp only [Cells, blk, List.cons_append, List.nil_append, and_true, Nat.reduceAdd, Nat.add_zero, Nat.zero_add] at hSw
                    go_simp
                    try with_reducible rfl
                  simp only [Act.put, List.setIfInBounds_toArray, List.set_cons_zero, List.set_cons_succ]
                  refine wpAnyH_take (i := 6) (oi := _) (v := ?_) (by rw [List.getElem?_toArray]; rfl) (by kernel_rfl) (by kernel_rfl) (by kernel_rfl) (by exact fun _ _ _ h => h) (Or.inl ⟨by rfl, ?_⟩) (by assumption) ?_
                  rotate_left
                  · intro w hSw
                    try simp only [Cells, blk, List.cons_append, List.nil_append, and_true, Nat.reduceAdd, Nat.add_zero, Nat.zero_add] at hSw
                    go_simp
                    try with_reducible rfl
                  simp only [Act.put, List.setIfInBounds_toArray, List.set_cons_zero, List.set_cons_succ]
                  refine wpAnyH_take (i := 7) (oi := _) (v := ?_) (by rw [List.getElem?_toArray]; rfl) (by kernel_rfl) (by kernel_rfl) (by kernel_rfl) (by exact fun _ _ _ h => h) (Or.inl ⟨by rfl, ?_⟩) (by assumption) ?_
                  rotate_left
                  · intro w hSw
                    try simp only [Cells, blk, List.cons_append, List.nil_append, and_true, Nat.reduceAdd, Nat.add_zero, Nat.zero_add] at hSw
                    go_simp
                    try with_reducible rfl
                  simp only [Act.put, List.setIfInBounds_toArray, List.set_cons_zero, List.set_cons_succ]
                  refine wpAnyH_take (i := 8) (oi := _) (v := ?_) (by rw [List.getElem?_toArray]; rfl) (by kernel_rfl) (by kernel_rfl) (by kernel_rfl) (by exact fun _ _ _ h => h) (Or.inl ⟨by rfl, ?_⟩) (by assumption) ?_
                  rotate_left
                  · intro w hSw
                    try simp only [Cells, blk, List.cons_append, List.nil_append, and_true, Nat.reduceAdd, Nat.add_zero, Nat.zero_add] at hSw
                    go_simp
                    try with_reducible rfl
                  simp only [Act.put, List.setIfInBounds_toArray, List.set_cons_zero, List.set_cons_succ]
                  refine wpAnyH_take (i := 9) (oi := _) (v := ?_) (by rw [List.getElem?_toArray]; rfl) (by kernel_rfl) (by kernel_rfl) (by kernel_rfl) (by exact fun _ _ _ h => h) (Or.inl ⟨by rfl, ?_⟩) (by assumption) ?_
                  rotate_left
                  · intro w hSw
                    try simp only [Cells, blk, List.cons_append, List.nil_append, and_true, Nat.reduceAdd, Nat.add_zero, Nat.zero_add] at hSw
                    go_simp
                    try with_reducible rfl
                  simp only [Act.put, List.setIfInBounds_toArray, List.set_cons_zero, List.set_cons_succ]
                  refine wpAnyH_take (i := 10) (oi := _) (v := ?_) (by rw [List.getElem?_toArray]; rfl) (by kernel_rfl) (by kernel_rfl) (by kernel_rfl) (by exact fun _ _ _ h => h) (Or.inl ⟨by rfl, ?_⟩) (by assumption) ?_
                  rotate_left
                  · intro w hSw
                    try simp only [Cells, blk, List.cons_append, List.nil_append, and_true, Nat.reduceAdd, Nat.add_zero, Nat.zero_add] at hSw
                    go_simp
                    try with_reducible rfl
                  simp only [Act.put, List.setIfInBounds_toArray, List.set_cons_zero, List.set_cons_succ]
                  refine wpAnyH_take (i := 11) (oi := _) (v := ?_) (by rw [List.getElem?_toArray]; rfl) (by kernel_rfl) (by kernel_rfl) (by kernel_rfl) (by exact fun _ _ _ h => h) (Or.inl ⟨by rfl, ?_⟩) (by assumption) ?_
                  rotate_left
                  · intro w hSw
                    try simp only [Cells, blk, List.cons_append, List.nil_append, and_true, Nat.reduceAdd, Nat.add_zero, Nat.zero_add] at hSw
                    go_simp
                    try with_reducible rfl
                  simp only [Act.put, List.setIfInBounds_toArray, List.set_cons_zero, List.set_cons_succ]
                  refine wpAnyH_take (i := 12) (oi := _) (v := ?_) (by rw [List.getElem?_toArray]; rfl) (by kernel_rfl) (by kernel_rfl) (by kernel_rfl) (by exact fun _ _ _ h => h) (Or.inl ⟨by rfl, ?_⟩) (by assumption) ?_
                  rotate_left
                  · intro w hSw
                    try simp only [Cells, blk, List.cons_append, List.nil_append, and_true, Nat.reduceAdd, Nat.add_zero, Nat.zero_add] at hSw
                    go_simp
                    try with_reducible rfl
                  simp only [Act.put, List.setIfInBounds_toArray, List.set_cons_zero, List.set_cons_succ]
                  refine wpAnyH_take (i := 13) (oi := _) (v := undef) (by rw [List.getElem?_toArray]; rfl) (by kernel_rfl) (by kernel_rfl) (by kernel_rfl) (by exact fun _ _ _ h => h) (Or.inr ⟨by rfl, rfl⟩) (by assumption) ?_
                  simp only [Act.put, List.setIfInBounds_toArray, List.set_cons_zero, List.set_cons_succ]
                  refine wpAnyH_take (i := 14) (oi := _) (v := undef) (by rw [List.getElem?_toArray]; rfl) (by kernel_rfl) (by kernel_rfl) (by kernel_rfl) (by exact fun _ _ _ h => h) (Or.inr ⟨by rfl, rfl⟩) (by assumption) ?_
                  simp only [Act.put, List.setIfInBounds_toArray, List.set_cons_zero, List.set_cons_succ]
                  refine wpAnyH_take (i := 15) (oi := _) (v := undef) (by rw [List.getElem?_toArray]; rfl) (by kernel_rfl) (by kernel_rfl) (by kernel_rfl) (by exact fun _ _ _ h => h) (Or.inr ⟨by rfl, rfl⟩) (by assumption) ?_
                  simp only [Act.put, List.setIfInBounds_toArray, List.set_cons_zero, List.set_cons_succ]
                  refine wpAnyH_take (i := 16) (oi := _) (v := undef) (by rw [List.getElem?_toArray]; rfl) (by kernel_rfl) (by kernel_rfl) (by kernel_rfl) (by exact fun _ _ _ h => h) (Or.inr ⟨by rfl, rfl⟩) (by assumption) ?_
                  simp only [Act.put, List.setIfInBounds_toArray, List.set_cons_zero, List.set_cons_succ]
                  refine wpAnyH_take (i := 17) (oi := _) (v := undef) (by rw [List.getElem?_toArray]; rfl) (by kernel_rfl) (by kernel_rfl) (by kernel_rfl) (by exact fun _ _ _ h => h) (Or.inr ⟨by rfl, rfl⟩) (by assumption) ?_
                  simp only [Act.put, List.setIfInBounds_toArray, List.set_cons_zero, List.set_cons_succ]
                  refine wpAnyH_take (i := 18) (oi := _) (v := undef) (by rw [List.getElem?_toArray]; rfl) (by kernel_rfl) (by kernel_rfl) (by kernel_rfl) (by exact fun _ _ _ h => h) (Or.inr ⟨by rfl, rfl⟩) (by assumption) ?_
                  simp only [Act.put, List.setIfInBounds_toArray, List.set_cons_zero, List.set_cons_succ]
                  refine wpAnyH_take (i := 19) (oi := _) (v := ?_) (by rw [List.getElem?_toArray]; rfl) (by kernel_rfl) (by kernel_rfl) (by kernel_rfl) (by exact fun _ _ _ h => h) (Or.inl ⟨by rfl, ?_⟩) (by assumption) ?_
                  rotate_left
                  · intro w hSw
                    try simp only [Cells, blk, List.cons_append, List.nil_append, and_true, Nat.reduceAdd, Nat.add_zero, Nat.zero_add] at hSw
                    go_simp
                    try with_reducible rfl
                  simp only [Act.put, List.setIfInBounds_toArray, List.set_cons_zero, List.set_cons_succ]
                  refine wpAnyH_take (i := 20) (oi := _) (v := ?_) (by rw [List.getElem?_toArray]; rfl) (by kernel_rfl) (by kernel_rfl) (by kernel_rfl) (by exact fun _ _ _ h => h) (Or.inl ⟨by rfl, ?_⟩) (by assumption) ?_
                  rotate_left
                  · intro w hSw
                    try simp only [Cells, blk, List.cons_append, List.nil_append, and_true, Nat.reduceAdd, Nat.add_zero, Nat.zero_add] at hSw
                    go_simp
                    try with_reducible rfl
                  simp only [Act.put, List.setIfInBounds_toArray, List.set_cons_zero, List.set_cons_succ]
                  refine wpAnyH_done (by kernel_rfl) ?_ _
                  go_wp2_with fail
                  go_meet
                  exact ⟨by rw [← HBBE.out]; rfl, (Below.refl _ _).drew⟩
                | false =>
                  refine wp_region_held_drew (S := (fun W' : World => Cells W' ([(b1, off1 + k1 * 6, .int .i64 RI), (b1, off1 + k1 * 6 + 2, .int .i64 RY)] ++ ((blk wr.heap.size 0 0 [.int .i64 I, .int .i64 F, .int .i64 C, .int .i64 S, .slice ra L rc]) ++ (blk i 0 0 [.int .i64 S, .int .i64 C, .int .i64 F, .int .i64 K0, .slice xa L xc]))))) (by kernel_rfl) (TY0.drew) (fun hHeld => ?_)
                  refine wpAnyH_take (i := 0) (oi := _) (v := ?_) (by rw [List.getElem?_toArray]; rfl) (by kernel_rfl) (by kernel_rfl) (by kernel_rfl) (by exact fun _ _ _ h => h) (Or.inl ⟨by rfl, ?_⟩) (by assumption) ?_
                  rotate_left
                  · intro w hSw
                    try simp only [Cells, blk, List.cons_append, List.nil_append, and_true, Nat.reduceAdd, Nat.add_zero, Nat.zero_add] at hSw
                    go_simp
                    try with_reducible rfl
                  simp only [Act.put, List.setIfInBounds_toArray, List.set_cons_zero, List.set_cons_succ]
                  refine wpAnyH_take (i := 1) (oi := _) (v := ?_) (by rw [List.getElem?_toArray]; rfl) (by kernel_rfl) (by kernel_rfl) (by kernel_rfl) (by exact fun _ _ _ h => h) (Or.inl ⟨by rfl, ?_⟩) (by assumption) ?_
                  rotate_left
                  · intro w hSw
                    try simp only [Cells, blk, List.cons_append, List.nil_append, and_true, Nat.reduceAdd, Nat.add_zero, Nat.zero_add] at hSw
                    go_simp
                    try with_reducible rfl
                  simp only [Act.put, List.setIfInBounds_toArray, List.set_cons_zero, List.set_cons_succ]
                  refine wpAnyH_take (i := 2) (oi := _) (v := ?_) (by rw [List.getElem?_toArray]; rfl) (by kernel_rfl) (by kernel_rfl) (by kernel_rfl) (by exact fun _ _ _ h => h) (Or.inl ⟨by rfl, ?_⟩) (by assumption) ?_
                  rotate_left
                  · intro w hSw
                    try simp only [Cells, blk, List.cons_append, List.nil_append, and_true, Nat.reduceAdd, Nat.add_zero, Nat.zero_add] at hSw
                    go_simp
                    try with_reducible rfl
                  simp only [Act.put, List.setIfInBounds_toArray, List.set_cons_zero, List.set_cons_succ]
                  refine wpAnyH_take (i := 3) (oi := _) (v := ?_) (by rw [List.getElem?_toArray]; rfl) (by kernel_rfl) (by kernel_rfl) (by kernel_rfl) (by exact fun _ _ _ h => h) (Or.inl ⟨by rfl, ?_⟩) (by assumption) ?_
                  rotate_left
                  · intro w hSw
                    try simp only [Cells, blk, List.cons_append, List.nil_append, and_true, Nat.reduceAdd, Nat.add_zero, Nat.zero_add] at hSw
                    go_simp
                    try with_reducible rfl
                  simp only [Act.put, List.setIfInBounds_toArray, List.set_cons_zero, List.set_cons_succ]
                  refine wpAnyH_take (i := 4) (oi := _) (v := ?_) (by rw [List.getElem?_toArray]; rfl) (by kernel_rfl) (by kernel_rfl) (by kernel_rfl) (by exact fun _ _ _ h => h) (Or.inl ⟨by rfl, ?_⟩) (by assumption) ?_
                  rotate_left
                  · intro w hSw
                    try simp only [Cells, blk, List.cons_append, List.nil_append, and_true, Nat.reduceAdd, Nat.add_zero, Nat.zero_add] at hSw
                    go_simp
                    try with_reducible rfl
                  simp only [Act.put, List.setIfInBounds_toArray, List.set_cons_zero, List.set_cons_succ]
                  refine wpAnyH_take (i := 5) (oi := _) (v := ?_) (by rw [List.getElem?_toArray]; rfl) (by kernel_rfl) (by kernel_rfl) (by kernel_rfl) (by exact fun _ _ _ h => h) (Or.inl ⟨by rfl, ?_⟩) (by assumption) ?_
                  rotate_left
                  · intro w hSw
                    try simp only [Cells, blk, List.cons_append, List.nil_append, and_true, Nat.reduceAdd, Nat.add_zero, Nat.zero_add] at hSw
                    go_simp
                    try with_reducible rfl
                  simp only [Act.put, List.setIfInBounds_toArray, List.set_cons_zero, List.set_cons_succ]
                  refine wpAnyH_take (i := 6) (oi := _) (v := ?_) (by rw [List.getElem?_toArray]; rfl) (by kernel_rfl) (by kernel_rfl) (by kernel_rfl) (by exact fun _ _ _ h => h) (Or.inl ⟨by rfl, ?_⟩) (by assumption) ?_
                  rotate_left
                  · intro w hSw
                    try simp only [Cells, blk, List.cons_append, List.nil_append, and_true, Nat.reduceAdd, Nat.add_zero, Nat.zero_add] at hSw
                    go_simp
                    try with_reducible rfl
                  simp only [Act.put, List.setIfInBounds_toArray, List.set_cons_zero, List.set_cons_succ]
                  refine wpAnyH_take (i := 7) (oi := _) (v := ?_) (by rw [List.getElem?_toArray]; rfl) (by kernel_rfl) (by kernel_rfl) (by kernel_rfl) (by exact fun _ _ _ h => h) (Or.inl ⟨by rfl, ?_⟩) (by assumption) ?_
                  rotate_left
                  · intro w hSw
                    try simp only [Cells, blk, List.cons_append, List.nil_append, and_true, Nat.reduceAdd, Nat.add_zero, Nat.zero_add] at hSw
                    go_simp
                    try with_reducible rfl
                  simp only [Act.put, List.setIfInBounds_toArray, List.set_cons_zero, List.set_cons_succ]
                  refine wpAnyH_take (i := 8) (oi := _) (v := ?_) (by rw [List.getElem?_toArray]; rfl) (by kernel_rfl) (by kernel_rfl) (by kernel_rfl) (by exact fun _ _ _ h => h) (Or.inl ⟨by rfl, ?_⟩) (by assumption) ?_
                  rotate_left
                  · intro w hSw
                    try simp only [Cells, blk, List.cons_append, List.nil_append, and_true, Nat.reduceAdd, Nat.add_zero, Nat.zero_add] at hSw
                    go_simp
                    try with_reducible rfl
                  simp only [Act.put, List.setIfInBounds_toArray, List.set_cons_zero, List.set_cons_succ]
                  refine wpAnyH_take (i := 9) (oi := _) (v := ?_) (by rw [List.getElem?_toArray]; rfl) (by kernel_rfl) (by kernel_rfl) (by kernel_rfl) (by exact fun _ _ _ h => h) (Or.inl ⟨by rfl, ?_⟩) (by assumption) ?_
                  rotate_left
                  · intro w hSw
                    try simp only [Cells, blk, List.cons_append, List.nil_append, and_true, Nat.reduceAdd, Nat.add_zero, Nat.zero_add] at hSw
                    go_simp
                    try with_reducible rfl
                  simp only [Act.put, List.setIfInBounds_toArray, List.set_cons_zero, List.set_cons_succ]
                  refine wpAnyH_take (i := 10) (oi := _) (v := ?_) (by rw [List.getElem?_toArray]; rfl) (by kernel_rfl) (by kernel_rfl) (by kernel_rfl) (by exact fun _ _ _ h => h) (Or.inl ⟨by rfl, ?_⟩) (by assumption) ?_
                  rotate_left
                  · intro w hSw
                    try simp only [Cells, blk, List.cons_append, List.nil_append, and_true, Nat.reduceAdd, Nat.add_zero, Nat.zero_add] at hSw
                    go_simp
                    try with_reducible rfl
                  simp only [Act.put, List.setIfInBounds_toArray, List.set_cons_zero, List.set_cons_succ]
                  refine wpAnyH_take (i := 11) (oi := _) (v := ?_) (by rw [List.getElem?_toArray]; rfl) (by kernel_rfl) (by kernel_rfl) (by kernel_rfl) (by exact fun _ _ _ h => h) (Or.inl ⟨by rfl, ?_⟩) (by assumption) ?_
                  rotate_left
                  · intro w hSw
                    try simp only [Cells, blk, List.cons_append, List.nil_append, and_true, Nat.reduceAdd, Nat.add_zero, Nat.zero_add] at hSw
                    go_simp
                    try with_reducible rfl
                  simp only [Act.put, List.setIfInBounds_toArray, List.set_cons_zero, List.set_cons_succ]
                  refine wpAnyH_take (i := 12) (oi := _) (v := ?_) (by rw [List.getElem?_toArray]; rfl) (by kernel_rfl) (by kernel_rfl) (by kernel_rfl) (by exact fun _ _ _ h => h) (Or.inl ⟨by rfl, ?_⟩) (by assumption) ?_
                  rotate_left
                  · intro w hSw
                    try simp only [Cells, blk, List.cons_append, List.nil_append, and_true, Nat.reduceAdd, Nat.add_zero, Nat.zero_add] at hSw
                    go_simp
                    try with_reducible rfl
                  simp only [Act.put, List.setIfInBounds_toArray, List.set_cons_zero, List.set_cons_succ]
                  refine wpAnyH_take (i := 13) (oi := _) (v := ?_) (by rw [List.getElem?_toArray]; rfl) (by kernel_rfl) (by kernel_rfl) (by kernel_rfl) (by exact fun _ _ _ h => h) (Or.inl ⟨by rfl, ?_⟩) (by assumption) ?_
                  rotate_left
                  · intro w hSw
                    try simp only [Cells, blk, List.cons_append, List.nil_append, and_true, Nat.reduceAdd, Nat.add_zero, Nat.zero_add] at hSw
                    go_simp
                    try with_reducible rfl
                  simp only [Act.put, List.setIfInBounds_toArray, List.set_cons_zero, List.set_cons_succ]
                  refine wpAnyH_take (i := 14) (oi := _) (v := ?_) (by rw [List.getElem?_toArray]; rfl) (by kernel_rfl) (by kernel_rfl) (by kernel_rfl) (by exact fun _ _ _ h => h) (Or.inl ⟨by rfl, ?_⟩) (by assumption) ?_
                  rotate_left
                  · intro w hSw
                    try simp only [Cells, blk, List.cons_append, List.nil_append, and_true, Nat.reduceAdd, Nat.add_zero, Nat.zero_add] at hSw
                    go_simp
                    try with_reducible rfl
                  simp only [Act.put, List.setIfInBounds_toArray, List.set_cons_zero, List.set_cons_succ]
                  refine wpAnyH_take (i := 15) (oi := _) (v := ?_) (by rw [List.getElem?_toArray]; rfl) (by kernel_rfl) (by kernel_rfl) (by kernel_rfl) (by exact fun _ _ _ h => h) (Or.inl ⟨by rfl, ?_⟩) (by assumption) ?_
                  rotate_left
                  · intro w hSw
                    try simp only [Cells, blk, List.cons_append, List.nil_append, and_true, Nat.reduceAdd, Nat.add_zero, Nat.zero_add] at hSw
                    go_simp
                    try with_reducible rfl
                  simp only [Act.put, List.setIfInBounds_toArray, List.set_cons_zero, List.set_cons_succ]
                  refine wpAnyH_take (i := 16) (oi := _) (v := ?_) (by rw [List.getElem?_toArray]; rfl) (by kernel_rfl) (by kernel_rfl) (by kernel_rfl) (by exact fun _ _ _ h => h) (Or.inl ⟨by rfl, ?_⟩) (by assumption) ?_
                  rotate_left
                  · intro w hSw
                    try simp only [Cells, blk, List.cons_append, List.nil_append, and_true, Nat.reduceAdd, Nat.add_zero, Nat.zero_add] at hSw
                    go_simp
                    try with_reducible rfl
                  simp only [Act.put, List.setIfInBounds_toArray, List.set_cons_zero, List.set_cons_succ]
                  refine wpAnyH_take (i := 17) (oi := _) (v := ?_) (by rw [List.getElem?_toArray]; rfl) (by kernel_rfl) (by kernel_rfl) (by kernel_rfl) (by exact fun _ _ _ h => h) (Or.inl ⟨by rfl, ?_⟩) (by assumption) ?_
                  rotate_left
                  · intro w hSw
                    try simp only [Cells, blk, List.cons_append, List.nil_append, and_true, Nat.reduceAdd, Nat.add_zero, Nat.zero_add] at hSw
                    go_simp
                    try with_reducible rfl
                  simp only [Act.put, List.setIfInBounds_toArray, List.set_cons_zero, List.set_cons_succ]
                  refine wpAnyH_take (i := 18) (oi := _) (v := ?_) (by rw [List.getElem?_toArray]; rfl) (by kernel_rfl) (by kernel_rfl) (by kernel_rfl) (by exact fun _ _ _ h => h) (Or.inl ⟨by rfl, ?_⟩) (by assumption) ?_
                  rotate_left
                  · intro w hSw
                    try simp only [Cells, blk, List.cons_append, List.nil_append, and_true, Nat.reduceAdd, Nat.add_zero, Nat.zero_add] at hSw
                    go_simp
                    try with_reducible rfl
                  simp only [Act.put, List.setIfInBounds_toArray, List.set_cons_zero, List.set_cons_succ]
                  refine wpAnyH_take (i := 19) (oi := _) (v := ?_) (by rw [List.getElem?_toArray]; rfl) (by kernel_rfl) (by kernel_rfl) (by kernel_rfl) (by exact fun _ _ _ h => h) (Or.inl ⟨by rfl, ?_⟩) (by assumption) ?_
                  rotate_left
                  · intro w hSw
                    try simp only [Cells, blk, List.cons_append, List.nil_append, and_true, Nat.reduceAdd, Nat.add_zero, Nat.zero_add] at hSw
                    go_simp
                    try with_reducible rfl
                  simp only [Act.put, List.setIfInBounds_toArray, List.set_cons_zero, List.set_cons_succ]
                  refine wpAnyH_take (i := 20) (oi := _) (v := ?_) (by rw [List.getElem?_toArray]; rfl) (by kernel_rfl) (by kernel_rfl) (by kernel_rfl) (by exact fun _ _ _ h => h) (Or.inl ⟨by rfl, ?_⟩) (by assumption) ?_
                  rotate_left
                  · intro w hSw
                    try simp only [Cells, blk, List.cons_append, List.nil_append, and_true, Nat.reduceAdd, Nat.add_zero, Nat.zero_add] at hSw
                    go_simp
                    try with_reducible rfl
                  simp only [Act.put, List.setIfInBounds_toArray, List.set_cons_zero, List.set_cons_succ]
                  refine wpAnyH_done (by kernel_rfl) ?_ _
                  go_wp2_with fail
                  go_meet
                  exact ⟨by rw [← HBBE.out]; cases B3 <;> rfl, (Below.refl _ _).drew⟩
            case rest =>
              obtain ⟨rfl, hBZ⟩ := hcut
              rename World => Z
              have TZ := TY0.keep hBZ
              have hOpen := TZ
              simp only [Cells, blk, List.cons_append, List.nil_append, and_true, Nat.reduceAdd, Nat.add_zero, Nat.zero_add] at hOpen
              obtain ⟨z0, z1, z2, z3, z4, z5, z6, z7, z8, z9, za, zb⟩ := hOpen
              have hbkZ := (hBZ.block i hiY).trans hbk.out
              have hbbZ := Lib.hid (hbb.out.below hBZ)
              have HBZ := Lib.hid (HBW.out.trans (hBZ.mono HBW.out.size))
              have HBK := Lib.hid hbkZ
              have hfr := frozen_of_row _ _ 3 _ _ hbkZ
              clear hbkZ hBZ TY0 TZ hbk hbb HBW hB1 hB2 hB3 HBBE
              cases BB with
              | false =>
                have h2 := HBK.out
                have hd := HDR.out
                simp only [Bool.false_eq_true, if_false] at hd
                rw [← hd] at h2
                have HN2 := Lib.hid h2
                clear h2 hd HDR HBK
                go_wp2_with fail
                go_roundw
                case rel => exact ⟨k1, rfl, by omega, HN2.out, hbbZ, HBZ.out⟩
                case measure => simp [intOf]
              | true =>
                have hd := HDR.out
                simp only [if_true] at hd
                have HD := Lib.hid hd
                clear hd HDR
                go_wp2_with fail
                generalize hX : World.setCell _ _ _ = Z2
                have hgX := set1 Z ⟨i, 3, none⟩ (.int .i64 RY)
                have h3 := heap_setCell_same Z i 3 _ _ (.int .i64 RY) HBK.out
                rw [hX] at hgX h3
                simp only [List.setIfInBounds_toArray, List.set_cons_zero, List.set_cons_succ] at h3
                rw [← HD.out] at h3
                have HN2 := Lib.hid h3
                have HBX := Lib.hid (hbbZ.out.grownE hgX (HNE.out.imp (fun h => by rw [HL.out]; exact h) id))
                have HBZ2 := Lib.hid (HBZ.out.grown hgX HBZ.out.size (fun q hq => by cases hq; exact hi2))
                clear h3 hgX hX HD z0 z1 z2 z3 z4 z5 z6 z7 z8 z9 za zb hfr HBK HBZ hbbZ
                go_wp2_with fail
                go_roundw
                case rel => exact ⟨k1, rfl, by omega, HN2.out, HBX, HBZ2.out⟩
                case measure => simp [intOf]
          · have hk0' : kk = 0 := by omega
            subst hk0'
            have hI := hbk.out
            rw [List.drop_zero, HKK.out] at hI
            have HIK := Lib.hid hI
            have HBB := Lib.hid hbb.out
            have g3 : decide ((0 : Int) ≤ ((0 : Nat) : Int) - 1) = false := by decide
            have e9 : (((0 : Nat) : Int) - 1) = -1 := by decide
            simp only [e9]
            obtain ⟨t0, ht0⟩ : ∃ t0, ts.getD k default = t0 := ⟨_, rfl⟩
            have HBX := Lib.hid (HF.out.trans (hBW.mono HF.out.size))
            have HBXV := Lib.hid hBW
            have hki : (k : Int) ≤ (cap : Int) := by omega
            clear hI hbk hbb e9 hk0 ht0 hBW
            go_wp2_with fail
            go_loopw [10] (fun v W => ∃ t : Nat, v = .int .i64 t ∧ t ≤ k ∧ Hid (∀ j, t ≤ j → j < k → tlt (ts.getD k default) (ts.getD (q j) default)) ∧ Below Y0.heap.size Y0 W) (fun v _ => (intOf v).toNat)
            case atStart => exact ⟨k, rfl, Nat.le_refl _, fun j h1 h2 => by omega, Below.refl _ _⟩
            case round =>
              obtain ⟨t, rfl, htm, hlow, hBU⟩ := hrel
              rename World => U0
              obtain ⟨bb, hbbe⟩ : ∃ c, decide (0 < t ∧ S < (ts.getD (q (t - 1)) default).st) = c := ⟨_, rfl⟩
              have hiU := (hBU.block i hiY).trans HIK.out
              have hqlt : ∀ j, j < k → q j < k := fun j hj => by
                obtain ⟨x, _, hx, e⟩ := hmem.out.from' j (Nat.zero_le _) hj
                rw [e]; exact hx
              have htl : bb = true → 0 < t ∧ tlt (ts.getD k default) (ts.getD (q (t - 1)) default) := fun h => by
                rw [h] at hbbe
                have h1 := of_decide_eq_true hbbe
                refine ⟨h1.1, ?_⟩
                rw [HGK.out]
                exact .inl h1.2
              have htf : bb = false → t = 0 ∨ ¬ tlt (ts.getD k default) (ts.getD (q (t - 1)) default) := fun h => by
                rw [h] at hbbe
                have h1 := of_decide_eq_false hbbe
                by_cases h0 : t = 0
                · exact .inl h0
                · right
                  intro h2
                  rw [HGK.out] at h2
                  have hid := HIDS.out k (q (t - 1)) (hqlt _ (by omega)) (by rw [HN.out]; exact hlt)
                  rw [HGK.out] at hid
                  rcases h2 with h2 | ⟨h2, h3⟩
                  · exact h1 ⟨by omega, h2⟩
                  · simp only at h3 hid; omega
              have HTL := Lib.hid htl
              have HTF := Lib.hid htf
              have HBE := Lib.hid hbbe
              have hinvU := HINV.out.below (HBXV.out.trans (hBU.mono HBXV.out.size))
              have HINVU := Lib.hid hinvU
              have HIU := Lib.hid hiU
              have HBU := Lib.hid hBU
              have HQ := Lib.hid hqlt
              clear htl htf hbbe hinvU hiU hBU hqlt
              go_upto_region 13 with fail
              go_cut [81] (fun b wx => b = .bool bb ∧ Below U0.heap.size U0 wx)
              case first =>
                by_cases ht : 0 < t
                · obtain ⟨t1, ht1⟩ : ∃ t1, t = t1 + 1 := ⟨t - 1, by omega⟩
                  have g2 : decide (0 < t) = true := by simpa using ht
                  have w3 : IntKind.i64.wrap ((t : Int) - 1) = (t1 : Int) := by rw [IntWalk.i64_in _ (by omega)]; omega
                  have i3 : (t1 : Int) < (k : Int) := by omega
                  have i4 : (0 : Int) ≤ (t1 : Int) := by omega
                  have htc := HINVU.out.time (prm_len _ _ _) (Below.refl _ U0) (show t1 < k by omega)
                  rw [prm_at _ _ _ _ (by omega)] at htc
                  have hst : (hf (q t1)).t = (ts.getD (q t1) default).st := by rw [HFF.out]; rfl
                  rw [hst] at htc
                  have hbe := HBE.out
                  rw [show t - 1 = t1 by omega] at hbe
                  obtain ⟨T1, hT1⟩ : ∃ x, (ts.getD (q t1) default).st = x := ⟨_, rfl⟩
                  rw [hT1] at htc hbe
                  have hcb : decide (S < T1) = bb := by rw [← hbe]; simp [ht]
                  have TU : Cells U0 ([(gb, t1 * 5, .int .i64 T1)] ++ (blk i 0 0 [.int .i64 S, .int .i64 C, .int .i64 F, .int .i64 KK, .slice xa L xc])) := ⟨htc, cell_of_row _ _ 0 _ _ _ HIU.out, cell_of_row _ _ 1 _ _ _ HIU.out, cell_of_row _ _ 2 _ _ _ HIU.out, cell_of_row _ _ 3 _ _ _ HIU.out, cell_of_row _ _ 4 _ _ _ HIU.out, trivial⟩
                  clear htc hst hbe hT1 ht ht1
                  refine wp_region_held_drew (S := (fun W' : World => Cells W' ([(gb, t1 * 5, .int .i64 T1)] ++ (blk i 0 0 [.int .i64 S, .int .i64 C, .int .i64 F, .int .i64 KK, .slice xa L xc])))) (by kernel_rfl) (TU.drew) (fun hHeld => ?_)
                  refine wpAnyH_take (i := 0) (oi := _) (v := ?_) (by rw [List.getElem?_toArray]; rfl) (by kernel_rfl) (by kernel_rfl) (by kernel_rfl) (by exact fun _ _ _ h => h) (Or.inl ⟨by rfl, ?_⟩) (by assumption) ?_
                  rotate_left
                  · intro w hSw
                    try simp only [Cells, blk, List.cons_append, List.nil_append, and_true, Nat.reduceAdd, Nat.add_zero, Nat.zero_add] at hSw
                    go_simp
                    try with_reducible rfl
                  simp only [Act.put, List.setIfInBounds_toArray, List.set_cons_zero, List.set_cons_succ]
                  refine wpAnyH_take (i := 1) (oi := _) (v := ?_) (by rw [List.getElem?_toArray]; rfl) (by kernel_rfl) (by kernel_rfl) (by kernel_rfl) (by exact fun _ _ _ h => h) (Or.inl ⟨by rfl, ?_⟩) (by assumption) ?_
                  rotate_left
                  · intro w hSw
                    try simp only [Cells, blk, List.cons_append, List.nil_append, and_true, Nat.reduceAdd, Nat.add_zero, Nat.zero_add] at hSw
                    go_simp
                    try with_reducible rfl
                  simp only [Act.put, List.setIfInBounds_toArray, List.set_cons_zero, List.set_cons_succ]
                  refine wpAnyH_take (i := 2) (oi := _) (v := ?_) (by rw [List.getElem?_toArray]; rfl) (by kernel_rfl) (by kernel_rfl) (by kernel_rfl) (by exact fun _ _ _ h => h) (Or.inl ⟨by rfl, ?_⟩) (by assumption) ?_
                  rotate_left
                  · intro w hSw
                    try simp only [Cells, blk, List.cons_append, List.nil_append, and_true, Nat.reduceAdd, Nat.add_zero, Nat.zero_add] at hSw
                    go_simp
                    try with_reducible rfl
                  simp only [Act.put, List.setIfInBounds_toArray, List.set_cons_zero, List.set_cons_succ]
                  refine wpAnyH_take (i := 3) (oi := _) (v := ?_) (by rw [List.getElem?_toArray]; rfl) (by kernel_rfl) (by kernel_rfl) (by kernel_rfl) (by exact fun _ _ _ h => h) (Or.inl ⟨by rfl, ?_⟩) (by assumption) ?_
                  rotate_left
                  · intro w hSw
                    try simp only [Cells, blk, List.cons_append, List.nil_append, and_true, Nat.reduceAdd, Nat.add_zero, Nat.zero_add] at hSw
                    go_simp
                    try with_reducible rfl
                  simp only [Act.put, List.setIfInBounds_toArray, List.set_cons_zero, List.set_cons_succ]
                  refine wpAnyH_take (i := 4) (oi := _) (v := ?_) (by rw [List.getElem?_toArray]; rfl) (by kernel_rfl) (by kernel_rfl) (by kernel_rfl) (by exact fun _ _ _ h => h) (Or.inl ⟨by rfl, ?_⟩) (by assumption) ?_
                  rotate_left
                  · intro w hSw
                    try simp only [Cells, blk, List.cons_append, List.nil_append, and_true, Nat.reduceAdd, Nat.add_zero, Nat.zero_add] at hSw
                    go_simp
                    try with_reducible rfl
                  simp only [Act.put, List.setIfInBounds_toArray, List.set_cons_zero, List.set_cons_succ]
                  refine wpAnyH_take (i := 5) (oi := _) (v := ?_) (by rw [List.getElem?_toArray]; rfl) (by kernel_rfl) (by kernel_rfl) (by kernel_rfl) (by exact fun _ _ _ h => h) (Or.inl ⟨by rfl, ?_⟩) (by assumption) ?_
                  rotate_left
                  · intro w hSw
                    try simp only [Cells, blk, List.cons_append, List.nil_append, and_true, Nat.reduceAdd, Nat.add_zero, Nat.zero_add] at hSw
                    go_simp
                    try with_reducible rfl
                  simp only [Act.put, List.setIfInBounds_toArray, List.set_cons_zero, List.set_cons_succ]
                  refine wpAnyH_take (i := 6) (oi := _) (v := ?_) (by rw [List.getElem?_toArray]; rfl) (by kernel_rfl) (by kernel_rfl) (by kernel_rfl) (by exact fun _ _ _ h => h) (Or.inl ⟨by rfl, ?_⟩) (by assumption) ?_
                  rotate_left
                  · intro w hSw
                    try simp only [Cells, blk, List.cons_append, List.nil_append, and_true, Nat.reduceAdd, Nat.add_zero, Nat.zero_add] at hSw
                    go_simp
                    try with_reducible rfl
                  simp only [Act.put, List.setIfInBounds_toArray, List.set_cons_zero, List.set_cons_succ]
                  refine wpAnyH_take (i := 7) (oi := _) (v := ?_) (by rw [List.getElem?_toArray]; rfl) (by kernel_rfl) (by kernel_rfl) (by kernel_rfl) (by exact fun _ _ _ h => h) (Or.inl ⟨by rfl, ?_⟩) (by assumption) ?_
                  rotate_left
                  · intro w hSw
                    try simp only [Cells, blk, List.cons_append, List.nil_append, and_true, Nat.reduceAdd, Nat.add_zero, Nat.zero_add] at hSw
                    go_simp
                    try with_reducible rfl
                  simp only [Act.put, List.setIfInBounds_toArray, List.set_cons_zero, List.set_cons_succ]
                  refine wpAnyH_take (i := 8) (oi := _) (v := ?_) (by rw [List.getElem?_toArray]; rfl) (by kernel_rfl) (by kernel_rfl) (by kernel_rfl) (by exact fun _ _ _ h => h) (Or.inl ⟨by rfl, ?_⟩) (by assumption) ?_
                  rotate_left
                  · intro w hSw
                    try simp only [Cells, blk, List.cons_append, List.nil_append, and_true, Nat.reduceAdd, Nat.add_zero, Nat.zero_add] at hSw
                    go_simp
                    try with_reducible rfl
                  simp only [Act.put, List.setIfInBounds_toArray, List.set_cons_zero, List.set_cons_succ]
                  refine wpAnyH_take (i := 9) (oi := _) (v := ?_) (by rw [List.getElem?_toArray]; rfl) (by kernel_rfl) (by kernel_rfl) (by kernel_rfl) (by exact fun _ _ _ h => h) (Or.inl ⟨by rfl, ?_⟩) (by assumption) ?_
                  rotate_left
                  · intro w hSw
                    try simp only [Cells, blk, List.cons_append, List.nil_append, and_true, Nat.reduceAdd, Nat.add_zero, Nat.zero_add] at hSw
                    go_simp
                    try with_reducible rfl
                  simp only [Act.put, List.setIfInBounds_toArray, List.set_cons_zero, List.set_cons_succ]
                  refine wpAnyH_take (i := 10) (oi := _) (v := ?_) (by rw [List.getElem?_toArray]; rfl) (by kernel_rfl) (by kernel_rfl) (by kernel_rfl) (by exact fun _ _ _ h => h) (Or.inl ⟨by rfl, ?_⟩) (by assumption) ?_
                  rotate_left
                  · intro w hSw
                    try simp only [Cells, blk, List.cons_append, List.nil_append, and_true, Nat.reduceAdd, Nat.add_zero, Nat.zero_add] at hSw
                    go_simp
                    try with_reducible rfl
                  simp only [Act.put, List.setIfInBounds_toArray, List.set_cons_zero, List.set_cons_succ]
                  refine wpAnyH_take (i := 11) (oi := _) (v := ?_) (by rw [List.getElem?_toArray]; rfl) (by kernel_rfl) (by kernel_rfl) (by kernel_rfl) (by exact fun _ _ _ h => h) (Or.inl ⟨by rfl, ?_⟩) (by assumption) ?_
                  rotate_left
                  · intro w hSw
                    try simp only [Cells, blk, List.cons_append, List.nil_append, and_true, Nat.reduceAdd, Nat.add_zero, Nat.zero_add] at hSw
                    go_simp
                    try with_reducible rfl
                  simp only [Act.put, List.setIfInBounds_toArray, List.set_cons_zero, List.set_cons_succ]
                  refine wpAnyH_take (i := 12) (oi := _) (v := ?_) (by rw [List.getElem?_toArray]; rfl) (by kernel_rfl) (by kernel_rfl) (by kernel_rfl) (by exact fun _ _ _ h => h) (Or.inl ⟨by rfl, ?_⟩) (by assumption) ?_
                  rotate_left
                  · intro w hSw
                    try simp only [Cells, blk, List.cons_append, List.nil_append, and_true, Nat.reduceAdd, Nat.add_zero, Nat.zero_add] at hSw
                    go_simp
                    try with_reducible rfl
                  simp only [Act.put, List.setIfInBounds_toArray, List.set_cons_zero, List.set_cons_succ]
                  refine wpAnyH_done (by kernel_rfl) ?_ _
                  go_wp2_with fail
                  go_meet
                  exact ⟨by simp, (Below.refl _ _).drew⟩
                · have g2 : decide (0 < t) = false := by simpa using ht
                  have hbf : bb = false := by rw [← HBE.out]; exact decide_eq_false (fun h => ht h.1)
                  clear ht
                  refine wp_region_held_drew (S := (fun W' : World => W' = U0.drew)) (by kernel_rfl) (rfl) (fun hHeld => ?_)
                  refine wpAnyH_take (i := 0) (oi := _) (v := ?_) (by rw [List.getElem?_toArray]; rfl) (by kernel_rfl) (by kernel_rfl) (by kernel_rfl) (by exact fun _ _ _ h => h) (Or.inl ⟨by rfl, ?_⟩) (by assumption) ?_
                  rotate_left
                  · intro w hSw
                    try simp only [Cells, blk, List.cons_append, List.nil_append, and_true, Nat.reduceAdd, Nat.add_zero, Nat.zero_add] at hSw
                    go_simp
                    try with_reducible rfl
                  simp only [Act.put, List.setIfInBounds_toArray, List.set_cons_zero, List.set_cons_succ]
                  refine wpAnyH_take (i := 1) (oi := _) (v := ?_) (by rw [List.getElem?_toArray]; rfl) (by kernel_rfl) (by kernel_rfl) (by kernel_rfl) (by exact fun _ _ _ h => h) (Or.inl ⟨by rfl, ?_⟩) (by assumption) ?_
                  rotate_left
                  · intro w hSw
                    try simp only [Cells, blk, List.cons_append, List.nil_append, and_true, Nat.reduceAdd, Nat.add_zero, Nat.zero_add] at hSw
                    go_simp
                    try with_reducible rfl
                  simp only [Act.put, List.setIfInBounds_toArray, List.set_cons_zero, List.set_cons_succ]
                  refine wpAnyH_take (i := 2) (oi := _) (v := ?_) (by rw [List.getElem?_toArray]; rfl) (by kernel_rfl) (by kernel_rfl) (by kernel_rfl) (by exact fun _ _ _ h => h) (Or.inl ⟨by rfl, ?_⟩) (by assumption) ?_
                  rotate_left
                  · intro w hSw
                    try simp only [Cells, blk, List.cons_append, List.nil_append, and_true, Nat.reduceAdd, Nat.add_zero, Nat.zero_add] at hSw
                    go_simp
                    try with_reducible rfl
                  simp only [Act.put, List.setIfInBounds_toArray, List.set_cons_zero, List.set_cons_succ]
                  refine wpAnyH_take (i := 3) (oi := _) (v := undef) (by rw [List.getElem?_toArray]; rfl) (by kernel_rfl) (by kernel_rfl) (by kernel_rfl) (by exact fun _ _ _ h => h) (Or.inr ⟨by rfl, rfl⟩) (by assumption) ?_
                  simp only [Act.put, List.setIfInBounds_toArray, List.set_cons_zero, List.set_cons_succ]
                  refine wpAnyH_take (i := 4) (oi := _) (v := undef) (by rw [List.getElem?_toArray]; rfl) (by kernel_rfl) (by kernel_rfl) (by kernel_rfl) (by exact fun _ _ _ h => h) (Or.inr ⟨by rfl, rfl⟩) (by assumption) ?_
                  simp only [Act.put, List.setIfInBounds_toArray, List.set_cons_zero, List.set_cons_succ]
                  refine wpAnyH_take (i := 5) (oi := _) (v := undef) (by rw [List.getElem?_toArray]; rfl) (by kernel_rfl) (by kernel_rfl) (by kernel_rfl) (by exact fun _ _ _ h => h) (Or.inr ⟨by rfl, rfl⟩) (by assumption) ?_
                  simp only [Act.put, List.setIfInBounds_toArray, List.set_cons_zero, List.set_cons_succ]
                  refine wpAnyH_take (i := 6) (oi := _) (v := undef) (by rw [List.getElem?_toArray]; rfl) (by kernel_rfl) (by kernel_rfl) (by kernel_rfl) (by exact fun _ _ _ h => h) (Or.inr ⟨by rfl, rfl⟩) (by assumption) ?_
                  simp only [Act.put, List.setIfInBounds_toArray, List.set_cons_zero, List.set_cons_succ]
                  refine wpAnyH_take (i := 7) (oi := _) (v := undef) (by rw [List.getElem?_toArray]; rfl) (by kernel_rfl) (by kernel_rfl) (by kernel_rfl) (by exact fun _ _ _ h => h) (Or.inr ⟨by rfl, rfl⟩) (by assumption) ?_
                  simp only [Act.put, List.setIfInBounds_toArray, List.set_cons_zero, List.set_cons_succ]
                  refine wpAnyH_take (i := 8) (oi := _) (v := undef) (by rw [List.getElem?_toArray]; rfl) (by kernel_rfl) (by kernel_rfl) (by kernel_rfl) (by exact fun _ _ _ h => h) (Or.inr ⟨by rfl, rfl⟩) (by assumption) ?_
                  simp only [Act.put, List.setIfInBounds_toArray, List.set_cons_zero, List.set_cons_succ]
                  refine wpAnyH_take (i := 9) (oi := _) (v := undef) (by rw [List.getElem?_toArray]; rfl) (by kernel_rfl) (by kernel_rfl) (by kernel_rfl) (by exact fun _ _ _ h => h) (Or.inr ⟨by rfl, rfl⟩) (by assumption) ?_
                  simp only [Act.put, List.setIfInBounds_toArray, List.set_cons_zero, List.set_cons_succ]
                  refine wpAnyH_take (i := 10) (oi := _) (v := undef) (by rw [List.getElem?_toArray]; rfl) (by kernel_rfl) (by kernel_rfl) (by kernel_rfl) (by exact fun _ _ _ h => h) (Or.inr ⟨by rfl, rfl⟩) (by assumption) ?_
                  simp only [Act.put, List.setIfInBounds_toArray, List.set_cons_zero, List.set_cons_succ]
                  refine wpAnyH_take (i := 11) (oi := _) (v := undef) (by rw [List.getElem?_toArray]; rfl) (by kernel_rfl) (by kernel_rfl) (by kernel_rfl) (by exact fun _ _ _ h => h) (Or.inr ⟨by rfl, rfl⟩) (by assumption) ?_
                  simp only [Act.put, List.setIfInBounds_toArray, List.set_cons_zero, List.set_cons_succ]
                  refine wpAnyH_take (i := 12) (oi := _) (v := ?_) (by rw [List.getElem?_toArray]; rfl) (by kernel_rfl) (by kernel_rfl) (by kernel_rfl) (by exact fun _ _ _ h => h) (Or.inl ⟨by rfl, ?_⟩) (by assumption) ?_
                  rotate_left
                  · intro w hSw
                    try simp only [Cells, blk, List.cons_append, List.nil_append, and_true, Nat.reduceAdd, Nat.add_zero, Nat.zero_add] at hSw
                    go_simp
                    try with_reducible rfl
                  simp only [Act.put, List.setIfInBounds_toArray, List.set_cons_zero, List.set_cons_succ]
                  refine wpAnyH_done (by kernel_rfl) ?_ _
                  go_wp2_with fail
                  go_meet
                  exact ⟨by rw [hbf], (Below.refl _ _).drew⟩
              case rest =>
                obtain ⟨rfl, hBY⟩ := hcut
                rename World => Y
                have HBY0 := Lib.hid (HBU.out.trans (hBY.mono HBU.out.size))
                cases bb with
                | true =>
                  obtain ⟨h0t, htl⟩ := HTL.out rfl
                  obtain ⟨t1, ht1⟩ : ∃ t1, t = t1 + 1 := ⟨t - 1, by omega⟩
                  have w3 : IntKind.i64.wrap ((t : Int) - 1) = (t1 : Int) := by rw [IntWalk.i64_in _ (by omega)]; omega
                  rw [show t - 1 = t1 by omega] at htl
                  have HT1 := Lib.hid htl
                  have HTE := Lib.hid ht1
                  have HLOW := Lib.hid hlow.out
                  clear htl HTL HTF HBE hlow ht1
                  go_wp2_with fail
                  have ht1 := HTE.out
                  refine ⟨⟨t1, rfl, by omega, fun j h1 h2 => ?_, HBY0.out⟩, ?_⟩
                  · by_cases hj : j = t1
                    · rw [hj]; exact HT1.out
                    · exact HLOW.out j (by omega) h2
                  · simp [intOf]
                    omega
                | false =>
                  have hstop := HTF.out rfl
                  have HSTOP := Lib.hid hstop
                  have HLOW := Lib.hid hlow.out
                  have hBY2 := HBXV.out.trans (HBY0.out.mono HBXV.out.size)
                  have HBY := Lib.hid (HF.out.trans (hBY2.mono HF.out.size))
                  have hinvY := HINV.out.below hBY2
                  have hiYY := (HBY0.out.block i hiY).trans HIK.out
                  have TY : Cells Y (blk i 0 0 [.int .i64 S, .int .i64 C, .int .i64 F, .int .i64 KK, .slice xa L xc]) := ⟨cell_of_row _ _ 0 _ _ _ hiYY, cell_of_row _ _ 1 _ _ _ hiYY, cell_of_row _ _ 2 _ _ _ hiYY, cell_of_row _ _ 3 _ _ _ hiYY, cell_of_row _ _ 4 _ _ _ hiYY, trivial⟩
                  have hbb2 := HBB.out.below HBY0.out
                  have hbase : w.heap.size ≤ Y.heap.size := HBY.out.size
                  have hgbV : gb < V.heap.size := (HINV.out.own.lt gb (by simp [Value.ownBlock])).2
                  have hrd1 : Cd1 w.heap.size Y (.slice (some ⟨gb, 0, none⟩) k cap) ⟨S, C, F, KK, bs⟩ (.slice xa L xc) := by
                    refine ⟨hbb2, fun q hq => Nat.le_trans HF.out.size (HOL.out q hq), ?_⟩
                    rcases hbb2.nil_or with h | ⟨b', e1, e2⟩
                    · exact .inl h
                    · refine .inr ⟨b', e1, e2, fun e => ?_⟩
                      have := HOL.out b' e1
                      simp [Value.ownBlock] at e
                      omega
                  have hlv := hinvY.len
                  rw [prm_len] at hlv
                  have hl1 : ((cpcells (prm hf q k) vs).take (t * 5)).length = t * 5 := by rw [List.length_take, cpcells_len _ _ hinvY.len, prm_len]; omega
                  have hl2 : ((cpcells (prm hf q k) vs).drop (t * 5)).length = (k - t) * 5 := by rw [List.length_drop, cpcells_len _ _ hinvY.len, prm_len]; omega
                  have hon := cpcells_one _ _ hinvY.len hinvY.one
                  have ho1 : ∀ u ∈ (cpcells (prm hf q k) vs).take (t * 5), u.oneCell' = true := fun u hu => hon u (List.mem_of_mem_take hu)
                  have ho2 : ∀ u ∈ (cpcells (prm hf q k) vs).drop (t * 5), u.oneCell' = true := fun u hu => hon u (List.mem_of_mem_drop hu)
                  have hnw1 : ∀ W, Below Y.heap.size Y W → ∀ j u, ((cpcells (prm hf q k) vs).take (t * 5))[j]? = some u → W.cell? ((⟨gb, 0, none⟩ : Addr).add j) = some u := fun W hW j u hj => by
                    rw [List.getElem?_take] at hj
                    split at hj
                    · exact hinvY.news (prm_len _ _ _) hW 0 j u (by simpa using hj)
                    · cases hj
                  have hnw2 : ∀ W, Below Y.heap.size Y W → ∀ j u, ((cpcells (prm hf q k) vs).drop (t * 5))[j]? = some u → W.cell? ((if cap = t then ⟨gb, 0, none⟩ else ⟨gb, t * 5, none⟩ : Addr).add j) = some u := fun W hW j u hj => by
                    by_cases hct : cap = t
                    · have hlt := (List.getElem?_eq_some_iff.1 hj).1
                      rw [hl2] at hlt
                      omega
                    · rw [if_neg hct]
                      exact hinvY.news (prm_len _ _ _) hW (t * 5) j u hj
                  have NW1 := Lib.hid hnw1
                  have NW2 := Lib.hid hnw2
                  have HO1 := Lib.hid ho1
                  have HO2 := Lib.hid ho2
                  have HL1 := Lib.hid hl1
                  have HL2 := Lib.hid hl2
                  have HINVY := Lib.hid hinvY
                  have HRD1 := Lib.hid hrd1
                  have HTM := Lib.hid htm
                  have HBASE := Lib.hid hbase
                  have j1 : (0 : Int) ≤ (t : Int) := by omega
                  have j2 : (t : Int) ≤ (k : Int) := by omega
                  have j3 : (t : Int) ≤ (cap : Int) := by omega
                  have j4 : (k : Int) ≤ (cap : Int) := by omega
                  clear hinvY hiYY hrd1 hlv hl1 hl2 hon ho1 ho2 hnw1 hnw2 hbb2 hBY2 hstop hlow hbase HTL HTF HBE
                  go_upto_region 15 with fail
                  refine wp_region_held_drew (S := (fun W' : World => Below Y.heap.size Y W' ∧ Y.heap.size ≤ W'.heap.size ∧ Cells W' (blk i 0 0 [.int .i64 S, .int .i64 C, .int .i64 F, .int .i64 KK, .slice xa L xc]))) (by kernel_rfl) (⟨(Below.refl _ _).drew, Nat.le_refl _, TY.drew⟩) (fun hHeld => ?_)
                  generalize World.drew _ = wd at hHeld ⊢
                  have hz := hHeld.2.1
                  refine wpAnyH_take (i := 1) (oi := _) (v := ?_) (by rw [List.getElem?_toArray]; rfl) (by kernel_rfl) (by kernel_rfl) (by kernel_rfl) (by exact fun _ _ _ h => h) (Or.inl ⟨by rfl, ?_⟩) (by assumption) ?_
                  rotate_left
                  · intro w hSw
                    try simp only [Cells, blk, List.cons_append, List.nil_append, and_true, Nat.reduceAdd, Nat.add_zero, Nat.zero_add] at hSw
                    go_simp
                    try with_reducible rfl
                  simp only [Act.put, List.setIfInBounds_toArray, List.set_cons_zero, List.set_cons_succ]
                  refine wpAnyH_take (i := 2) (oi := _) (v := ?_) (by rw [List.getElem?_toArray]; rfl) (by kernel_rfl) (by kernel_rfl) (by kernel_rfl) (by exact fun _ _ _ h => h) (Or.inl ⟨by rfl, ?_⟩) (by assumption) ?_
                  rotate_left
                  · intro w hSw
                    try simp only [Cells, blk, List.cons_append, List.nil_append, and_true, Nat.reduceAdd, Nat.add_zero, Nat.zero_add] at hSw
                    go_simp
                    try with_reducible rfl
                  simp only [Act.put, List.setIfInBounds_toArray, List.set_cons_zero, List.set_cons_succ]
                  refine wpAnyH_take (i := 3) (oi := _) (v := ?_) (by rw [List.getElem?_toArray]; rfl) (by kernel_rfl) (by kernel_rfl) (by kernel_rfl) (by exact fun _ _ _ h => h) (Or.inl ⟨by rfl, ?_⟩) (by assumption) ?_
                  rotate_left
                  · intro w hSw
                    try simp only [Cells, blk, List.cons_append, List.nil_append, and_true, Nat.reduceAdd, Nat.add_zero, Nat.zero_add] at hSw
                    go_simp
                    try with_reducible rfl
                  simp only [Act.put, List.setIfInBounds_toArray, List.set_cons_zero, List.set_cons_succ]
                  refine wpAnyH_take (i := 5) (oi := _) (v := ?_) (by rw [List.getElem?_toArray]; rfl) (by kernel_rfl) (by kernel_rfl) (by kernel_rfl) (by exact fun _ _ _ h => h) (Or.inl ⟨by rfl, ?_⟩) (by assumption) ?_
                  rotate_left
                  · intro w hSw
                    try simp only [Cells, blk, List.cons_append, List.nil_append, and_true, Nat.reduceAdd, Nat.add_zero, Nat.zero_add] at hSw
                    go_simp
                    try with_reducible rfl
                  simp only [Act.put, List.setIfInBounds_toArray, List.set_cons_zero, List.set_cons_succ]
                  refine wpAnyH_take (i := 8) (oi := _) (v := ?_) (by rw [List.getElem?_toArray]; rfl) (by kernel_rfl) (by kernel_rfl) (by kernel_rfl) (by exact fun _ _ _ h => h) (Or.inl ⟨by rfl, ?_⟩) (by assumption) ?_
                  rotate_left
                  · intro w hSw
                    try simp only [Cells, blk, List.cons_append, List.nil_append, and_true, Nat.reduceAdd, Nat.add_zero, Nat.zero_add] at hSw
                    go_simp
                    try with_reducible rfl
                  simp only [Act.put, List.setIfInBounds_toArray, List.set_cons_zero, List.set_cons_succ]
                  refine wpAnyH_take (i := 9) (oi := _) (v := ?_) (by rw [List.getElem?_toArray]; rfl) (by kernel_rfl) (by kernel_rfl) (by kernel_rfl) (by exact fun _ _ _ h => h) (Or.inl ⟨by rfl, ?_⟩) (by assumption) ?_
                  rotate_left
                  · intro w hSw
                    try simp only [Cells, blk, List.cons_append, List.nil_append, and_true, Nat.reduceAdd, Nat.add_zero, Nat.zero_add] at hSw
                    go_simp
                    try with_reducible rfl
                  simp only [Act.put, List.setIfInBounds_toArray, List.set_cons_zero, List.set_cons_succ]
                  refine wpAnyH_take (i := 10) (oi := _) (v := ?_) (by rw [List.getElem?_toArray]; rfl) (by kernel_rfl) (by kernel_rfl) (by kernel_rfl) (by exact fun _ _ _ h => h) (Or.inl ⟨by rfl, ?_⟩) (by assumption) ?_
                  rotate_left
                  · intro w hSw
                    try simp only [Cells, blk, List.cons_append, List.nil_append, and_true, Nat.reduceAdd, Nat.add_zero, Nat.zero_add] at hSw
                    go_simp
                    try with_reducible rfl
                  simp only [Act.put, List.setIfInBounds_toArray, List.set_cons_zero, List.set_cons_succ]
                  refine wpAnyH_ready (rs := [0, 6]) (by kernel_rfl) (by simp) (AllReadyH.cons (o := _) (by rw [List.getElem?_toArray]; rfl) (fun K hK => ?_) (AllReadyH.cons (o := _) (by rw [List.getElem?_toArray]; rfl) (fun K hK => ?_) AllReadyH.nil))
                  · go_simp
                    generalize hX : World.alloc _ (.cells #[] 35) = w2
                    have own1 := World.ownsRow_made (base := Y.heap.size) (e := 35) (size := 5) _ #[] 0 hz (by unfold maxLen; omega) rfl
                    rw [hX] at own1
                    obtain ⟨h2, hB2, h2z⟩ := alloc_named hX
                    have h2l := Nat.le_of_eq h2z.symm
                    clear hX h2z h2
                    try have hc6 := hc6.below2 hB2
                    refine hK.out _ _ (⟨hHeld.1.trans (hB2.mono (by have := hHeld.2.1; omega)), Nat.le_trans hHeld.2.1 hB2.size, hHeld.2.2.keep hB2⟩) (fun hHeld2 => ?_)
                    replace hHeld := hHeld2
                    clear hK K hHeld2
                    try simp only [Act.put, List.setIfInBounds_toArray, List.set_cons_zero, List.set_cons_succ]
                    have hz := hHeld.2.1
                    refine wpAnyH_ready (rs := [4, 6]) (by kernel_rfl) (by simp) (AllReadyH.cons (o := _) (by rw [List.getElem?_toArray]; rfl) (fun K hK => ?_) (AllReadyH.cons (o := _) (by rw [List.getElem?_toArray]; rfl) (fun K hK => ?_) AllReadyH.nil))
                    · refine step_append_at (by rfl) _ _ 22 (by rfl) Y.heap.size 35 i5 (.agg #[.int .i64 0, .int .i64 0, .int .i64 0, .int .i64 0, .slice none 0 0]) 5 56 Tryd.underlying22 hi5 hy0 hy1 hy2 rfl (by decide) _ (0) ([]) (by rfl) own1 ⟨gb, 0, none⟩ (t) (cap) ((cpcells (prm hf q k) vs).take (t * 5)) (by rfl) HL1.out (NW1.out _ hHeld.1) HO1.out (by unfold maxLen; omega) (by omega) hz ?_
                      intro v4 w4 own2 hg4 hne4
                      have hB4 := hHeld.1.grown hg4 hz (fun b hb => (own1.lt b hb).1)
                      have ng4 : v4 ≠ .slice none 0 0 := fun e => by cases hne4 e
                      try replace hc6 := hc6.grown2 hg4 (fun e => by simp [Value.ownBlock] at e; omega)
                      clear own1 hne4
                      refine hK.out _ _ (⟨hB4, Nat.le_trans hHeld.2.1 hg4.size, TY.keep hB4⟩) (fun hHeld2 => ?_)
                      replace hHeld := hHeld2
                      clear hK K hHeld2
                      try simp only [Act.put, List.setIfInBounds_toArray, List.set_cons_zero, List.set_cons_succ]
                      have hz := hHeld.2.1
                      refine wpAnyH_ready (rs := [6]) (by kernel_rfl) (by simp) (AllReadyH.cons (o := _) (by rw [List.getElem?_toArray]; rfl) (fun K hK => ?_) AllReadyH.nil)
                      go_simp
                      generalize hX : World.alloc _ (.cells #[.int .i64 S, .int .i64 C, .int .i64 F, .int .i64 KK, .slice xa L xc] 35) = w6
                      obtain ⟨h6, hB6, h6z⟩ := alloc_named hX
                      have hc6 : New5 w6 _ [.int .i64 S, .int .i64 C, .int .i64 F, .int .i64 KK, .slice xa L xc] := new5_of h6
                      have h6l := Nat.le_of_eq h6z.symm
                      clear hX h6z h6
                      try replace own1 := own_below own1 hB6
                      try replace own2 := own_below own2 hB6
                      refine hK.out _ _ (⟨hHeld.1.trans (hB6.mono (by have := hHeld.2.1; omega)), Nat.le_trans hHeld.2.1 hB6.size, hHeld.2.2.keep hB6⟩) (fun hHeld2 => ?_)
                      replace hHeld := hHeld2
                      clear hK K hHeld2
                      try simp only [Act.put, List.setIfInBounds_toArray, List.set_cons_zero, List.set_cons_succ]
                      have hz := hHeld.2.1
                      refine wpAnyH_ready (rs := [7]) (by kernel_rfl) (by simp) (AllReadyH.cons (o := _) (by rw [List.getElem?_toArray]; rfl) (fun K hK => ?_) AllReadyH.nil)
                      refine step_append_at (by rfl) _ _ 22 (by rfl) Y.heap.size 35 i5 (.agg #[.int .i64 0, .int .i64 0, .int .i64 0, .int .i64 0, .slice none 0 0]) 5 56 Tryd.underlying22 hi5 hy0 hy1 hy2 rfl (by decide) _ (0 + t) ([] ++ (cpcells (prm hf q k) vs).take (t * 5)) (by rfl) own2 ⟨_, 0, none⟩ (1) (1) ([.int .i64 S, .int .i64 C, .int .i64 F, .int .i64 KK, .slice xa L xc]) (by rfl) (by rfl) hc6.news (by intro u hu; simp at hu; rcases hu with rfl | rfl | rfl | rfl | rfl <;> rfl) (by unfold maxLen; omega) (by omega) hz ?_
                      intro v7 w7 own3 hg7 hne7
                      have hB7 := hHeld.1.grown hg7 hz (fun b hb => (own2.lt b hb).1)
                      have ng7 : v7 ≠ .slice none 0 0 := fun e => ng4 (hne7 e)
                      clear own2 hne7 hc6
                      refine hK.out _ _ (⟨hB7, Nat.le_trans hHeld.2.1 hg7.size, TY.keep hB7⟩) (fun hHeld2 => ?_)
                      replace hHeld := hHeld2
                      clear hK K hHeld2
                      try simp only [Act.put, List.setIfInBounds_toArray, List.set_cons_zero, List.set_cons_succ]
                      have hz := hHeld.2.1
                      refine wpAnyH_ready (rs := [11]) (by kernel_rfl) (by simp) (AllReadyH.cons (o := _) (by rw [List.getElem?_toArray]; rfl) (fun K hK => ?_) AllReadyH.nil)
                      refine step_append_at (by rfl) _ _ 22 (by rfl) Y.heap.size 35 i5 (.agg #[.int .i64 0, .int .i64 0, .int .i64 0, .int .i64 0, .slice none 0 0]) 5 56 Tryd.underlying22 hi5 hy0 hy1 hy2 rfl (by decide) _ (0 + t + 1) (([] ++ (cpcells (prm hf q k) vs).take (t * 5)) ++ [.int .i64 S, .int .i64 C, .int .i64 F, .int .i64 KK, .slice xa L xc]) (by rfl) own3 (if cap = t then ⟨gb, 0, none⟩ else ⟨gb, t * 5, none⟩) (k - t) (cap - t) ((cpcells (prm hf q k) vs).drop (t * 5)) (by show Value.slice (if cap = t then some (⟨gb, 0, none⟩ : Addr) else some ⟨gb, t * 5, none⟩) (k - t) (cap - t) = _; split <;> rfl) HL2.out (NW2.out _ hHeld.1) HO2.out (by unfold maxLen; omega) (by omega) hz ?_
                      intro v11 w11 own4 hg11 hne11
                      have hB11 := hHeld.1.grown hg11 hz (fun b hb => (own3.lt b hb).1)
                      have ng11 : v11 ≠ .slice none 0 0 := fun e => ng7 (hne11 e)
                      have fin := cpi_ins (t := t) (r := ⟨S, C, F, KK, bs⟩) HINVY.out HRD1.out (by rw [prm_len]; exact HTM.out) hB11 HBASE.out (by rw [prm_len]; exact own4)
                      have hqm : q k = k := hmem.out.out k (.inr (Nat.le_refl _))
                      rw [← HREC.out, prm_ins HTM.out hqm] at fin
                      have FIN := Lib.hid fin
                      have hidx : ∀ j, 0 ≤ j → j < k → q j < q k := fun j h1 h2 => by
                        obtain ⟨x, _, hx, e⟩ := hmem.out.from' j h1 h2
                        rw [e, hqm]
                        exact hx
                      have srt := srt_down (tlt_swo fun k => ts.getD k default) hsrt.out hidx (Nat.zero_le t) HTM.out (fun j h1 h2 => by rw [hqm]; exact HLOW.out j h1 h2) (by rw [hqm]; exact HSTOP.out)
                      have mem := (hmem.out.wide (Nat.le_refl 0) (Nat.le_succ k)).trans ((mem_rot (p := q) HTM.out (Nat.le_succ k)).wide (Nat.zero_le t) (Nat.le_refl _))
                      have SRT := Lib.hid srt
                      have MEM := Lib.hid mem
                      clear own3 own4 hne11 fin srt mem hidx
                      refine hK.out _ _ (⟨hB11, Nat.le_trans hHeld.2.1 hg11.size, TY.keep hB11⟩) (fun hHeld2 => ?_)
                      replace hHeld := hHeld2
                      clear hK K hHeld2
                      try simp only [Act.put, List.setIfInBounds_toArray, List.set_cons_zero, List.set_cons_succ]
                      have hz := hHeld.2.1
                      refine wpAnyH_take (i := 12) (oi := _) (v := ?_) (by rw [List.getElem?_toArray]; rfl) (by kernel_rfl) (by kernel_rfl) (by kernel_rfl) (by exact fun _ _ _ h => h) (Or.inl ⟨by rfl, ?_⟩) (by assumption) ?_
                      rotate_left
                      · intro w hSw
                        try simp only [Cells, blk, List.cons_append, List.nil_append, and_true, Nat.reduceAdd, Nat.add_zero, Nat.zero_add] at hSw
                        go_simp
                        try with_reducible rfl
                      simp only [Act.put, List.setIfInBounds_toArray, List.set_cons_zero, List.set_cons_succ]
                      refine wpAnyH_done (by kernel_rfl) ?_ _
                      generalize (if cap = t then some (⟨gb, 0, none⟩ : Addr) else some ⟨gb, t * 5, none⟩) = A2
                      have HFI := Lib.hid (HBY.out.trans (hHeld.1.mono HBASE.out))
                      clear hHeld hz
                      go_wp2
                      refine ⟨⟨k + 1, rot q t k (k + 1), _, by omega, by simp, ng11, FIN.out, MEM.out, SRT.out, HFI.out⟩, ?_⟩
                      simp [intOf]
                      omega
                    · go_simp
                      generalize hX : World.alloc _ (.cells #[.int .i64 S, .int .i64 C, .int .i64 F, .int .i64 KK, .slice xa L xc] 35) = w6
                      obtain ⟨h6, hB6, h6z⟩ := alloc_named hX
                      have hc6 : New5 w6 _ [.int .i64 S, .int .i64 C, .int .i64 F, .int .i64 KK, .slice xa L xc] := new5_of h6
                      have h6l := Nat.le_of_eq h6z.symm
                      clear hX h6z h6
                      try replace own1 := own_below own1 hB6
                      try replace own2 := own_below own2 hB6
                      refine hK.out _ _ (⟨hHeld.1.trans (hB6.mono (by have := hHeld.2.1; omega)), Nat.le_trans hHeld.2.1 hB6.size, hHeld.2.2.keep hB6⟩) (fun hHeld2 => ?_)
                      replace hHeld := hHeld2
                      clear hK K hHeld2
                      try simp only [Act.put, List.setIfInBounds_toArray, List.set_cons_zero, List.set_cons_succ]
                      have hz := hHeld.2.1
                      refine wpAnyH_ready (rs := [4]) (by kernel_rfl) (by simp) (AllReadyH.cons (o := _) (by rw [List.getElem?_toArray]; rfl) (fun K hK => ?_) AllReadyH.nil)
                      refine step_append_at (by rfl) _ _ 22 (by rfl) Y.heap.size 35 i5 (.agg #[.int .i64 0, .int .i64 0, .int .i64 0, .int .i64 0, .slice none 0 0]) 5 56 Tryd.underlying22 hi5 hy0 hy1 hy2 rfl (by decide) _ (0) ([]) (by rfl) own1 ⟨gb, 0, none⟩ (t) (cap) ((cpcells (prm hf q k) vs).take (t * 5)) (by rfl) HL1.out (NW1.out _ hHeld.1) HO1.out (by unfold maxLen; omega) (by omega) hz ?_
                      intro v4 w4 own2 hg4 hne4
                      have hB4 := hHeld.1.grown hg4 hz (fun b hb => (own1.lt b hb).1)
                      have ng4 : v4 ≠ .slice none 0 0 := fun e => by cases hne4 e
                      try replace hc6 := hc6.grown2 hg4 (fun e => by simp [Value.ownBlock] at e; omega)
                      clear own1 hne4
                      refine hK.out _ _ (⟨hB4, Nat.le_trans hHeld.2.1 hg4.size, TY.keep hB4⟩) (fun hHeld2 => ?_)
                      replace hHeld := hHeld2
                      clear hK K hHeld2
                      try simp only [Act.put, List.setIfInBounds_toArray, List.set_cons_zero, List.set_cons_succ]
                      have hz := hHeld.2.1
                      refine wpAnyH_ready (rs := [7]) (by kernel_rfl) (by simp) (AllReadyH.cons (o := _) (by rw [List.getElem?_toArray]; rfl) (fun K hK => ?_) AllReadyH.nil)
                      refine step_append_at (by rfl) _ _ 22 (by rfl) Y.heap.size 35 i5 (.agg #[.int .i64 0, .int .i64 0, .int .i64 0, .int .i64 0, .slice none 0 0]) 5 56 Tryd.underlying22 hi5 hy0 hy1 hy2 rfl (by decide) _ (0 + t) ([] ++ (cpcells (prm hf q k) vs).take (t * 5)) (by rfl) own2 ⟨_, 0, none⟩ (1) (1) ([.int .i64 S, .int .i64 C, .int .i64 F, .int .i64 KK, .slice xa L xc]) (by rfl) (by rfl) hc6.news (by intro u hu; simp at hu; rcases hu with rfl | rfl | rfl | rfl | rfl <;> rfl) (by unfold maxLen; omega) (by omega) hz ?_
                      intro v7 w7 own3 hg7 hne7
                      have hB7 := hHeld.1.grown hg7 hz (fun b hb => (own2.lt b hb).1)
                      have ng7 : v7 ≠ .slice none 0 0 := fun e => ng4 (hne7 e)
                      clear own2 hne7 hc6
                      refine hK.out _ _ (⟨hB7, Nat.le_trans hHeld.2.1 hg7.size, TY.keep hB7⟩) (fun hHeld2 => ?_)
                      replace hHeld := hHeld2
                      clear hK K hHeld2
                      try simp only [Act.put, List.setIfInBounds_toArray, List.set_cons_zero, List.set_cons_succ]
                      have hz := hHeld.2.1
                      refine wpAnyH_ready (rs := [11]) (by kernel_rfl) (by simp) (AllReadyH.cons (o := _) (by rw [List.getElem?_toArray]; rfl) (fun K hK => ?_) AllReadyH.nil)
                      refine step_append_at (by rfl) _ _ 22 (by rfl) Y.heap.size 35 i5 (.agg #[.int .i64 0, .int .i64 0, .int .i64 0, .int .i64 0, .slice none 0 0]) 5 56 Tryd.underlying22 hi5 hy0 hy1 hy2 rfl (by decide) _ (0 + t + 1) (([] ++ (cpcells (prm hf q k) vs).take (t * 5)) ++ [.int .i64 S, .int .i64 C, .int .i64 F, .int .i64 KK, .slice xa L xc]) (by rfl) own3 (if cap = t then ⟨gb, 0, none⟩ else ⟨gb, t * 5, none⟩) (k - t) (cap - t) ((cpcells (prm hf q k) vs).drop (t * 5)) (by show Value.slice (if cap = t then some (⟨gb, 0, none⟩ : Addr) else some ⟨gb, t * 5, none⟩) (k - t) (cap - t) = _; split <;> rfl) HL2.out (NW2.out _ hHeld.1) HO2.out (by unfold maxLen; omega) (by omega) hz ?_
                      intro v11 w11 own4 hg11 hne11
                      have hB11 := hHeld.1.grown hg11 hz (fun b hb => (own3.lt b hb).1)
                      have ng11 : v11 ≠ .slice none 0 0 := fun e => ng7 (hne11 e)
                      have fin := cpi_ins (t := t) (r := ⟨S, C, F, KK, bs⟩) HINVY.out HRD1.out (by rw [prm_len]; exact HTM.out) hB11 HBASE.out (by rw [prm_len]; exact own4)
                      have hqm : q k = k := hmem.out.out k (.inr (Nat.le_refl _))
                      rw [← HREC.out, prm_ins HTM.out hqm] at fin
                      have FIN := Lib.hid fin
                      have hidx : ∀ j, 0 ≤ j → j < k → q j < q k := fun j h1 h2 => by
                        obtain ⟨x, _, hx, e⟩ := hmem.out.from' j h1 h2
                        rw [e, hqm]
                        exact hx
                      have srt := srt_down (tlt_swo fun k => ts.getD k default) hsrt.out hidx (Nat.zero_le t) HTM.out (fun j h1 h2 => by rw [hqm]; exact HLOW.out j h1 h2) (by rw [hqm]; exact HSTOP.out)
                      have mem := (hmem.out.wide (Nat.le_refl 0) (Nat.le_succ k)).trans ((mem_rot (p := q) HTM.out (Nat.le_succ k)).wide (Nat.zero_le t) (Nat.le_refl _))
                      have SRT := Lib.hid srt
                      have MEM := Lib.hid mem
                      clear own3 own4 hne11 fin srt mem hidx
                      refine hK.out _ _ (⟨hB11, Nat.le_trans hHeld.2.1 hg11.size, TY.keep hB11⟩) (fun hHeld2 => ?_)
                      replace hHeld := hHeld2
                      clear hK K hHeld2
                      try simp only [Act.put, List.setIfInBounds_toArray, List.set_cons_zero, List.set_cons_succ]
                      have hz := hHeld.2.1
                      refine wpAnyH_take (i := 12) (oi := _) (v := ?_) (by rw [List.getElem?_toArray]; rfl) (by kernel_rfl) (by kernel_rfl) (by kernel_rfl) (by exact fun _ _ _ h => h) (Or.inl ⟨by rfl, ?_⟩) (by assumption) ?_
                      rotate_left
                      · intro w hSw
                        try simp only [Cells, blk, List.cons_append, List.nil_append, and_true, Nat.reduceAdd, Nat.add_zero, Nat.zero_add] at hSw
                        go_simp
                        try with_reducible rfl
                      simp only [Act.put, List.setIfInBounds_toArray, List.set_cons_zero, List.set_cons_succ]
                      refine wpAnyH_done (by kernel_rfl) ?_ _
                      generalize (if cap = t then some (⟨gb, 0, none⟩ : Addr) else some ⟨gb, t * 5, none⟩) = A2
                      have HFI := Lib.hid (HBY.out.trans (hHeld.1.mono HBASE.out))
                      clear hHeld hz
                      go_wp2
                      refine ⟨⟨k + 1, rot q t k (k + 1), _, by omega, by simp, ng11, FIN.out, MEM.out, SRT.out, HFI.out⟩, ?_⟩
                      simp [intOf]
                      omega
                  · go_simp
                    generalize hX : World.alloc _ (.cells #[.int .i64 S, .int .i64 C, .int .i64 F, .int .i64 KK, .slice xa L xc] 35) = w6
                    obtain ⟨h6, hB6, h6z⟩ := alloc_named hX
                    have hc6 : New5 w6 _ [.int .i64 S, .int .i64 C, .int .i64 F, .int .i64 KK, .slice xa L xc] := new5_of h6
                    have h6l := Nat.le_of_eq h6z.symm
                    clear hX h6z h6
                    try replace own1 := own_below own1 hB6
                    try replace own2 := own_below own2 hB6
                    refine hK.out _ _ (⟨hHeld.1.trans (hB6.mono (by have := hHeld.2.1; omega)), Nat.le_trans hHeld.2.1 hB6.size, hHeld.2.2.keep hB6⟩) (fun hHeld2 => ?_)
                    replace hHeld := hHeld2
                    clear hK K hHeld2
                    try simp only [Act.put, List.setIfInBounds_toArray, List.set_cons_zero, List.set_cons_succ]
                    have hz := hHeld.2.1
                    refine wpAnyH_ready (rs := [0]) (by kernel_rfl) (by simp) (AllReadyH.cons (o := _) (by rw [List.getElem?_toArray]; rfl) (fun K hK => ?_) AllReadyH.nil)
                    go_simp
                    generalize hX : World.alloc _ (.cells #[] 35) = w2
                    have own1 := World.ownsRow_made (base := Y.heap.size) (e := 35) (size := 5) _ #[] 0 hz (by unfold maxLen; omega) rfl
                    rw [hX] at own1
                    obtain ⟨h2, hB2, h2z⟩ := alloc_named hX
                    have h2l := Nat.le_of_eq h2z.symm
                    clear hX h2z h2
                    try have hc6 := hc6.below2 hB2
                    refine hK.out _ _ (⟨hHeld.1.trans (hB2.mono (by have := hHeld.2.1; omega)), Nat.le_trans hHeld.2.1 hB2.size, hHeld.2.2.keep hB2⟩) (fun hHeld2 => ?_)
                    replace hHeld := hHeld2
                    clear hK K hHeld2
                    try simp only [Act.put, List.setIfInBounds_toArray, List.set_cons_zero, List.set_cons_succ]
                    have hz := hHeld.2.1
                    refine wpAnyH_ready (rs := [4]) (by kernel_rfl) (by simp) (AllReadyH.cons (o := _) (by rw [List.getElem?_toArray]; rfl) (fun K hK => ?_) AllReadyH.nil)
                    refine step_append_at (by rfl) _ _ 22 (by rfl) Y.heap.size 35 i5 (.agg #[.int .i64 0, .int .i64 0, .int .i64 0, .int .i64 0, .slice none 0 0]) 5 56 Tryd.underlying22 hi5 hy0 hy1 hy2 rfl (by decide) _ (0) ([]) (by rfl) own1 ⟨gb, 0, none⟩ (t) (cap) ((cpcells (prm hf q k) vs).take (t * 5)) (by rfl) HL1.out (NW1.out _ hHeld.1) HO1.out (by unfold maxLen; omega) (by omega) hz ?_
                    intro v4 w4 own2 hg4 hne4
                    have hB4 := hHeld.1.grown hg4 hz (fun b hb => (own1.lt b hb).1)
                    have ng4 : v4 ≠ .slice none 0 0 := fun e => by cases hne4 e
                    try replace hc6 := hc6.grown2 hg4 (fun e => by simp [Value.ownBlock] at e; omega)
                    clear own1 hne4
                    refine hK.out _ _ (⟨hB4, Nat.le_trans hHeld.2.1 hg4.size, TY.keep hB4⟩) (fun hHeld2 => ?_)
                    replace hHeld := hHeld2
                    clear hK K hHeld2
                    try simp only [Act.put, List.setIfInBounds_toArray, List.set_cons_zero, List.set_cons_succ]
                    have hz := hHeld.2.1
                    refine wpAnyH_ready (rs := [7]) (by kernel_rfl) (by simp) (AllReadyH.cons (o := _) (by rw [List.getElem?_toArray]; rfl) (fun K hK => ?_) AllReadyH.nil)
                    refine step_append_at (by rfl) _ _ 22 (by rfl) Y.heap.size 35 i5 (.agg #[.int .i64 0, .int .i64 0, .int .i64 0, .int .i64 0, .slice none 0 0]) 5 56 Tryd.underlying22 hi5 hy0 hy1 hy2 rfl (by decide) _ (0 + t) ([] ++ (cpcells (prm hf q k) vs).take (t * 5)) (by rfl) own2 ⟨_, 0, none⟩ (1) (1) ([.int .i64 S, .int .i64 C, .int .i64 F, .int .i64 KK, .slice xa L xc]) (by rfl) (by rfl) hc6.news (by intro u hu; simp at hu; rcases hu with rfl | rfl | rfl | rfl | rfl <;> rfl) (by unfold maxLen; omega) (by omega) hz ?_
                    intro v7 w7 own3 hg7 hne7
                    have hB7 := hHeld.1.grown hg7 hz (fun b hb => (own2.lt b hb).1)
                    have ng7 : v7 ≠ .slice none 0 0 := fun e => ng4 (hne7 e)
                    clear own2 hne7 hc6
                    refine hK.out _ _ (⟨hB7, Nat.le_trans hHeld.2.1 hg7.size, TY.keep hB7⟩) (fun hHeld2 => ?_)
                    replace hHeld := hHeld2
                    clear hK K hHeld2
                    try simp only [Act.put, List.setIfInBounds_toArray, List.set_cons_zero, List.set_cons_succ]
                    have hz := hHeld.2.1
                    refine wpAnyH_ready (rs := [11]) (by kernel_rfl) (by simp) (AllReadyH.cons (o := _) (by rw [List.getElem?_toArray]; rfl) (fun K hK => ?_) AllReadyH.nil)
                    refine step_append_at (by rfl) _ _ 22 (by rfl) Y.heap.size 35 i5 (.agg #[.int .i64 0, .int .i64 0, .int .i64 0, .int .i64 0, .slice none 0 0]) 5 56 Tryd.underlying22 hi5 hy0 hy1 hy2 rfl (by decide) _ (0 + t + 1) (([] ++ (cpcells (prm hf q k) vs).take (t * 5)) ++ [.int .i64 S, .int .i64 C, .int .i64 F, .int .i64 KK, .slice xa L xc]) (by rfl) own3 (if cap = t then ⟨gb, 0, none⟩ else ⟨gb, t * 5, none⟩) (k - t) (cap - t) ((cpcells (prm hf q k) vs).drop (t * 5)) (by show Value.slice (if cap = t then some (⟨gb, 0, none⟩ : Addr) else some ⟨gb, t * 5, none⟩) (k - t) (cap - t) = _; split <;> rfl) HL2.out (NW2.out _ hHeld.1) HO2.out (by unfold maxLen; omega) (by omega) hz ?_
                    intro v11 w11 own4 hg11 hne11
                    have hB11 := hHeld.1.grown hg11 hz (fun b hb => (own3.lt b hb).1)
                    have ng11 : v11 ≠ .slice none 0 0 := fun e => ng7 (hne11 e)
                    have fin := cpi_ins (t := t) (r := ⟨S, C, F, KK, bs⟩) HINVY.out HRD1.out (by rw [prm_len]; exact HTM.out) hB11 HBASE.out (by rw [prm_len]; exact own4)
                    have hqm : q k = k := hmem.out.out k (.inr (Nat.le_refl _))
                    rw [← HREC.out, prm_ins HTM.out hqm] at fin
                    have FIN := Lib.hid fin
                    have hidx : ∀ j, 0 ≤ j → j < k → q j < q k := fun j h1 h2 => by
                      obtain ⟨x, _, hx, e⟩ := hmem.out.from' j h1 h2
                      rw [e, hqm]
                      exact hx
                    have srt := srt_down (tlt_swo fun k => ts.getD k default) hsrt.out hidx (Nat.zero_le t) HTM.out (fun j h1 h2 => by rw [hqm]; exact HLOW.out j h1 h2) (by rw [hqm]; exact HSTOP.out)
                    have mem := (hmem.out.wide (Nat.le_refl 0) (Nat.le_succ k)).trans ((mem_rot (p := q) HTM.out (Nat.le_succ k)).wide (Nat.zero_le t) (Nat.le_refl _))
                    have SRT := Lib.hid srt
                    have MEM := Lib.hid mem
                    clear own3 own4 hne11 fin srt mem hidx
                    refine hK.out _ _ (⟨hB11, Nat.le_trans hHeld.2.1 hg11.size, TY.keep hB11⟩) (fun hHeld2 => ?_)
                    replace hHeld := hHeld2
                    clear hK K hHeld2
                    try simp only [Act.put, List.setIfInBounds_toArray, List.set_cons_zero, List.set_cons_succ]
                    have hz := hHeld.2.1
                    refine wpAnyH_take (i := 12) (oi := _) (v := ?_) (by rw [List.getElem?_toArray]; rfl) (by kernel_rfl) (by kernel_rfl) (by kernel_rfl) (by exact fun _ _ _ h => h) (Or.inl ⟨by rfl, ?_⟩) (by assumption) ?_
                    rotate_left
                    · intro w hSw
                      try simp only [Cells, blk, List.cons_append, List.nil_append, and_true, Nat.reduceAdd, Nat.add_zero, Nat.zero_add] at hSw
                      go_simp
                      try with_reducible rfl
                    simp only [Act.put, List.setIfInBounds_toArray, List.set_cons_zero, List.set_cons_succ]
                    refine wpAnyH_done (by kernel_rfl) ?_ _
                    generalize (if cap = t then some (⟨gb, 0, none⟩ : Addr) else some ⟨gb, t * 5, none⟩) = A2
                    have HFI := Lib.hid (HBY.out.trans (hHeld.1.mono HBASE.out))
                    clear hHeld hz
                    go_wp2
                    refine ⟨⟨k + 1, rot q t k (k + 1), _, by omega, by simp, ng11, FIN.out, MEM.out, SRT.out, HFI.out⟩, ?_⟩
                    simp [intOf]
                    omega
    · have ek : k = n := by omega
      have g1 : decide (k < n) = false := by simpa using hlt
      have g1i : decide ((k : Int) < (n : Int)) = false := by simp; omega
      have HFIN := Lib.hid (And.intro hmem.out (And.intro hsrt.out (And.intro hinv.out.cps hB)))
      clear hinv hmem hsrt hB hlt
      go_wp2
      go_ret
      rw [← ek]
      exact ⟨_, q, rfl, HFIN.out.1, HFIN.out.2.1, HFIN.out.2.2.1, HFIN.out.2.2.2⟩
end Go.Proofs.YtccknpdnapoboaaDoor
namespace Go.Proofs.YtccknpdnapoboaaDoor
open Go.RowKit

theorem small_bs {d : Int} {ls : List (Int × Int)} {js : List (Int × Int × Int)} {ss : List (Int × Int)} {ts : List Tr} (h : checkE d ls js ss ts = 0) : ∀ t ∈ ts, t.bs.length ≤ 260 := by
  have hs : ∀ k, k < ts.length → sentV d ts k = 0 := by
    unfold checkE at h
    by_cases h1 : d < 0 ∨ 8 < d
    · rw [if_pos h1] at h; omega
    · rw [if_neg h1] at h
      by_cases h2 : 1000 < js.length ∨ 1000 < ss.length ∨ 1000 < ts.length
      · rw [if_pos h2] at h; omega
      · rw [if_neg h2] at h
        exact firstE_all _ _ (orL_two h)
  intro t ht
  obtain ⟨k, hk, rfl⟩ := List.getElem_of_mem ht
  have := hs k hk
  unfold sentV at this
  have e : ts.getD k default = ts[k] := by rw [List.getD_eq_getElem?_getD, List.getElem?_eq_getElem hk]; rfl
  rw [e] at this
  split at this
  · omega
  · split at this
    · omega
    · split at this
      · omega
      · omega
set_option linter.unusedSimpArgs false in
set_option linter.unusedVariables false in
set_option maxRecDepth 100000 in
set_option maxHeartbeats 8000000 in
theorem captureMakes_walk (v0 v1 v2 : Value) (w : World) (a0 : Arg Tryd.prog w 48 v0) (a1 : Arg Tryd.prog w 49 v1) (a2 : Arg Tryd.prog w 50 v2) (hs : Sums w) (hp : Pow10 w) :
    Calls Tryd.prog 8 #[v0, v1, v2] w fun e w' => e = .returned (.bool true) ∧ Below w.heap.size w w' := by
  obtain ⟨i0, hi0, hz0, hz1, hz2⟩ := info_parts Tryd.info_u8
  obtain ⟨i6, hi6, hy0, hy1, hy2⟩ := info_parts Tryd.info_rc
  obtain ⟨d, lv, jv, sv, ls, js, ss, rfl, hair, _⟩ := arg_air a0
  obtain ⟨ts, hts, htb, hti⟩ := arg_txs a1
  obtain ⟨rs, hrs, hrb, hri⟩ := arg_rcs a2
  clear a0 a1 a2
  obtain ⟨n, hn⟩ : ∃ n, ts.length = n := ⟨_, rfl⟩
  obtain ⟨m, hm⟩ : ∃ n, rs.length = n := ⟨_, rfl⟩
  have hv1 : ∃ a c, v1 = .slice a n c := by
    obtain ⟨_, ao, cap, rfl, _⟩ := hts
    exact ⟨ao, cap, by rw [hn]⟩
  have hv2 : ∃ a c, v2 = .slice a m c := by
    obtain ⟨_, ao, cap, rfl, _⟩ := hrs
    exact ⟨ao, cap, by rw [hm]⟩
  obtain ⟨a1, c1, rfl⟩ := hv1
  obtain ⟨a2, c2, rfl⟩ := hv2
  have hA := heap_alloc_new w (.cells #[.int .i64 d, lv, jv, sv] 48)
  have hb0 : Below w.heap.size w (w.alloc (.cells #[.int .i64 d, lv, jv, sv] 48)) := (Below.refl _ _).alloc (Nat.le_refl _) _
  have hz0' : (w.alloc (.cells #[.int .i64 d, lv, jv, sv] 48)).heap.size = w.heap.size + 1 := by simp
  obtain ⟨U, hU⟩ : ∃ U, w.alloc (.cells #[.int .i64 d, lv, jv, sv] 48) = U := ⟨_, rfl⟩
  rw [hU] at hA hb0 hz0'
  have HLV := Lib.hid (lives_any U (hs.keep hb0) (hp.keep hb0))
  have HAIR := Lib.hid hair
  have HTS := Lib.hid hts
  have HRS := Lib.hid hrs
  have HTI := Lib.hid hti
  have HRI := Lib.hid hri
  have HN := Lib.hid hn
  have HM := Lib.hid hm
  have HA := Lib.hid hA
  have HB0 := Lib.hid hb0
  have hwU : w.heap.size < U.heap.size := by omega
  rw [hn] at htb
  rw [hm] at hrb
  clear hs hp hair hts hrs hti hri hn hm hA hb0 hz0'
  obtain ⟨E, hE⟩ : ∃ E, checkE d ls js ss ts = E := ⟨_, rfl⟩
  have HE := Lib.hid hE
  clear hE
  by_cases hn64 : n ≤ 64
  rotate_left
  · have g1 : decide ((64 : Int) < (n : Int)) = true := by simp; omega
    have g1n : decide (64 < n) = true := by simp; omega
    clear hn64
    go_enter Tryd.func8, Tryd.ntmps8
    go_wp2_with fail
    try rw [hU]
    clear hU
    refine HLV.out.mono ?_
    rintro e w1 ⟨rfl, hB1⟩
    have HB1 := Lib.hid (HB0.out.trans (hB1.mono HB0.out.size))
    clear hB1 HLV
    go_wp2
    go_ret
    exact ⟨rfl, HB1.out⟩
  have g1 : decide ((64 : Int) < (n : Int)) = false := by simp; omega
  have g1n : decide (64 < n) = false := by simp; omega
  by_cases hm200 : m ≤ 200
  rotate_left
  · have g2 : decide ((200 : Int) < (m : Int)) = true := by simp; omega
    have g2n : decide (200 < m) = true := by simp; omega
    clear hm200
    go_enter Tryd.func8, Tryd.ntmps8
    go_wp2_with fail
    try rw [hU]
    clear hU
    refine HLV.out.mono ?_
    rintro e w1 ⟨rfl, hB1⟩
    have HB1 := Lib.hid (HB0.out.trans (hB1.mono HB0.out.size))
    clear hB1 HLV
    go_wp2
    go_ret
    exact ⟨rfl, HB1.out⟩
  have g2 : decide ((200 : Int) < (m : Int)) = false := by simp; omega
  have g2n : decide (200 < m) = false := by simp; omega
  go_enter Tryd.func8, Tryd.ntmps8
  go_wp2_with fail
  try rw [hU]
  clear hU
  refine HLV.out.mono ?_
  rintro e w1 ⟨rfl, hB1⟩
  have HB1 := Lib.hid (HB0.out.trans (hB1.mono HB0.out.size))
  have hA1 := (hB1.block _ hwU).trans HA.out
  have f0 := cell_of_row _ _ 0 _ _ _ hA1
  have f1 := cell_of_row _ _ 1 _ _ _ hA1
  have f2 := cell_of_row _ _ 2 _ _ _ hA1
  have f3 := cell_of_row _ _ 3 _ _ _ hA1
  simp at f0 f1 f2 f3
  have hck := rcheck_any d lv jv sv (.slice a1 n c1) ls js ss ts w1 (HAIR.out.l.below HB1.out) (HAIR.out.j.below HB1.out) (HAIR.out.s.below HB1.out) (HTS.out.below HB1.out)
  rw [HE.out] at hck
  have HCK := Lib.hid hck
  clear hB1 HLV hck hA1
  by_cases hE0 : E = 0
  rotate_left
  · have g3 : (E != 0) = true := by simpa using hE0
    clear hE0
    go_wp2_with fail
    refine HCK.out.mono ?_
    rintro e w2 ⟨rfl, hB2⟩
    have HB2 := Lib.hid (HB1.out.trans (hB2.mono HB1.out.size))
    clear hB2 HB1 HCK f0 f1 f2 f3
    go_wp2
    go_ret
    exact ⟨rfl, HB2.out⟩
  subst hE0
  go_wp2_with fail
  refine HCK.out.mono ?_
  rintro e w2 ⟨rfl, hB2⟩
  have HB2 := Lib.hid (HB1.out.trans (hB2.mono HB1.out.size))
  have own0 := World.ownsRow_made (base := w2.heap.size) (e := 53) (size := 6) w2 #[] 0 (Nat.le_refl _) (by unfold maxLen; omega) rfl
  have inv0 : RInv w2.heap.size (w2.alloc (.cells #[] 53)) (.slice (some ⟨w2.heap.size, 0, none⟩) 0 0) (rs.take 0) [] := ⟨by simp, by simpa [rcells] using own0, fun j h => absurd h (by simp)⟩
  have HINV0 := Lib.hid inv0
  have HR2 := Lib.hid (HRS.out.below HB2.out)
  clear hB2 HB1 HCK f0 f1 f2 f3 own0 inv0
  go_wp2_with fail
  go_loopw [7, 8, 9] (fun out i _ wr => ∃ (k : Nat) (vs : List Value), k ≤ m ∧ i = .int .i64 k ∧ Hid (RInv w2.heap.size wr out (rs.take k) vs) ∧ Below w2.heap.size w2 wr) (fun _ i _ _ => m - (intOf i).toNat)
  case atStart => exact ⟨0, [], by omega, by simp, HINV0, (Below.refl _ _).alloc (Nat.le_refl _) _⟩
  case round =>
    obtain ⟨k, vs, hk, rfl, hinv, hB⟩ := hrel
    by_cases hlt : k < m
    · have hkl : k < rs.length := by rw [HM.out]; exact hlt
      obtain ⟨b, off, rfl, hb, hx⟩ := (HR2.out.below hB).2.elim fun ao h => h.elim fun cap h => by
        have e := h.1
        rw [HM.out] at e
        cases e
        exact h.2 (by omega)
      obtain ⟨va, d0, d1, d2, d3, d4, d5, hby⟩ := hx k hkl
      have tse := List.take_succ_eq_append_getElem hkl
      obtain ⟨⟨I, X, Y, S, T, bs⟩, he⟩ : ∃ t, rs[k] = t := ⟨_, rfl⟩
      rw [he] at d0 d1 d2 d3 d4 hby tse
      simp only at d0 d1 d2 d3 d4 hby
      obtain ⟨ta, tc, rfl⟩ := hby.1.val
      obtain ⟨L, hL⟩ : ∃ L, bs.length = L := ⟨_, rfl⟩
      rw [hL] at d5 hby
      have hi0' : (0 : Int) ≤ (k : Int) := by omega
      have hi1' : (k : Int) < (m : Int) := by omega
      have TSE := Lib.hid tse
      have HBY := Lib.hid hby
      have HL := Lib.hid hL
      have HB := Lib.hid hB
      have hLr : L ≤ reachBytes := by rw [← hL]; exact hby.2.1
      unfold reachBytes at hLr
      clear hx he tse hby hL hB
      have hBx : Below wr.heap.size wr (wr.alloc (.cells #[.int .i64 I, .int .i64 X, .int .i64 Y, .int .i64 S, .int .i64 T, .slice ta L tc] 53)) := (Below.refl _ _).alloc (Nat.le_refl _) _
      have hBy := hBx.alloc hBx.size (.cells #[] 5)
      have hblk := (Below.heap_alloc (wr.alloc (.cells #[.int .i64 I, .int .i64 X, .int .i64 Y, .int .i64 S, .int .i64 T, .slice ta L tc] 53)) (.cells #[] 5) wr.heap.size (by simp)).trans (heap_alloc_new wr (.cells #[.int .i64 I, .int .i64 X, .int .i64 Y, .int .i64 S, .int .i64 T, .slice ta L tc] 53))
      have hsy := HBY.out.1.below hBy
      have HSY := Lib.hid hsy
      clear hsy
      go_wp2_with (at_builtin; refine wpList_append_empty rfl _ _ 25 rfl 5 i0 _ 1 1 Tryd.underlying25 hi0 hz0 hz1 hz2 rfl (by decide) _ (by rfl) _ _ (bcells bs) (by rfl) HSY.out (by rw [HL.out]; omega) ?_)
      intro v3 w3 hr3 hB3 ho3 hn3
      have hB3' := hBy.trans (hB3.mono (by omega))
      have hblk3 := (hB3.block wr.heap.size (by omega)).trans hblk
      have hs3 : wr.heap.size + 2 ≤ w3.heap.size := by have := hB3.size; simpa using this
      obtain ⟨a3, c3, rfl⟩ := hr3.val
      have ho3' : Own (wr.heap.size + 1) (.slice a3 bs.length c3) := fun q hq => by rcases ho3 with h | h <;> (rw [h] at hq; simp at hq; omega)
      have f0 : w3.cell? ⟨wr.heap.size, 0, none⟩ = some (.int .i64 I) := cell_of_row _ _ 0 _ _ _ hblk3
      have f1 : w3.cell? ⟨wr.heap.size, 1, none⟩ = some (.int .i64 X) := cell_of_row _ _ 1 _ _ _ hblk3
      have f2 : w3.cell? ⟨wr.heap.size, 2, none⟩ = some (.int .i64 Y) := cell_of_row _ _ 2 _ _ _ hblk3
      have f3 : w3.cell? ⟨wr.heap.size, 3, none⟩ = some (.int .i64 S) := cell_of_row _ _ 3 _ _ _ hblk3
      have f4 : w3.cell? ⟨wr.heap.size, 4, none⟩ = some (.int .i64 T) := cell_of_row _ _ 4 _ _ _ hblk3
      have f5 : w3.cell? ⟨wr.heap.size, 5, none⟩ = some (.slice ta L tc) := cell_of_row _ _ 5 _ _ _ hblk3
      have z5 := frozen_of_row _ _ 5 _ _ hblk3
      have hv4 := SRO.set ⟨hr3, ho3'⟩ (p := ⟨wr.heap.size, 5, none⟩) (by simp) (.slice a3 bs.length c3)
      have hB4 := hB3'.setCell (p := ⟨wr.heap.size, 5, none⟩) (by simp) (.slice a3 bs.length c3)
      have hv5 := hv4.alloc (.cells #[.int .i64 I, .int .i64 X, .int .i64 Y, .int .i64 S, .int .i64 T, .slice a3 bs.length c3] 53)
      have hB5 := hB4.alloc hB4.size (.cells #[.int .i64 I, .int .i64 X, .int .i64 Y, .int .i64 S, .int .i64 T, .slice a3 bs.length c3] 53)
      have hinv5 := hinv.out.below hB5
      have hnew : ∀ j u, [Value.int .i64 I, .int .i64 X, .int .i64 Y, .int .i64 S, .int .i64 T, .slice a3 bs.length c3][j]? = some u → ((w3.setCell ⟨wr.heap.size, 5, none⟩ (.slice a3 bs.length c3)).alloc (.cells #[.int .i64 I, .int .i64 X, .int .i64 Y, .int .i64 S, .int .i64 T, .slice a3 bs.length c3] 53)).cell? ((⟨w3.heap.size, 0, none⟩ : Addr).add j) = some u := fun j u hj => by
        have := cellNew (w3.setCell ⟨wr.heap.size, 5, none⟩ (.slice a3 bs.length c3)) #[.int .i64 I, .int .i64 X, .int .i64 Y, .int .i64 S, .int .i64 T, .slice a3 bs.length c3] 53 j u (by simpa using hj)
        rw [addr_add, Nat.zero_add]
        rw [show (w3.setCell ⟨wr.heap.size, 5, none⟩ (.slice a3 bs.length c3)).heap.size = w3.heap.size by simp [World.setCell]] at this
        exact this
      have htk : (rs.take k).length = k := by rw [List.length_take]; omega
      have hfin := HB.out.trans (hB5.mono HB.out.size)
      have hov : bs = [] ∨ ∃ b, (Value.slice a3 bs.length c3).ownBlock = some b ∧ w2.heap.size ≤ b ∧ b < ((w3.setCell ⟨wr.heap.size, 5, none⟩ (.slice a3 bs.length c3)).alloc (.cells #[.int .i64 I, .int .i64 X, .int .i64 Y, .int .i64 S, .int .i64 T, .slice a3 bs.length c3] 53)).heap.size ∧ u7.ownBlock ≠ some b := by
        have hv5' : BytesAt _ _ bs := ⟨hv5.1, HBY.out.2⟩
        rcases hv5'.nil_or with h | ⟨b', e1, e2⟩
        · exact .inl h
        · have q1 := ho3' b' e1
          refine .inr ⟨b', e1, by have := HB.out.size; omega, e2, fun e => ?_⟩
          have q2 := (hinv.out.own.lt b' e).2
          omega
      have hin := hinv5.own
      have hbase : w2.heap.size ≤ ((w3.setCell ⟨wr.heap.size, 5, none⟩ (.slice a3 bs.length c3)).alloc (.cells #[.int .i64 I, .int .i64 X, .int .i64 Y, .int .i64 S, .int .i64 T, .slice a3 bs.length c3] 53)).heap.size := Nat.le_trans HB.out.size hB5.size
      have HIN := Lib.hid hin
      have HI5 := Lib.hid hinv5
      have HOV := Lib.hid hov
      have HV5 := Lib.hid hv5
      have HFI := Lib.hid hfin
      have hsz5 : ((w3.setCell ⟨wr.heap.size, 5, none⟩ (.slice a3 bs.length c3)).alloc (.cells #[.int .i64 I, .int .i64 X, .int .i64 Y, .int .i64 S, .int .i64 T, .slice a3 bs.length c3] 53)).heap.size = w3.heap.size + 1 := by simp [World.setCell]
      clear hin hinv5 hov hv5 hfin hB3 ho3 hn3 hB4 hB5 hv4 hB3' hblk hblk3 hBx hBy HSY
      go_wp2_with (at_builtin; refine wpList_append_own_at _ rfl _ _ 50 rfl w2.heap.size 53 i6 _ 6 64 Tryd.underlying50 hi6 hy0 hy1 hy2 rfl (by decide) _ _ _ rfl HIN.out ⟨w3.heap.size, 0, none⟩ 1 1 [Value.int .i64 I, .int .i64 X, .int .i64 Y, .int .i64 S, .int .i64 T, .slice a3 bs.length c3] rfl rfl hnew ?c2 (by rw [htk]; unfold maxLen; omega) (by rw [htk]; omega) hbase ?_)
      case c2 => intro u hu; simp at hu; rcases hu with rfl | rfl | rfl | rfl | rfl | rfl <;> rfl
      intro v6 w6 hown6 hg6 hnn6 hob6
      have hpush := HI5.out.push (r := ⟨I, X, Y, S, T, bs⟩) ⟨⟨HV5.out.1, HBY.out.2⟩, HOV.out⟩ (by rw [htk]; exact hown6) hg6 (by rw [hsz5]; exact hob6)
      rw [← TSE.out] at hpush
      have hB6 := HFI.out.grown hg6 hbase (fun q hq => (HIN.out.lt q hq).1)
      have HP := Lib.hid hpush
      clear hpush hown6 hg6 hnn6 hob6
      go_wp2
      go_roundw
      case rel => exact ⟨k + 1, _, by omega, by go_num, HP.out, hB6⟩
      case measure => simp [intOf]; omega
    · have e : rs.take k = rs := List.take_of_length_le (by rw [HM.out]; omega)
      have ha := hinv.out
      rw [e] at ha
      have HB3 := Lib.hid (HB2.out.trans (hB.mono HB2.out.size))
      have HRI2 := Lib.hid ha.rcs
      have HCP := Lib.hid (tcopy_any (.slice a1 n c1) ts wr (HTS.out.below HB3.out) (by rw [HN.out]; omega))
      have hkm : ¬ k < m := hlt
      clear ha e hinv hB HB2
      go_wp2_with fail
      refine HCP.out.mono ?_
      rintro e w4 ⟨v4, vs4, rfl, hinv4, hB4⟩
      have HB4 := Lib.hid (HB3.out.trans (hB4.mono HB3.out.size))
      have HMK := Lib.hid (make_any _ _ v4 ts vs4 u7 rs w4 hinv4 (HRI2.out.below hB4) (by rw [HN.out]; exact hn64) (by rw [HM.out]; exact hm200) HRI.out HTI.out (small_bs HE.out) rfl)
      clear hinv4 hB4 HCP HB3
      go_wp2_with fail
      refine HMK.out.mono ?_
      rintro e w5 ⟨v5, p, rfl, hmem, hsrt, hcps, hB5⟩
      have HB5 := Lib.hid (HB4.out.trans (hB5.mono HB4.out.size))
      have HMEM := Lib.hid hmem
      have HSRT := Lib.hid hsrt
      have HCPS := Lib.hid hcps
      have HRM := Lib.hid (rmake_any (.slice a1 n c1) (.slice a2 m c2) ts rs w5 (HTS.out.below HB5.out) (HRS.out.below HB5.out) (by rw [HN.out]; exact hn64) (by rw [HM.out]; exact hm200) (small_bs HE.out) (ids_asc HE.out))
      clear hmem hsrt hcps hB5 HB4 HMK
      go_wp2_with fail
      refine HRM.out.mono ?_
      rintro e w6 ⟨v6, q, rfl, hmem, hsrt, hcps, hB6⟩
      have HB6 := Lib.hid (HB5.out.trans (hB6.mono HB5.out.size))
      have hpq := srt_unique (tlt_swo fun k => ts.getD k default) HSRT.out hsrt HMEM.out hmem
      have hpe : prm (fun x => recOf (rs.map fun r => (r.id, r.kd)) (ts.getD x default)) p ts.length = prm (fun x => recOf (rs.map fun r => (r.id, r.kd)) (ts.getD x default)) q ts.length := prm_congr (fun k hk => by rw [hpq k hk])
      have hc5 := HCPS.out.below hB6
      have HC5 := Lib.hid hc5
      have HPE := Lib.hid hpe
      have HSM := Lib.hid (same_any v5 v6 _ _ w6 hc5 hcps)
      have hv5 : ∃ a c, v5 = .slice a n c := by
        obtain ⟨_, ao, cap, rfl, _⟩ := hc5
        exact ⟨ao, cap, by rw [prm_len, HN.out]⟩
      obtain ⟨a5, c5, rfl⟩ := hv5
      clear hmem hsrt hcps hB6 hpq hpe hc5 HB5 HRM
      go_wp2_with fail
      refine HSM.out.mono ?_
      rintro e w7 ⟨D, rfl, hD, hB7⟩
      obtain rfl := hD.2 HPE.out
      have HB7 := Lib.hid (HB6.out.trans (hB7.mono HB6.out.size))
      have HOR := Lib.hid (ordered_any (.slice a5 n c5) _ w7 (HC5.out.below hB7))
      clear hD hB7 HSM HB6
      go_wp2_with fail
      refine HOR.out.mono ?_
      rintro e w8 ⟨D, rfl, hD, hB8⟩
      obtain rfl := hD.2 (prm_ord HSRT.out)
      have HB8 := Lib.hid (HB7.out.trans (hB8.mono HB7.out.size))
      clear hD hB8 HOR HB7
      go_wp2
      go_ret
      exact ⟨rfl, HB8.out⟩
end Go.Proofs.YtccknpdnapoboaaDoor
namespace Go.Proofs.YtccknpdnapoboaaDoor
open Go.ChangeShapes Go.WideShapes Go.ChangeAt Go.RowKit
namespace captureMakes

theorem reads (os : Os) {H : Type} (enc : TypeId × Value → H) : ∃ x, DataW.whole enc Tryd.prog ((laidw.laidWorld os).forCall (fun _ _ => 0) ⟨#[], #[.agg #[.int .i64 0, .slice none 0 0, .slice none 0 0, .slice none 0 0], .slice none 0 0, .slice none 0 0], []⟩).memory Tryd.f8.params.toList Rows.captureMakesSpec.vars false (#[.agg #[.int .i64 0, .slice none 0 0, .slice none 0 0, .slice none 0 0], .slice none 0 0, .slice none 0 0] : Array Value).toList 8 = some x :=
  Option.isSome_iff_exists.1 (by kernel_rfl)

set_option maxRecDepth 100000 in
theorem lifted (os : Os) (started : os.Started) (H : Type) (enc : TypeId × Value → H) (F : Stop.Interp) :
    ReturnsInHanded {} Tryd.checked os 8 .any ((OpenSpec.ofChange Rows.captureMakesSpec).preRow enc Tryd.prog Tryd.f8 Rows.captureMakesRow.domain false Rows.captureMakesRow.laid) (((OpenSpec.ofChange Rows.captureMakesSpec).at F).post enc Tryd.prog Tryd.f8 false true false false) := by
  obtain ⟨x, hx⟩ := reads os enc
  refine returnsInHanded_of_row (C := Tryd.checked) (s := (OpenSpec.ofChange Rows.captureMakesSpec)) Tryd.own started (by kernel_rfl) Tryd.func8
    (witness_row_atRef (enc := enc) (C := Tryd.checked) false (laidw.laidWorld os) #[.agg #[.int .i64 0, .slice none 0 0, .slice none 0 0, .slice none 0 0], .slice none 0 0, .slice none 0 0] rfl (by kernel_rfl) (by kernel_rfl) (by kernel_rfl)
      (OpenSpec.preRow_of_cond 8 hx rfl (fun k hk => by cases hk) (by kernel_rfl) (laidw.laid_met os _))) ?_
  intro W base args ds gs before hval0 hW _ hcond hsz hL hsh _
  show Calls Tryd.prog 8 args W fun e W' => ∃ v, e = .returned v ∧ Rows.captureMakesSpec.post enc Tryd.prog Tryd.f8 false true false false W args v W'
  have hT0 := sums_of (laidw.tab_0 hL)
  have hT2 := pow10_of (laidw.tab_2 hL)
  have hval : ∀ (j : Nat) t v, Tryd.f8.params[j]? = some t → args[j]? = some v → Value.okWide Tryd.prog W .any base t v := hval0
  have hW' := hW
  obtain ⟨p, q, hA0, hV, rfl, hfz, hnd⟩ := hW
  have hA : DataW.TrodAll enc Tryd.prog W 0 (fun _ => true) true Tryd.f8.params.toList args.toList ds p := hA0
  rw [Tryd.params8] at hA hval hsz
  obtain ⟨v0, vs0, d0, ds0, p0, q0, hargs, rfl, rfl, h0, r0⟩ := trodAll_cons hA
  obtain ⟨v1, vs1, d1, ds1, p1, q1, rfl, rfl, rfl, h1, r1⟩ := trodAll_cons r0
  obtain ⟨v2, vs2, d2, ds2, p2, q2, rfl, rfl, rfl, h2, r2⟩ := trodAll_cons r1
  obtain ⟨rfl, rfl, rfl⟩ := trodAll_nil r2
  obtain rfl : args = #[v0, v1, v2] := by cases args; simp_all
  obtain ⟨rfl, rfl⟩ := trodVars_none hV
  have a0 : Arg Tryd.prog W 48 v0 := Arg.of (hval 0 48 v0 rfl rfl) h0 (sized_each hsz (j := 0) rfl rfl)
  have lt0 : ∀ x ∈ p0, x.block < W.heap.size := by obtain ⟨m, hm⟩ := h0; exact DataW.trod_lt m _ _ _ hm
  have a1 : Arg Tryd.prog W 49 v1 := Arg.of (hval 1 49 v1 rfl rfl) h1 (sized_each hsz (j := 1) rfl rfl)
  have lt1 : ∀ x ∈ p1, x.block < W.heap.size := by obtain ⟨m, hm⟩ := h1; exact DataW.trod_lt m _ _ _ hm
  have a2 : Arg Tryd.prog W 50 v2 := Arg.of (hval 2 50 v2 rfl rfl) h2 (sized_each hsz (j := 2) rfl rfl)
  have lt2 : ∀ x ∈ p2, x.block < W.heap.size := by obtain ⟨m, hm⟩ := h2; exact DataW.trod_lt m _ _ _ hm
  clear hA0 hval0
  refine (captureMakes_walk v0 v1 v2 W a0 a1 a2 hT0 hT2).mono fun e W' ⟨he, bel⟩ => ?_
  subst he
  exact ⟨_, rfl, _, _, _, [], _, [], hW', trodAll_mk1 (shut_bool Tryd.underlying4 _), (trodAll_cons_mk (Below.trod Tryd.laid (by kernel_rfl) (of_decide_eq_true (by kernel_rfl)) h0 bel lt0) (trodAll_cons_mk (Below.trod Tryd.laid (by kernel_rfl) (of_decide_eq_true (by kernel_rfl)) h1 bel lt1) (trodAll_cons_mk (Below.trod Tryd.laid (by kernel_rfl) (of_decide_eq_true (by kernel_rfl)) h2 bel lt2) trodAll_mk0))), rfl, bel.frame _, fun h => by cases h⟩

theorem said : Rows.CaptureMakesSaid :=
  OpenClaim.holds_of_cond 8 Tryd.f8 rfl rfl rfl rfl rfl rfl rfl ⟨rfl, rfl, rfl, rfl, rfl⟩ rfl rfl rfl rfl rfl (by kernel_rfl) Tryd.func8 (by kernel_rfl)
    (of_decide_eq_true (by kernel_rfl)) (by unfold Func.isWrapper; first | (rw [if_pos (by decide +kernel)]; kernel_rfl) | (rw [if_neg (by decide +kernel)]; exact ⟨rfl, rfl⟩))
    (fun os started H enc _ F => by rw [OpenClaim.pre_eq_preRow]; exact lifted os started H enc F)

/-- no parameter wants a stand-in; the program's own looks are off -/
theorem plain (f : FuncId) (fn : Func) (hf : Tryd.pinned.checked.prog.funcNamed "wireless/wirelesslaw16.CaptureMakes" = some f) (hfn : Tryd.pinned.checked.prog.funcs[f]? = some fn) :
    true = Tryd.pinned.checked.prog.looks [] ∧ ∀ (j : Nat) t, fn.params[j]? = some t → Tryd.pinned.checked.prog.wantsStandIn t = false := by
  obtain rfl : f = 8 := Option.some.inj ((show Tryd.prog.funcNamed "wireless/wirelesslaw16.CaptureMakes" = some 8 by kernel_rfl).symm.trans hf) |>.symm
  obtain rfl : fn = Tryd.f8 := (Option.some.inj (Tryd.func8.symm.trans hfn)).symm
  refine ⟨by kernel_rfl, fun j t ht => ?_⟩
  rw [Tryd.params8] at ht
  have hm : t ∈ [48, 49, 50] := by simpa using Array.mem_of_getElem? ht
  have hall : ([48, 49, 50].all fun u => !Tryd.prog.wantsStandIn u) = true := by kernel_rfl
  exact (show Tryd.prog.wantsStandIn t = false by simpa using List.all_eq_true.1 hall t hm)
end captureMakes

/-- the statement -/
theorem captureMakes_proved : Rows.CaptureMakesCardSaid :=
  Claim7.holds_tied_plain_at .later [] _ _ _ _ captureMakes.said (fun _ h => by cases h) (by kernel_rfl) (fun _ h => by cases h) captureMakes_row_tie rfl ⟨rfl, rfl⟩ (by kernel_rfl) rfl captureMakes.plain (by kernel_rfl)
#print axioms captureMakes_proved
end Go.Proofs.YtccknpdnapoboaaDoor
