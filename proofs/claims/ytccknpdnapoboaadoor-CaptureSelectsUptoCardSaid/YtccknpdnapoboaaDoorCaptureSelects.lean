/- CaptureSelects: the tied card of the second form (what is read is of bulk at most 1048576): for every input the law returns true, and each argument reads afterwards as before. The walk is 'captureSelects_walk'; this text lays the frame of the row and of the card. -/
import Derived.Test.YtccknpdnapoboaaDoorCqG
import Derived.Test.YtccknpdnapoboaaDoorCqW
import Derived.Test.YtccknpdnapoboaaDoorCpLaid
import Derived.Test.YtccknpdnapoboaaDoorFrame2
import Derived.Test.YtccknpdnapoboaaDoorCards
import Derived.Test.YtccknpdnapoboaaDoorTie
import Derived.WalkKit
import Derived.ProofKit
import Derived.OpenShut
import Derived.Deep.DeepHandedRow
namespace Go.Proofs.YtccknpdnapoboaaDoor
open Go.ChangeShapes Go.WideShapes Go.ChangeAt Go.RowKit
namespace captureSelects

theorem reads (os : Os) {H : Type} (enc : TypeId × Value → H) : ∃ ps, DataW.whole enc Tryd.prog ((laidw.laidWorld os).forCall (fun _ _ => 0) ⟨#[], #[.slice none 0 0, .slice none 0 0, .agg #[.int .i64 0, .int .i64 0, .int .i64 0, .int .i64 0, .int .i64 0]], []⟩).memory Tryd.f7.params.toList Rows.captureSelectsSpec.vars false (#[.slice none 0 0, .slice none 0 0, .agg #[.int .i64 0, .int .i64 0, .int .i64 0, .int .i64 0, .int .i64 0]] : Array Value).toList 8 = some ([.nil, .nil, .agg [.lit (.int .i64 0), .lit (.int .i64 0), .lit (.int .i64 0), .lit (.int .i64 0), .lit (.int .i64 0)]], [], ps) := by
  have hw : (DataW.whole enc Tryd.prog ((laidw.laidWorld os).forCall (fun _ _ => 0) ⟨#[], #[.slice none 0 0, .slice none 0 0, .agg #[.int .i64 0, .int .i64 0, .int .i64 0, .int .i64 0, .int .i64 0]], []⟩).memory Tryd.f7.params.toList Rows.captureSelectsSpec.vars false (#[.slice none 0 0, .slice none 0 0, .agg #[.int .i64 0, .int .i64 0, .int .i64 0, .int .i64 0, .int .i64 0]] : Array Value).toList 8).map (fun x => (x.1, x.2.1)) = some ([.nil, .nil, .agg [.lit (.int .i64 0), .lit (.int .i64 0), .lit (.int .i64 0), .lit (.int .i64 0), .lit (.int .i64 0)]], []) := by kernel_rfl
  obtain ⟨⟨x1, x2, x3⟩, hx, hx1⟩ := Option.map_eq_some_iff.1 hw
  simp only [Prod.mk.injEq] at hx1
  obtain ⟨rfl, rfl⟩ := hx1
  exact ⟨x3, hx⟩

set_option maxRecDepth 100000 in
theorem lifted (os : Os) (started : os.Started) (H : Type) (enc : TypeId × Value → H) (F : Stop.Interp) :
    ReturnsInHanded {} Tryd.checked os 7 .any ((Rows.OpenSpec.upto Rows.captureSelectsSpec).preRow enc Tryd.prog Tryd.f7 Rows.captureSelectsUptoRow.domain false Rows.captureSelectsUptoRow.laid) (((Rows.OpenSpec.upto Rows.captureSelectsSpec).at F).post enc Tryd.prog Tryd.f7 false true false false) := by
  obtain ⟨ps, hx⟩ := reads os enc
  refine returnsInHanded_of_row (C := Tryd.checked) (s := (Rows.OpenSpec.upto Rows.captureSelectsSpec)) Tryd.own started (by kernel_rfl) Tryd.func7
    (witness_row_atRef (enc := enc) (C := Tryd.checked) false (laidw.laidWorld os) #[.slice none 0 0, .slice none 0 0, .agg #[.int .i64 0, .int .i64 0, .int .i64 0, .int .i64 0, .int .i64 0]] rfl (by kernel_rfl) (by kernel_rfl) (by kernel_rfl)
      (OpenSpec.preRow_of_cond 8 hx (by kernel_rfl) (fun k hk => by cases hk; kernel_rfl) (by kernel_rfl) (laidw.laid_met os _))) ?_
  intro W base args ds gs before hval0 hW _ hcond hsz hL hsh _
  show Calls Tryd.prog 7 args W fun e W' => ∃ v, e = .returned v ∧ Rows.captureSelectsSpec.post enc Tryd.prog Tryd.f7 false true false false W args v W'
  have hT0 := sums_of (laidw.tab_0 hL)
  have hT2 := pow10_of (laidw.tab_2 hL)
  have hval : ∀ (j : Nat) t v, Tryd.f7.params[j]? = some t → args[j]? = some v → Value.okWide Tryd.prog W .any base t v := hval0
  have hW' := hW
  obtain ⟨p, q, hA0, hV, rfl, hfz, hnd⟩ := hW
  have hA : DataW.TrodAll enc Tryd.prog W 0 (fun _ => true) true Tryd.f7.params.toList args.toList ds p := hA0
  rw [Tryd.params7] at hA hval hsz
  obtain ⟨v0, vs0, d0, ds0, p0, q0, hargs, rfl, rfl, h0, r0⟩ := trodAll_cons hA
  obtain ⟨v1, vs1, d1, ds1, p1, q1, rfl, rfl, rfl, h1, r1⟩ := trodAll_cons r0
  obtain ⟨v2, vs2, d2, ds2, p2, q2, rfl, rfl, rfl, h2, r2⟩ := trodAll_cons r1
  obtain ⟨rfl, rfl, rfl⟩ := trodAll_nil r2
  obtain rfl : args = #[v0, v1, v2] := by cases args; simp_all
  obtain ⟨rfl, rfl⟩ := trodVars_none hV
  have hbulk := laidw.bulk_all (hcond _ rfl)
  have a0 : ArgM Tryd.prog W 22 v0 1048576 := ArgM.of (hval 0 22 v0 rfl rfl) h0 (sized_each hsz (j := 0) rfl rfl) (by
    have hp := laidw.bulk_part (d := d0) (l := [d0, d1, d2] ++ []) (by simp)
    omega)
  have lt0 : ∀ x ∈ p0, x.block < W.heap.size := by obtain ⟨m, hm⟩ := h0; exact DataW.trod_lt m _ _ _ hm
  have a1 : ArgM Tryd.prog W 22 v1 1048576 := ArgM.of (hval 1 22 v1 rfl rfl) h1 (sized_each hsz (j := 1) rfl rfl) (by
    have hp := laidw.bulk_part (d := d1) (l := [d0, d1, d2] ++ []) (by simp)
    omega)
  have lt1 : ∀ x ∈ p1, x.block < W.heap.size := by obtain ⟨m, hm⟩ := h1; exact DataW.trod_lt m _ _ _ hm
  have a2 : ArgM Tryd.prog W 39 v2 1048576 := ArgM.of (hval 2 39 v2 rfl rfl) h2 (sized_each hsz (j := 2) rfl rfl) (by
    have hp := laidw.bulk_part (d := d2) (l := [d0, d1, d2] ++ []) (by simp)
    omega)
  have lt2 : ∀ x ∈ p2, x.block < W.heap.size := by obtain ⟨m, hm⟩ := h2; exact DataW.trod_lt m _ _ _ hm
  clear hA0 hval0
  refine (captureSelects_walk v0 v1 v2 W a0 a1 a2 hT0 hT2).mono fun e W' ⟨he, bel⟩ => ?_
  subst he
  exact ⟨_, rfl, _, _, _, [], _, [], hW', trodAll_mk1 (shut_bool Tryd.underlying4 _), (trodAll_cons_mk (Below.trod Tryd.laid (by kernel_rfl) (of_decide_eq_true (by kernel_rfl)) h0 bel lt0) (trodAll_cons_mk (Below.trod Tryd.laid (by kernel_rfl) (of_decide_eq_true (by kernel_rfl)) h1 bel lt1) (trodAll_cons_mk (Below.trod Tryd.laid (by kernel_rfl) (of_decide_eq_true (by kernel_rfl)) h2 bel lt2) trodAll_mk0))), rfl, bel.frame _, fun h => by cases h⟩

theorem said : Rows.CaptureSelectsUptoSaid :=
  OpenClaim.holds_of_cond 7 Tryd.f7 rfl rfl rfl rfl rfl rfl rfl ⟨rfl, rfl, rfl, rfl, rfl⟩ rfl rfl rfl rfl rfl (by kernel_rfl) Tryd.func7 (by kernel_rfl)
    (of_decide_eq_true (by kernel_rfl)) (by unfold Func.isWrapper; first | (rw [if_pos (by decide +kernel)]; kernel_rfl) | (rw [if_neg (by decide +kernel)]; exact ⟨rfl, rfl⟩))
    (fun os started H enc _ F => by rw [OpenClaim.pre_eq_preRow]; exact lifted os started H enc F)

/-- no parameter wants a stand-in; the program's own looks are off -/
theorem plain (f : FuncId) (fn : Func) (hf : Tryd.pinned.checked.prog.funcNamed "wireless/wirelesslaw16.CaptureSelects" = some f) (hfn : Tryd.pinned.checked.prog.funcs[f]? = some fn) :
    true = Tryd.pinned.checked.prog.looks [] ∧ ∀ (j : Nat) t, fn.params[j]? = some t → Tryd.pinned.checked.prog.wantsStandIn t = false := by
  obtain rfl : f = 7 := Option.some.inj ((show Tryd.prog.funcNamed "wireless/wirelesslaw16.CaptureSelects" = some 7 by kernel_rfl).symm.trans hf) |>.symm
  obtain rfl : fn = Tryd.f7 := (Option.some.inj (Tryd.func7.symm.trans hfn)).symm
  refine ⟨by kernel_rfl, fun j t ht => ?_⟩
  rw [Tryd.params7] at ht
  have hm : t ∈ [22, 22, 39] := by simpa using Array.mem_of_getElem? ht
  have hall : ([22, 22, 39].all fun u => !Tryd.prog.wantsStandIn u) = true := by kernel_rfl
  exact (show Tryd.prog.wantsStandIn t = false by simpa using List.all_eq_true.1 hall t hm)
end captureSelects

/-- the statement -/
theorem captureSelects_proved : Rows.CaptureSelectsUptoCardSaid :=
  Claim7.holds_tied_plain_at .later [] _ _ _ _ captureSelects.said (fun _ h => by cases h) (by kernel_rfl) (fun _ h => by cases h) captureSelectsUpto_row_tie rfl ⟨rfl, rfl⟩ (by kernel_rfl) rfl captureSelects.plain (by kernel_rfl)
#print axioms captureSelects_proved
end Go.Proofs.YtccknpdnapoboaaDoor
