/- attpdu: Check of the code. -/
import Derived.Test.YthnffdlnhfhabaaAtF
import Derived.Test.YthnffdlnhfhabaaAtD
import Derived.Lib.Strings
namespace Go.Proofs.Ythnffdlnhfhabaa
open Go.RowKit

/-- field k is zero -/
def zB (ak : Int) (ha la hi lo : Nat) (of mt co : Int) (cm : Bool) (n m : Nat) (k : Nat) : Bool :=
  [(ak == 0), ((ha : Int) == 0), ((la : Int) == 0), (of == 0), (mt == 0), (co == 0), (!cm), (decide (hi = 0) && decide (lo = 0)), ((n : Int) == 0), ((m : Int) == 0)].getD k true
/-- the error of field k -/
def cI (ki ak : Int) (ha la : Nat) (of mt co : Int) (n : Nat) (its : List It) (k : Nat) : Int :=
  [unlessI (decide (0 ≤ ak) && decide (ak ≤ 255)) 5, unlessI (!((ha : Int) == 0) || (ki == 1)) 5, unlessI (decide (ha ≤ la)) 13, unlessI (decide (0 ≤ of) && decide (of ≤ 65535)) 5, unlessI (decide (23 ≤ mt) && decide (mt ≤ 517)) 5,
    unlessI (decide (1 ≤ co) && decide (co ≤ 255)) 5, 0, 0, unlessI (decide ((n : Int) ≤ 512)) 4, chkL ki its].getD k 0
theorem zero_k (ki ak : Int) (ha la hi lo : Nat) (of mt co : Int) (cm : Bool) (a1 a2 : Option Addr) (n c m d : Nat) (k : Nat) (hk : k < 10) (w : World) : Calls Try.prog (fz k) #[.agg #[.int .i64 ki, .int .i64 ak, .int .u16 ha, .int .u16 la, .int .u64 hi, .int .u64 lo, .int .i64 of, .int .i64 mt, .int .i64 co, .bool cm, .slice a1 n c, .slice a2 m d]] w fun e w' => e = .returned (.bool (zB ak ha la hi lo of mt co cm n m k)) ∧ Below w.heap.size w w' := by
  rcases (show k = 0 ∨ k = 1 ∨ k = 2 ∨ k = 3 ∨ k = 4 ∨ k = 5 ∨ k = 6 ∨ k = 7 ∨ k = 8 ∨ k = 9 by omega) with rfl | rfl | rfl | rfl | rfl | rfl | rfl | rfl | rfl | rfl
  · exact zeroA ki ak ha la hi lo of mt co cm a1 a2 n c m d w
  · exact zeroH ki ak ha la hi lo of mt co cm a1 a2 n c m d w
  · exact zeroL ki ak ha la hi lo of mt co cm a1 a2 n c m d w
  · exact zeroO ki ak ha la hi lo of mt co cm a1 a2 n c m d w
  · exact zeroM ki ak ha la hi lo of mt co cm a1 a2 n c m d w
  · exact zeroC ki ak ha la hi lo of mt co cm a1 a2 n c m d w
  · exact zeroX ki ak ha la hi lo of mt co cm a1 a2 n c m d w
  · exact zeroT ki ak ha la hi lo of mt co cm a1 a2 n c m d w
  · exact zeroV ki ak ha la hi lo of mt co cm a1 a2 n c m d w
  · exact zeroI ki ak ha la hi lo of mt co cm a1 a2 n c m d w
theorem check_k (ki ak : Int) (ha la hi lo : Nat) (of mt co : Int) (cm : Bool) (a1 a2 : Option Addr) (n c m d : Nat) (its : List It) (w : World) (hits : Items w (.slice a2 m d) m its) (hm : m ≤ 1000) (hbn : ∀ t ∈ its, t.n ≤ 1099511627776) (k : Nat) (hk : k < 10) :
    Calls Try.prog (fk k) #[.agg #[.int .i64 ki, .int .i64 ak, .int .u16 ha, .int .u16 la, .int .u64 hi, .int .u64 lo, .int .i64 of, .int .i64 mt, .int .i64 co, .bool cm, .slice a1 n c, .slice a2 m d]] w fun e w' => e = .returned (.int .i64 (cI ki ak ha la of mt co n its k)) ∧ Below w.heap.size w w' := by
  rcases (show k = 0 ∨ k = 1 ∨ k = 2 ∨ k = 3 ∨ k = 4 ∨ k = 5 ∨ k = 6 ∨ k = 7 ∨ k = 8 ∨ k = 9 by omega) with rfl | rfl | rfl | rfl | rfl | rfl | rfl | rfl | rfl | rfl
  · exact checkA ki ak ha la hi lo of mt co cm a1 a2 n c m d w
  · exact checkH ki ak ha la hi lo of mt co cm a1 a2 n c m d w
  · exact checkL ki ak ha la hi lo of mt co cm a1 a2 n c m d w
  · exact checkO ki ak ha la hi lo of mt co cm a1 a2 n c m d w
  · exact checkM ki ak ha la hi lo of mt co cm a1 a2 n c m d w
  · exact checkC ki ak ha la hi lo of mt co cm a1 a2 n c m d w
  · exact fine_any ki ak ha la hi lo of mt co cm a1 a2 n c m d w
  · exact fine_any ki ak ha la hi lo of mt co cm a1 a2 n c m d w
  · exact checkV ki ak ha la hi lo of mt co cm a1 a2 n c m d w
  · exact list_any ki ak ha la hi lo of mt co cm a1 a2 n c m d its w hits hm hbn
theorem fldC_lt (k : Int) (u : List Nat) (h : fldC k = some u) : ∀ x ∈ u, x < 256 := by
  rcases att_kinds k with rfl | rfl | rfl | rfl | rfl | rfl | rfl | rfl | rfl | rfl | rfl | rfl | rfl | rfl | rfl | rfl | rfl | rfl | rfl | rfl | rfl | rfl | rfl | hne
  case' inr.inr.inr.inr.inr.inr.inr.inr.inr.inr.inr.inr.inr.inr.inr.inr.inr.inr.inr.inr.inr.inr.inr => rw [fldC_none k hne] at h; cases h
  all_goals
    obtain rfl := Option.some.inj h
    decide
theorem le_lt (k : Nat) (h : k < 10) : le k < 256 := by
  rcases (show k = 0 ∨ k = 1 ∨ k = 2 ∨ k = 3 ∨ k = 4 ∨ k = 5 ∨ k = 6 ∨ k = 7 ∨ k = 8 ∨ k = 9 by omega) with rfl | rfl | rfl | rfl | rfl | rfl | rfl | rfl | rfl | rfl
  all_goals decide
theorem contains_one (used : List Nat) (hb : ∀ x ∈ used, x < 256) (c : Nat) (hc : c < 256) (w : World) : Calls Try.prog 27 #[.string (strB used), .string (strB [c])] w fun e w' => e = .returned (.bool (used.contains c)) ∧ w = w' := by
  refine (Try.strings_Contains_one (strB used) (UInt8.ofNat c) w).mono ?_
  rintro e w' ⟨rfl, rfl⟩
  refine ⟨?_, rfl⟩
  have hd : (strB used).data.toList = used.map UInt8.ofNat := by
    unfold strB
    rw [strOfNums_data, List.map_map]
    rfl
  rw [hd]
  clear hd
  have : decide (0 ≤ Lib.indexByte (used.map UInt8.ofNat) (UInt8.ofNat c)) = used.contains c := by
    induction used with
    | nil => rfl
    | cons x l ih =>
      have hx := hb x (by simp)
      have ih := ih fun y hy => hb y (by simp [hy])
      rw [List.map_cons, List.contains_cons, ← ih]
      by_cases e : x = c
      · subst e
        simp [Lib.indexByte]
      · have hne : UInt8.ofNat x ≠ UInt8.ofNat c := fun h => e (by
          have := congrArg UInt8.toNat h
          simp at this
          omega)
        have hne2 : (c == x) = false := by simpa using Ne.symm e
        have hg := Lib.indexByte_ge (l.map UInt8.ofNat) (UInt8.ofNat c)
        have hne3 : (UInt8.ofNat x == UInt8.ofNat c) = false := beq_eq_false_iff_ne.2 hne
        simp only [Lib.indexByte, hne2, Bool.false_or, hne3, Bool.false_eq_true, if_false]
        by_cases h1 : Lib.indexByte (l.map UInt8.ofNat) (UInt8.ofNat c) = -1
        · simp [h1]
        · have h2 : (Lib.indexByte (l.map UInt8.ofNat) (UInt8.ofNat c) == -1) = false := beq_eq_false_iff_ne.2 h1
          simp only [h2, Bool.false_eq_true, if_false]
          rw [decide_eq_decide]
          omega
  rw [this]
theorem ent_z (k : Nat) (hk : k < 10) (args : Array Value) (W : World) : (callFunc (fz k) args).run Try.prog W = .ok (.enter (fz k) args) W := by
  rcases (show k = 0 ∨ k = 1 ∨ k = 2 ∨ k = 3 ∨ k = 4 ∨ k = 5 ∨ k = 6 ∨ k = 7 ∨ k = 8 ∨ k = 9 by omega) with rfl | rfl | rfl | rfl | rfl | rfl | rfl | rfl | rfl | rfl
  · exact enters_of Try.func64 (by kernel_rfl) rfl args W
  · exact enters_of Try.func69 (by kernel_rfl) rfl args W
  · exact enters_of Try.func73 (by kernel_rfl) rfl args W
  · exact enters_of Try.func77 (by kernel_rfl) rfl args W
  · exact enters_of Try.func81 (by kernel_rfl) rfl args W
  · exact enters_of Try.func85 (by kernel_rfl) rfl args W
  · exact enters_of Try.func89 (by kernel_rfl) rfl args W
  · exact enters_of Try.func43 (by kernel_rfl) rfl args W
  · exact enters_of Try.func45 (by kernel_rfl) rfl args W
  · exact enters_of Try.func48 (by kernel_rfl) rfl args W
theorem ent_k (k : Nat) (hk : k < 10) (args : Array Value) (W : World) : (callFunc (fk k) args).run Try.prog W = .ok (.enter (fk k) args) W := by
  rcases (show k = 0 ∨ k = 1 ∨ k = 2 ∨ k = 3 ∨ k = 4 ∨ k = 5 ∨ k = 6 ∨ k = 7 ∨ k = 8 ∨ k = 9 by omega) with rfl | rfl | rfl | rfl | rfl | rfl | rfl | rfl | rfl | rfl
  · exact enters_of Try.func65 (by kernel_rfl) rfl args W
  · exact enters_of Try.func70 (by kernel_rfl) rfl args W
  · exact enters_of Try.func74 (by kernel_rfl) rfl args W
  · exact enters_of Try.func78 (by kernel_rfl) rfl args W
  · exact enters_of Try.func82 (by kernel_rfl) rfl args W
  · exact enters_of Try.func86 (by kernel_rfl) rfl args W
  · exact enters_of Try.func44 (by kernel_rfl) rfl args W
  · exact enters_of Try.func44 (by kernel_rfl) rfl args W
  · exact enters_of Try.func46 (by kernel_rfl) rfl args W
  · exact enters_of Try.func49 (by kernel_rfl) rfl args W
/-- a field that is not used is not zero, among the last f -/
def anyC (u : List Nat) (z : Nat → Bool) : Nat → Bool
  | 0 => false
  | f+1 => (!u.contains (le (9 - f)) && !z (9 - f)) || anyC u z f
/-- the first error of a field that is used, among the last f -/
def errC (u : List Nat) (e : Nat → Int) : Nat → Int
  | 0 => 0
  | f+1 => if u.contains (le (9 - f)) = true ∧ e (9 - f) ≠ 0 then e (9 - f) else errC u e f
def chkP (ki ak : Int) (ha la hi lo : Nat) (of mt co : Int) (cm : Bool) (n m : Nat) (its : List It) : Int :=
  match fldC ki with
  | none => 12
  | some u => if anyC u (zB ak ha la hi lo of mt co cm n m) 10 then 1 else errC u (cI ki ak ha la of mt co n its) 10
set_option linter.unusedSimpArgs false in
set_option linter.unusedVariables false in
set_option maxRecDepth 100000 in
set_option maxHeartbeats 2000000 in
theorem check_any (ki ak : Int) (ha la hi lo : Nat) (of mt co : Int) (cm : Bool) (a1 a2 : Option Addr) (n c m d : Nat) (its : List It) (w : World) (hits : Items w (.slice a2 m d) m its) (hm : m ≤ 1000) (hbn : ∀ t ∈ its, t.n ≤ 1099511627776) :
    Calls Try.prog 12 #[.agg #[.int .i64 ki, .int .i64 ak, .int .u16 ha, .int .u16 la, .int .u64 hi, .int .u64 lo, .int .i64 of, .int .i64 mt, .int .i64 co, .bool cm, .slice a1 n c, .slice a2 m d]] w fun e w' => e = .returned (.int .i64 (chkP ki ak ha la hi lo of mt co cm n m its)) ∧ Below w.heap.size w w' := by
  have hB : Below w.heap.size w (w.alloc (.cells #[.int .i64 ki, .int .i64 ak, .int .u16 ha, .int .u16 la, .int .u64 hi, .int .u64 lo, .int .i64 of, .int .i64 mt, .int .i64 co, .bool cm, .slice a1 n c, .slice a2 m d] 29)) := (Below.refl _ _).alloc (Nat.le_refl _) _
  have T0 := cells_new w [.int .i64 ki, .int .i64 ak, .int .u16 ha, .int .u16 la, .int .u64 hi, .int .u64 lo, .int .i64 of, .int .i64 mt, .int .i64 co, .bool cm, .slice a1 n c, .slice a2 m d] 29
  have hf := fun W => fields_any ki W
  obtain ⟨RES, hRES⟩ : ∃ R, chkP ki ak ha la hi lo of mt co cm n m its = R := ⟨_, rfl⟩
  rw [hRES]
  unfold chkP at hRES
  cases hk : fldC ki with
  | none =>
    rw [hk] at hRES
    simp only at hRES
    subst hRES
    simp only [hk, Option.getD_none, Option.isSome_none] at hf
    clear T0 hk
    go_enter Try.func12, Try.ntmps12
    go_wp2_with (go_at_call 25; refine (hf _).mono ?_; rintro e w' ⟨rfl, rfl⟩)
    go_ret
    exact ⟨rfl, hB⟩
  | some u =>
    rw [hk] at hRES
    simp only at hRES
    simp only [hk, Option.getD_some, Option.isSome_some] at hf
    have hub : ∀ x ∈ u, x < 256 := fldC_lt ki u hk
    have hct := fun k (hk10 : k < 10) W => contains_one u hub (le k) (le_lt k hk10) W
    have hzk := fun k hk10 W => zero_k ki ak ha la hi lo of mt co cm a1 a2 n c m d k hk10 W
    have hck := fun W (hW : Below w.heap.size w W) k hk10 => check_k ki ak ha la hi lo of mt co cm a1 a2 n c m d its W (hits.below hW) hm hbn k hk10
    have HF := Lib.hid hf
    have HCT := Lib.hid hct
    have HZK := Lib.hid hzk
    have HCK := Lib.hid hck
    have HRES := Lib.hid hRES
    have hlw : w.heap.size < (w.alloc (.cells #[.int .i64 ki, .int .i64 ak, .int .u16 ha, .int .u16 la, .int .u64 hi, .int .u64 lo, .int .i64 of, .int .i64 mt, .int .i64 co, .bool cm, .slice a1 n c, .slice a2 m d] 29)).heap.size := by simp
    clear hf hct hzk hck hRES hk hub hits hbn
    go_enter Try.func12, Try.ntmps12
    go_upto_region 1 with fail
    generalize World.alloc _ _ = V at T0 hB hlw ⊢
    have hOpen := T0
    simp only [Cells, blk, List.cons_append, List.nil_append, and_true, Nat.reduceAdd, Nat.add_zero, Nat.zero_add] at hOpen
    obtain ⟨y0, y1, y2, y3, y4, y5, y6, y7, y8, y9, yA, yB⟩ := hOpen
    go_wp2_with fail
    refine (HF.out _).mono ?_
    rintro e w' ⟨rfl, rfl⟩
    go_wp2_with fail
    refine (all_any _).mono ?_
    rintro e w1 ⟨v, rfl, hown, hB1⟩
    have hsr := SR.of_own hown fd_one (by unfold maxLen; omega)
    obtain ⟨_, _, _, ao, cap, rfl, _, hc⟩ := hsr
    obtain ⟨g, o, rfl, hg, hcell⟩ := hc (by decide)
    have hBW := hB.trans (hB1.mono hB.size)
    have T1 := T0.keep hB1
    have hl1 : w.heap.size < w1.heap.size := Nat.lt_of_lt_of_le hlw hB1.size
    have HBW := Lib.hid hBW
    have HT1 := Lib.hid T1
    have HC := Lib.hid hcell
    clear y0 y1 y2 y3 y4 y5 y6 y7 y8 y9 yA yB hown hB1 hc hcell T0 T1 hBW
    go_wp2
    go_loopw [6, 20] (fun _ i wr => ∃ k : Nat, i = .int .i64 k ∧ k ≤ 10 ∧ Hid (anyC u (zB ak ha la hi lo of mt co cm n m) 10 = anyC u (zB ak ha la hi lo of mt co cm n m) (10 - k)) ∧ Below w1.heap.size w1 wr) (fun _ i _ => 10 - (intOf i).toNat)
    case atStart => exact ⟨0, by simp, by omega, Lib.hid rfl, Below.refl _ _⟩
    case round =>
      obtain ⟨k, rfl, hk, hA, hBr⟩ := hrel
      have w1' : IntKind.i64.wrap ((k : Int) + 1) = (k : Int) + 1 := IntWalk.i64_in _ (by omega)
      by_cases hlt : k < 10
      · have g1 : decide (k < 10) = true := by simpa using hlt
        have g1' : decide ((k : Int) < 10) = true := by simp; omega
        obtain ⟨s, x, gg, t, r0, r1, r2, r3, r4, r5, os, og, ot, _⟩ := fd_get k hlt
        have z0 := (hBr.cell (p := ⟨g, o + k * 6, none⟩) hg).trans (HC.out (k * 6) _ r0)
        have z1 := (hBr.cell (p := ⟨g, o + k * 6 + 1, none⟩) hg).trans (HC.out (k * 6 + 1) _ r1)
        have z2 := (hBr.cell (p := ⟨g, o + k * 6 + 2, none⟩) hg).trans (HC.out (k * 6 + 2) _ r2)
        have z3 := (hBr.cell (p := ⟨g, o + k * 6 + 3, none⟩) hg).trans (HC.out (k * 6 + 3) _ r3)
        have z4 := (hBr.cell (p := ⟨g, o + k * 6 + 4, none⟩) hg).trans (HC.out (k * 6 + 4) _ r4)
        have z5 := (hBr.cell (p := ⟨g, o + k * 6 + 5, none⟩) hg).trans (HC.out (k * 6 + 5) _ r5)
        clear r0 r1 r2 r3 r4 r5
        have ss : ∀ W a m, (store a s m).run Try.prog W = stored Try.prog W a s m := fun W a m => run_store _ W a _ m os
        have sg : ∀ W a m, (store a gg m).run Try.prog W = stored Try.prog W a gg m := fun W a m => run_store _ W a _ m og
        have st : ∀ W a m, (store a t m).run Try.prog W = stored Try.prog W a t m := fun W a m => run_store _ W a _ m ot
        have TY := HT1.out.keep hBr
        have hwr : w.heap.size < wr.heap.size := Nat.lt_of_lt_of_le hl1 hBr.size
        have hOpen := TY
        simp only [Cells, blk, List.cons_append, List.nil_append, and_true, Nat.reduceAdd, Nat.add_zero, Nat.zero_add] at hOpen
        obtain ⟨y0, y1, y2, y3, y4, y5, y6, y7, y8, y9, yA, yB⟩ := hOpen
        have hbad : anyC u (zB ak ha la hi lo of mt co cm n m) (10 - k) = ((!u.contains (le k) && !zB ak ha la hi lo of mt co cm n m k) || anyC u (zB ak ha la hi lo of mt co cm n m) (10 - (k + 1))) := by
          rw [show 10 - k = (10 - (k + 1)) + 1 by omega, anyC, show 9 - (10 - (k + 1)) = k by omega]
        have hct := HCT.out k hlt
        have hz := HZK.out k hlt
        obtain ⟨q1, hq1⟩ : ∃ q, u.contains (le k) = q := ⟨_, rfl⟩
        obtain ⟨q2, hq2⟩ : ∃ q, zB ak ha la hi lo of mt co cm n m k = q := ⟨_, rfl⟩
        rw [hq1, hq2] at hbad
        simp only [hq1] at hct
        simp only [hq2] at hz
        have HCT1 := Lib.hid hct
        have HZ1 := Lib.hid hz
        have HA := Lib.hid (hA.out.trans hbad)
        have hT := cells_new wr [.string (strB [le k]), s, .func (.func (fz k)) #[] #[], .func (.func (fk k)) #[] #[], gg, t] 55
        have hBn := hBr.alloc hBr.size (.cells #[.string (strB [le k]), s, .func (.func (fz k)) #[] #[], .func (.func (fk k)) #[] #[], gg, t] 55)
        have HBn := Lib.hid hBn
        clear hbad hct hz hq1 hq2 hA TY hT hBn hBr
        cases q1
        · cases q2
          · have hR : RES = 1 := by
              rw [← HRES.out, HA.out]
              rfl
            subst hR
            clear HA
            go_wp2_with fail
            refine (HCT1.out _).mono ?_
            rintro e w' ⟨rfl, rfl⟩
            have ez := ent_z k hlt
            go_wp2_with fail
            refine (HZ1.out _).mono ?_
            rintro e w4 ⟨rfl, hB4⟩
            go_wp2
            go_ret
            exact ⟨rfl, HBW.out.trans ((HBn.out.trans (hB4.mono HBn.out.size)).mono HBW.out.size)⟩
          · have HA2 : Hid (anyC u (zB ak ha la hi lo of mt co cm n m) 10 = anyC u (zB ak ha la hi lo of mt co cm n m) (10 - (k + 1))) := Lib.hid (by rw [HA.out]; rfl)
            clear HA
            go_wp2_with fail
            refine (HCT1.out _).mono ?_
            rintro e w' ⟨rfl, rfl⟩
            have ez := ent_z k hlt
            go_wp2_with fail
            refine (HZ1.out _).mono ?_
            rintro e w4 ⟨rfl, hB4⟩
            have hB5 := HBn.out.trans (hB4.mono HBn.out.size)
            clear hB4 HBn
            go_wp2
            refine ⟨⟨k + 1, by simp, hlt, HA2, hB5⟩, ?_⟩
            simp [intOf]
            omega
        · have HA2 : Hid (anyC u (zB ak ha la hi lo of mt co cm n m) 10 = anyC u (zB ak ha la hi lo of mt co cm n m) (10 - (k + 1))) := Lib.hid (by rw [HA.out]; rfl)
          clear HA
          go_wp2_with fail
          refine (HCT1.out _).mono ?_
          rintro e w' ⟨rfl, rfl⟩
          go_wp2
          refine ⟨⟨k + 1, by simp, hlt, HA2, HBn.out⟩, ?_⟩
          simp [intOf]
          omega
      · obtain rfl : k = 10 := by omega
        have g1 : decide (10 < 10) = false := by decide
        have g1' : decide (((10 : Nat) : Int) < 10) = false := by decide
        have hR : errC u (cI ki ak ha la of mt co n its) 10 = RES := by
          have h := HRES.out
          rw [hA.out] at h
          exact h
        have hBW2 := HBW.out.trans (hBr.mono HBW.out.size)
        have hl2 : w.heap.size < wr.heap.size := Nat.lt_of_lt_of_le hl1 hBr.size
        have T2 := HT1.out.keep hBr
        have HR := Lib.hid hR
        have HT2 := Lib.hid T2
        have HBW2 := Lib.hid hBW2
        clear hR hBW2 T2 HC HT1 HBW HRES hA hBr hg hl1 w1'
        rename World => V2
        go_wp2_with fail
        refine (all_any _).mono ?_
        rintro e w1 ⟨v, rfl, hown, hB1⟩
        have hsr := SR.of_own hown fd_one (by unfold maxLen; omega)
        obtain ⟨_, _, _, ao, cap, rfl, _, hc⟩ := hsr
        obtain ⟨g, o, rfl, hg, hcell⟩ := hc (by decide)
        have hBW := HBW2.out.trans (hB1.mono HBW2.out.size)
        have T1 := HT2.out.keep hB1
        have hl1 : w.heap.size < w1.heap.size := Nat.lt_of_lt_of_le hl2 hB1.size
        have HBW := Lib.hid hBW
        have HT1 := Lib.hid T1
        have HC := Lib.hid hcell
        clear hown hB1 hc hcell T1 hBW HT2 HBW2
        go_wp2
        go_loopw [8, 9, 39] (fun _ _ i wr => ∃ k : Nat, i = .int .i64 k ∧ k ≤ 10 ∧ Hid (RES = errC u (cI ki ak ha la of mt co n its) (10 - k)) ∧ Below w1.heap.size w1 wr) (fun _ _ i _ => 10 - (intOf i).toNat)
        case atStart => exact ⟨0, by simp, by omega, Lib.hid HR.out.symm, Below.refl _ _⟩
        case round =>
          obtain ⟨k, rfl, hk, hA, hBr⟩ := hrel
          have w1' : IntKind.i64.wrap ((k : Int) + 1) = (k : Int) + 1 := IntWalk.i64_in _ (by omega)
          by_cases hlt : k < 10
          · have g1 : decide (k < 10) = true := by simpa using hlt
            have g1' : decide ((k : Int) < 10) = true := by simp; omega
            obtain ⟨s, x, gg, t, r0, r1, r2, r3, r4, r5, os, og, ot, _⟩ := fd_get k hlt
            have z0 := (hBr.cell (p := ⟨g, o + k * 6, none⟩) hg).trans (HC.out (k * 6) _ r0)
            have z1 := (hBr.cell (p := ⟨g, o + k * 6 + 1, none⟩) hg).trans (HC.out (k * 6 + 1) _ r1)
            have z2 := (hBr.cell (p := ⟨g, o + k * 6 + 2, none⟩) hg).trans (HC.out (k * 6 + 2) _ r2)
            have z3 := (hBr.cell (p := ⟨g, o + k * 6 + 3, none⟩) hg).trans (HC.out (k * 6 + 3) _ r3)
            have z4 := (hBr.cell (p := ⟨g, o + k * 6 + 4, none⟩) hg).trans (HC.out (k * 6 + 4) _ r4)
            have z5 := (hBr.cell (p := ⟨g, o + k * 6 + 5, none⟩) hg).trans (HC.out (k * 6 + 5) _ r5)
            clear r0 r1 r2 r3 r4 r5
            have ss : ∀ W a m, (store a s m).run Try.prog W = stored Try.prog W a s m := fun W a m => run_store _ W a _ m os
            have sg : ∀ W a m, (store a gg m).run Try.prog W = stored Try.prog W a gg m := fun W a m => run_store _ W a _ m og
            have st : ∀ W a m, (store a t m).run Try.prog W = stored Try.prog W a t m := fun W a m => run_store _ W a _ m ot
            have TY := HT1.out.keep hBr
            have hwr : w.heap.size < wr.heap.size := Nat.lt_of_lt_of_le hl1 hBr.size
            have hOpen := TY
            simp only [Cells, blk, List.cons_append, List.nil_append, and_true, Nat.reduceAdd, Nat.add_zero, Nat.zero_add] at hOpen
            obtain ⟨y0, y1, y2, y3, y4, y5, y6, y7, y8, y9, yA, yB⟩ := hOpen
            have hbad : errC u (cI ki ak ha la of mt co n its) (10 - k) = if u.contains (le k) = true ∧ (cI ki ak ha la of mt co n its) k ≠ 0 then (cI ki ak ha la of mt co n its) k else errC u (cI ki ak ha la of mt co n its) (10 - (k + 1)) := by
              rw [show 10 - k = (10 - (k + 1)) + 1 by omega, errC, show 9 - (10 - (k + 1)) = k by omega]
            have hct := HCT.out k hlt
            have hBn := hBr.alloc hBr.size (.cells #[.string (strB [le k]), s, .func (.func (fz k)) #[] #[], .func (.func (fk k)) #[] #[], gg, t] 55)
            have hck := HCK.out _ (HBW.out.trans (hBn.mono HBW.out.size)) k hlt
            obtain ⟨q1, hq1⟩ : ∃ q, u.contains (le k) = q := ⟨_, rfl⟩
            obtain ⟨E, hE⟩ : ∃ q, (cI ki ak ha la of mt co n its) k = q := ⟨_, rfl⟩
            rw [hq1, hE] at hbad
            simp only [hq1] at hct
            rw [hE] at hck
            have HCT1 := Lib.hid hct
            have HCK1 := Lib.hid hck
            have HA := Lib.hid (hA.out.trans hbad)
            have HBn := Lib.hid hBn
            clear hbad hct hck hq1 hE hA TY hBn hBr
            cases q1
            · have HA2 : Hid (RES = errC u (cI ki ak ha la of mt co n its) (10 - (k + 1))) := Lib.hid (by have := HA.out; simpa using this)
              clear HA
              go_wp2_with fail
              refine (HCT1.out _).mono ?_
              rintro e w' ⟨rfl, rfl⟩
              go_wp2
              refine ⟨⟨k + 1, by simp, hlt, HA2, HBn.out⟩, ?_⟩
              simp [intOf]
              omega
            · by_cases hE0 : E = 0
              · have HA2 : Hid (RES = errC u (cI ki ak ha la of mt co n its) (10 - (k + 1))) := Lib.hid (by have := HA.out; rw [if_neg (fun h => h.2 hE0)] at this; exact this)
                subst hE0
                clear HA
                go_wp2_with fail
                refine (HCT1.out _).mono ?_
                rintro e w' ⟨rfl, rfl⟩
                have ez := ent_k k hlt
                go_wp2_with fail
                refine HCK1.out.mono ?_
                rintro e w4 ⟨rfl, hB4⟩
                have hB5 := HBn.out.trans (hB4.mono HBn.out.size)
                clear hB4 HBn HCK1
                go_wp2
                refine ⟨⟨k + 1, by simp, hlt, HA2, hB5⟩, ?_⟩
                simp [intOf]
                omega
              · have hR : RES = E := by have := HA.out; rw [if_pos ⟨rfl, hE0⟩] at this; exact this
                have t1 : (E != 0) = true := by simpa using hE0
                subst hR
                clear HA hE0
                go_wp2_with fail
                refine (HCT1.out _).mono ?_
                rintro e w' ⟨rfl, rfl⟩
                have ez := ent_k k hlt
                go_wp2_with fail
                refine HCK1.out.mono ?_
                rintro e w4 ⟨rfl, hB4⟩
                have hB5 := HBn.out.trans (hB4.mono HBn.out.size)
                clear hB4 HBn HCK1
                go_wp2
                go_ret
                exact ⟨rfl, HBW.out.trans (hB5.mono HBW.out.size)⟩
          · obtain rfl : k = 10 := by omega
            have g1 : decide (10 < 10) = false := by decide
            have g1' : decide (((10 : Nat) : Int) < 10) = false := by decide
            have hR : RES = 0 := hA.out
            subst hR
            go_wp2
            go_ret
            exact ⟨rfl, HBW.out.trans (hBr.mono HBW.out.size)⟩
end Go.Proofs.Ythnffdlnhfhabaa
