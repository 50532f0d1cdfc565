/- attpdu: the numbers of a PDU, and its bytes. -/
import Derived.Test.YthnffdlnhfhabaaAtJ
import Derived.Test.YthnffdlnhfhabaaAtG
import Derived.Test.YthnffdlnhfhabaaAtH
import Derived.Lib.OthersKept
import Derived.WalkSmall
namespace Go.Proofs.Ythnffdlnhfhabaa
open Go.RowKit

/-- the number in field i -/
def gI (ak : Int) (ha la : Nat) (of mt co : Int) (cm : Bool) (i : Nat) : Int := [ak, (ha : Int), (la : Int), of, mt, co, bitI cm].getD i 0
theorem get_k (ki ak : Int) (ha la hi lo : Nat) (of mt co : Int) (cm : Bool) (a1 a2 : Option Addr) (n c m d : Nat) (hha : ha < 65536) (hla : la < 65536) (i : Nat) (hi7 : i < 7) (w : World) : Calls Try.prog (fg i) #[.agg #[.int .i64 ki, .int .i64 ak, .int .u16 ha, .int .u16 la, .int .u64 hi, .int .u64 lo, .int .i64 of, .int .i64 mt, .int .i64 co, .bool cm, .slice a1 n c, .slice a2 m d]] w fun e w' => e = .returned (.int .i64 (gI ak ha la of mt co cm i)) ∧ Below w.heap.size w w' := by
  rcases (show i = 0 ∨ i = 1 ∨ i = 2 ∨ i = 3 ∨ i = 4 ∨ i = 5 ∨ i = 6 by omega) with rfl | rfl | rfl | rfl | rfl | rfl | rfl
  · exact getA ki ak ha la hi lo of mt co cm a1 a2 n c m d w
  · exact getH ki ak ha la hi lo of mt co cm a1 a2 n c m d hha w
  · exact getL ki ak ha la hi lo of mt co cm a1 a2 n c m d hla w
  · exact getO ki ak ha la hi lo of mt co cm a1 a2 n c m d w
  · exact getM ki ak ha la hi lo of mt co cm a1 a2 n c m d w
  · exact getC ki ak ha la hi lo of mt co cm a1 a2 n c m d w
  · exact getX ki ak ha la hi lo of mt co cm a1 a2 n c m d w
theorem ent_g (i : Nat) (hi7 : i < 7) (args : Array Value) (W : World) : (callFunc (fg i) args).run Try.prog W = .ok (.enter (fg i) args) W := by
  rcases (show i = 0 ∨ i = 1 ∨ i = 2 ∨ i = 3 ∨ i = 4 ∨ i = 5 ∨ i = 6 by omega) with rfl | rfl | rfl | rfl | rfl | rfl | rfl
  · exact enters_of Try.func67 (by kernel_rfl) rfl args W
  · exact enters_of Try.func71 (by kernel_rfl) rfl args W
  · exact enters_of Try.func75 (by kernel_rfl) rfl args W
  · exact enters_of Try.func79 (by kernel_rfl) rfl args W
  · exact enters_of Try.func83 (by kernel_rfl) rfl args W
  · exact enters_of Try.func87 (by kernel_rfl) rfl args W
  · exact enters_of Try.func90 (by kernel_rfl) rfl args W
theorem si_two (i : Nat) (h : i < 7) : si i = 1 ∨ si i = 2 := by
  rcases (show i = 0 ∨ i = 1 ∨ i = 2 ∨ i = 3 ∨ i = 4 ∨ i = 5 ∨ i = 6 by omega) with rfl | rfl | rfl | rfl | rfl | rfl | rfl
  all_goals decide
/-- the number of a letter -/
def ix (c : Nat) : Nat := leF.idxOf c
theorem le_ix (c : Nat) (h : c ∈ leF) : ix c < 10 ∧ le (ix c) = c := by
  unfold leF at h
  simp only [List.mem_cons, List.not_mem_nil, or_false] at h
  rcases h with rfl | rfl | rfl | rfl | rfl | rfl | rfl | rfl | rfl | rfl
  all_goals decide
theorem fldC_mem (k : Int) (u : List Nat) (h : fldC k = some u) : (∀ c ∈ u, c ∈ leF) ∧ u.length ≤ 3 := by
  rcases att_kinds k with rfl | rfl | rfl | rfl | rfl | rfl | rfl | rfl | rfl | rfl | rfl | rfl | rfl | rfl | rfl | rfl | rfl | rfl | rfl | rfl | rfl | rfl | rfl | hne
  case' inr.inr.inr.inr.inr.inr.inr.inr.inr.inr.inr.inr.inr.inr.inr.inr.inr.inr.inr.inr.inr.inr.inr => rw [fldC_none k hne] at h; cases h
  all_goals
    obtain rfl := Option.some.inj h
    decide
theorem strB_get (ss : List Nat) (hb : ∀ x ∈ ss, x < 256) (i : Nat) (h : i < ss.length) (hq : i < (strB ss).size) : ((strB ss)[i]'hq).toNat = ss[i] := by
  have e : (strB ss).data.toList[i]? = some (UInt8.ofNat ss[i]) := by
    unfold strB
    rw [strOfNums_data]
    simp [List.getElem?_eq_getElem h]
  have : (strB ss)[i]'hq = UInt8.ofNat ss[i] := by
    have h2 : i < (strB ss).data.toList.length := by simpa using hq
    rw [List.getElem?_eq_getElem h2] at e
    have e3 : (strB ss).data[i]'(by simpa using h2) = UInt8.ofNat ss[i] := by simpa using e
    exact e3
  rw [this]
  have := hb _ (List.getElem_mem h)
  simp
  omega
/-- the bytes of field i -/
def fiB (ki ak : Int) (ha la hi lo : Nat) (of mt co : Int) (cm : Bool) (bs : List Nat) (its : List It) (i : Nat) : List Nat :=
  if i < 7 then putB (gI ak ha la of mt co cm i).toNat (si i) else if i = 7 then encB hi lo else if i = 8 then bs else elB ki its
/-- the bytes of the fields of letters -/
def flB (ki ak : Int) (ha la hi lo : Nat) (of mt co : Int) (cm : Bool) (bs : List Nat) (its : List It) (u : List Nat) : List Nat := u.flatMap fun c => fiB ki ak ha la hi lo of mt co cm bs its (ix c)
/-- the bytes of a PDU -/
def encP (ki ak : Int) (ha la hi lo : Nat) (of mt co : Int) (cm : Bool) (bs : List Nat) (its : List It) : List Nat := byt ki.toNat 0 :: flB ki ak ha la hi lo of mt co cm bs its ((fldC ki).getD [])
/-- each number lies in its range, where there is no error -/
theorem errC_zero (u : List Nat) (e : Nat → Int) : ∀ f, f ≤ 10 → errC u e f = 0 → ∀ j, 10 - f ≤ j → j < 10 → u.contains (le j) = true → e j = 0
  | 0, _, _, j, h1, h2, _ => by omega
  | f+1, hf, h, j, h1, h2, hc => by
    rw [errC] at h
    by_cases hh : u.contains (le (9 - f)) = true ∧ e (9 - f) ≠ 0
    · rw [if_pos hh] at h
      exact absurd h hh.2
    · rw [if_neg hh] at h
      by_cases hj : j = 9 - f
      · subst hj
        apply Decidable.byContradiction
        intro hne
        exact hh ⟨hc, hne⟩
      · exact errC_zero u e f (by omega) h j (by omega) h2 hc
theorem unlessI_zero (b : Bool) (e : Int) (he : e ≠ 0) (h : unlessI b e = 0) : b = true := by
  cases b
  · exact absurd h he
  · rfl
theorem gI_ok (ki ak : Int) (ha la hi lo : Nat) (of mt co : Int) (cm : Bool) (n m : Nat) (its : List It) (u : List Nat) (hk : fldC ki = some u) (hha : ha < 65536) (hla : la < 65536) (h : chkP ki ak ha la hi lo of mt co cm n m its = 0) (i : Nat) (hi7 : i < 7) (hu : u.contains (le i) = true) :
    0 ≤ gI ak ha la of mt co cm i ∧ gI ak ha la of mt co cm i < 65536 ∧ (si i = 1 → gI ak ha la of mt co cm i < 256) := by
  unfold chkP at h
  rw [hk] at h
  simp only at h
  split at h
  · cases h
  · have he := errC_zero u _ 10 (Nat.le_refl _) h i (by omega) (by omega) hu
    rcases (show i = 0 ∨ i = 1 ∨ i = 2 ∨ i = 3 ∨ i = 4 ∨ i = 5 ∨ i = 6 by omega) with rfl | rfl | rfl | rfl | rfl | rfl | rfl
    · have := unlessI_zero _ _ (by decide) he
      simp only [Bool.and_eq_true, decide_eq_true_eq] at this
      exact ⟨this.1, show ak < 65536 by omega, fun _ => show ak < 256 by omega⟩
    · exact ⟨show (0 : Int) ≤ (ha : Int) by omega, show (ha : Int) < 65536 by omega, fun h => by cases h⟩
    · exact ⟨show (0 : Int) ≤ (la : Int) by omega, show (la : Int) < 65536 by omega, fun h => by cases h⟩
    · have := unlessI_zero _ _ (by decide) he
      simp only [Bool.and_eq_true, decide_eq_true_eq] at this
      exact ⟨this.1, show of < 65536 by omega, fun h => by cases h⟩
    · have := unlessI_zero _ _ (by decide) he
      simp only [Bool.and_eq_true, decide_eq_true_eq] at this
      exact ⟨show 0 ≤ mt by omega, show mt < 65536 by omega, fun h => by cases h⟩
    · have := unlessI_zero _ _ (by decide) he
      simp only [Bool.and_eq_true, decide_eq_true_eq] at this
      exact ⟨show 0 ≤ co by omega, show co < 65536 by omega, fun _ => show co < 256 by omega⟩
    · have h1 : gI ak ha la of mt co cm 6 = bitI cm := rfl
      rw [h1]
      unfold bitI
      cases cm <;> simp
/-- the list of a PDU without an error that has one is not empty -/
theorem its_ok (ki ak : Int) (ha la hi lo : Nat) (of mt co : Int) (cm : Bool) (n m : Nat) (its : List It) (u : List Nat) (hk : fldC ki = some u) (h : chkP ki ak ha la hi lo of mt co cm n m its = 0) (hu : u.contains 73 = true) : its ≠ [] := by
  unfold chkP at h
  rw [hk] at h
  simp only at h
  split at h
  · cases h
  · have he := errC_zero u _ 10 (Nat.le_refl _) h 9 (by omega) (by omega) hu
    have he : chkL ki its = 0 := he
    intro e
    rw [e] at he
    cases he
theorem val_ok (ki ak : Int) (ha la hi lo : Nat) (of mt co : Int) (cm : Bool) (n m : Nat) (its : List It) (u : List Nat) (hk : fldC ki = some u) (h : chkP ki ak ha la hi lo of mt co cm n m its = 0) (hu : u.contains 86 = true) : n ≤ 512 := by
  unfold chkP at h
  rw [hk] at h
  simp only at h
  split at h
  · cases h
  · have he := errC_zero u _ 10 (Nat.le_refl _) h 8 (by omega) (by omega) hu
    have := unlessI_zero _ _ (by decide) he
    simp only [decide_eq_true_eq] at this
    omega
end Go.Proofs.Ythnffdlnhfhabaa
