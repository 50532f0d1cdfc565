/- attpdu: the decoder as a function. -/
import Derived.Test.YthnffdlnhfhabaaAtO
namespace Go.Proofs.Ythnffdlnhfhabaa
open Go.RowKit

/-- the numbers of a PDU -/
structure Nm where
  ak : Int
  ha : Nat
  la : Nat
  of : Int
  mt : Int
  co : Int
  cm : Bool
def nm0 : Nm := ⟨0, 0, 0, 0, 0, 0, false⟩
/-- number i is set -/
def setN (s : Nm) (i x : Nat) : Nm :=
  if i = 0 then { s with ak := (x : Int) } else if i = 1 then { s with ha := x } else if i = 2 then { s with la := x } else if i = 3 then { s with of := (x : Int) } else if i = 4 then { s with mt := (x : Int) } else
  if i = 5 then { s with co := (x : Int) } else { s with cm := (x : Int) == 1 }
/-- the cells of a PDU with numbers alone -/
def pn (ki : Int) (s : Nm) : List Value := [.int .i64 ki, .int .i64 s.ak, .int .u16 s.ha, .int .u16 s.la, .int .u64 0, .int .u64 0, .int .i64 s.of, .int .i64 s.mt, .int .i64 s.co, .bool s.cm, .slice none 0 0, .slice none 0 0]
theorem pn_set (ki : Int) (s : Nm) (i x : Nat) (hi : i < 7) (hx : x < 65536) : (pn ki s).set (fo i) (fv i x) = pn ki (setN s i x) := by
  have hw : IntKind.u16.wrap (x : Int) = (x : Int) := IntWalk.u16_in _ (by omega)
  rcases (show i = 0 ∨ i = 1 ∨ i = 2 ∨ i = 3 ∨ i = 4 ∨ i = 5 ∨ i = 6 by omega) with rfl | rfl | rfl | rfl | rfl | rfl | rfl
  all_goals first | rfl | (simp [pn, fo, fv, setN, hw])
/-- the numbers that are read: the error, the numbers, the letter of what follows (0: none), the bytes that are left -/
def lps : List Nat → Nm → List Nat → Int × Nm × Nat × List Nat
  | [], s, b => (0, s, 0, b)
  | c :: u, s, b =>
    if ix c < 7 then
      if b.length < si (ix c) then (3, s, 0, b)
      else if ix c = 6 ∧ 1 < vnum (b.take (si (ix c))) ∧ b.length = 1 then (2, s, 0, b)
      else lps u (setN s (ix c) (vnum (b.take (si (ix c))))) (b.drop (si (ix c)))
    else (0, s, c, b)
/-- what follows the numbers -/
def remE (ki : Int) (c : Nat) (b : List Nat) : Int := if c = 84 then (decR b).2.2 else if c = 86 then 0 else if c = 73 then lsE ki b else unlessI (decide (b.length = 0)) 2
/-- a PDU as data -/
structure Pd where
  ki : Int
  s : Nm
  hi : Nat
  lo : Nat
  bs : List Nat
  its : List Dat
def pd0 : Pd := ⟨0, nm0, 0, 0, [], []⟩
/-- the element of data -/
def itOf (d : Dat) : It := ⟨d.ha, d.la, d.hi, d.lo, none, d.bs.length, 0, d.bs⟩
/-- its error -/
def chkD (p : Pd) : Int := chkP p.ki p.s.ak p.s.ha p.s.la p.hi p.lo p.s.of p.s.mt p.s.co p.s.cm p.bs.length p.its.length (p.its.map itOf)
/-- the PDU of what follows -/
def pdOf (ki : Int) (s : Nm) (c : Nat) (b : List Nat) : Pd :=
  ⟨ki, s, if c = 84 then (decR b).1 else 0, if c = 84 then (decR b).2.1 else 0, if c = 86 then b else [], if c = 73 then lsL ki b else []⟩
def st2 (ki : Int) (s : Nm) (c : Nat) (b : List Nat) : Int × Pd :=
  if remE ki c b ≠ 0 then (remE ki c b, pd0) else if chkD (pdOf ki s c b) ≠ 0 then (chkD (pdOf ki s c b), pd0) else (0, pdOf ki s c b)
def st1 (ki : Int) (q : Int × Nm × Nat × List Nat) : Int × Pd := if q.1 ≠ 0 then (q.1, pd0) else st2 ki q.2.1 q.2.2.1 q.2.2.2
/-- the PDU of bytes -/
def decP : List Nat → Int × Pd
  | [] => (3, pd0)
  | x :: r => match fldC x with
    | none => (12, pd0)
    | some u => if 517 < r.length + 1 then (4, pd0) else st1 x (lps u nm0 r)
theorem chkIt_of (k : Int) (last L : Nat) (t : It) (h : t.bs.length = t.n) : chkIt k last L t = chkIt k last L (itOf (dat t)) := by
  unfold chkIt itOf dat
  simp only [h]
theorem chkIts_of (k : Int) (L : Nat) : ∀ (its : List It) (last : Nat), (∀ t ∈ its, t.bs.length = t.n) → chkIts k last L its = chkIts k last L (its.map (fun t => itOf (dat t)))
  | [], _, _ => rfl
  | t :: l, last, h => by
    rw [List.map_cons, chkIts, chkIts, chkIt_of k last L t (h t (by simp)), chkIts_of k L l _ fun t ht => h t (by simp [ht])]
    rfl
theorem chkL_of (k : Int) (its : List It) (h : ∀ t ∈ its, t.bs.length = t.n) : chkL k its = chkL k (its.map (fun t => itOf (dat t))) := by
  cases its with
  | nil => rfl
  | cons t l =>
    have e := h t (by simp)
    have hs : sizeI k (itOf (dat t)).hi (itOf (dat t)).lo (itOf (dat t)).n = sizeI k t.hi t.lo t.n := by
      unfold itOf dat
      simp only [e]
    rw [List.map_cons, chkL, chkL, hs, chkIts_of k _ (t :: l) 0 h]
    simp
theorem chkP_of (ki ak : Int) (ha la hi lo : Nat) (of mt co : Int) (cm : Bool) (n m : Nat) (its : List It) (h : ∀ t ∈ its, t.bs.length = t.n) : chkP ki ak ha la hi lo of mt co cm n m its = chkP ki ak ha la hi lo of mt co cm n m (its.map (fun t => itOf (dat t))) := by
  have e : cI ki ak ha la of mt co n its = cI ki ak ha la of mt co n (its.map (fun t => itOf (dat t))) := by
    funext k
    unfold cI
    rw [chkL_of ki its h]
  unfold chkP
  rw [e]
theorem st2_of (ki : Int) (s : Nm) (c : Nat) (b : List Nat) (E : Int) (hi lo nv m : Nat) (bsv : List Nat) (its : List It) (hE : remE ki c b = E) (h : E = 0 → pdOf ki s c b = ⟨ki, s, hi, lo, bsv, its.map dat⟩) (hn : bsv.length = nv) (hm : its.length = m) (hl : ∀ t ∈ its, t.bs.length = t.n) :
    st2 ki s c b = if E ≠ 0 then (E, pd0) else if chkP ki s.ak s.ha s.la hi lo s.of s.mt s.co s.cm nv m its ≠ 0 then (chkP ki s.ak s.ha s.la hi lo s.of s.mt s.co s.cm nv m its, pd0) else (0, ⟨ki, s, hi, lo, bsv, its.map dat⟩) := by
  unfold st2
  rw [hE]
  by_cases h0 : E = 0
  · subst h0
    have hc : chkD ⟨ki, s, hi, lo, bsv, its.map dat⟩ = chkP ki s.ak s.ha s.la hi lo s.of s.mt s.co s.cm nv m its := by
      unfold chkD
      rw [chkP_of ki s.ak s.ha s.la hi lo s.of s.mt s.co s.cm nv m its hl]
      simp only [List.map_map, List.length_map, hn, hm]
      rfl
    rw [h rfl, hc]
  · rw [if_pos h0, if_pos h0]
theorem dtD_len (k : Int) (b : List Nat) : (dtD k b).bs.length ≤ b.length := by
  unfold dtD dat itD
  simp only
  split
  · exact Nat.zero_le _
  · split <;> (rw [List.length_drop]; omega)
theorem lsL_len (k : Int) (b : List Nat) : ∀ d ∈ lsL k b, d.bs.length ≤ b.length := by
  intro d hd
  cases b with
  | nil => cases hd
  | cons x r =>
    rw [lsL] at hd
    split at hd
    · cases hd
    · split at hd
      · cases hd
      · obtain ⟨j, _, rfl⟩ := List.mem_map.1 hd
        refine Nat.le_trans (dtD_len _ _) ?_
        unfold chn
        rw [List.length_take, List.length_drop, List.length_cons]
        omega
theorem itc_one (its : List It) : ∀ u ∈ its.flatMap itc, u.oneCell' = true := by
  intro u hu
  obtain ⟨t, _, hu⟩ := List.mem_flatMap.1 hu
  simp only [itc, List.mem_cons, List.not_mem_nil, or_false] at hu
  rcases hu with rfl | rfl | rfl | rfl | rfl <;> rfl
theorem items_of_own {W : World} {base m : Nat} {v : Value} {its : List It} (hm : its.length = m) (hmb : m ≤ 1000) (ho : W.ownsRow base 46 5 v m (its.flatMap itc)) (hio : ∀ t ∈ its, ItOwn W base t) (hn : ∀ t ∈ its, t.n ≤ 1000000) : Items W v m its :=
  ⟨hm, SR.of_own ho (itc_one its) (by unfold maxLen; omega), fun t ht => (hio t ht).ok (by have := hn t ht; omega)⟩
theorem or16_i64 (a b : Nat) (ha : a < 256) (hb : b < 256) : bits .or .i64 (a : Int) ((b : Int) * 256) = ((vnum [a, b] : Nat) : Int) := by
  have : a ||| b * 256 = b * 256 + a := by
    rw [Nat.or_comm, show b * 256 = b <<< 8 by rw [Nat.shiftLeft_eq]]
    exact (Nat.shiftLeft_add_eq_or_of_lt (by simpa using ha) _).symm
  have e : ((b : Int) * 256) = ((b * 256 : Nat) : Int) := by simp
  have hab : a ||| b * 256 < 65536 := by rw [this]; omega
  have ea : (BitVec.ofInt 64 (a : Int)).toNat = a := by rw [BitVec.ofInt_natCast, BitVec.toNat_ofNat]; omega
  have eb : (BitVec.ofInt 64 ((b * 256 : Nat) : Int)).toNat = b * 256 := by rw [BitVec.ofInt_natCast, BitVec.toNat_ofNat]; omega
  rw [e]
  have h1 : bits .or .i64 (a : Int) ((b * 256 : Nat) : Int) = IntKind.i64.wrap ((BitVec.ofInt 64 (a : Int) ||| BitVec.ofInt 64 ((b * 256 : Nat) : Int)).toNat : Int) := rfl
  rw [h1, BitVec.toNat_or, ea, eb, IntWalk.i64_in _ (by omega), this]
  simp [vnum]
/-- the kind of a list -/
theorem fldC_I (k : Int) (u : List Nat) (h : fldC k = some u) (hu : 73 ∈ u) : k = 5 ∨ k = 9 ∨ k = 17 := by
  rcases att_kinds k with rfl | rfl | rfl | rfl | rfl | rfl | rfl | rfl | rfl | rfl | rfl | rfl | rfl | rfl | rfl | rfl | rfl | rfl | rfl | rfl | rfl | rfl | rfl | hne
  case' inr.inr.inr.inr.inr.inr.inr.inr.inr.inr.inr.inr.inr.inr.inr.inr.inr.inr.inr.inr.inr.inr.inr => rw [fldC_none k hne] at h; cases h
  all_goals
    obtain rfl := Option.some.inj h
    revert hu
    decide
end Go.Proofs.Ythnffdlnhfhabaa
