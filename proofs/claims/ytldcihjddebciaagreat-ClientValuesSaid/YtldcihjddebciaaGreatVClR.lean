/- client: Answer, Room. -/
import Derived.Test.YtldcihjddebciaaGreatVClA
set_option linter.unusedSimpArgs false
set_option linter.unusedVariables false
set_option maxRecDepth 100000
set_option maxHeartbeats 4000000
namespace Go.Proofs.YtldcihjddebciaaGreat
open Go.RowKit
theorem att_kinds (k : Int) : k = 1 ∨ k = 2 ∨ k = 3 ∨ k = 4 ∨ k = 5 ∨ k = 8 ∨ k = 9 ∨ k = 10 ∨ k = 11 ∨ k = 12 ∨ k = 13 ∨ k = 16 ∨ k = 17 ∨ k = 18 ∨ k = 19 ∨ k = 22 ∨ k = 23 ∨ k = 24 ∨ k = 25 ∨ k = 27 ∨ k = 29 ∨ k = 30 ∨ k = 82 ∨
 (k ≠ 1 ∧ k ≠ 2 ∧ k ≠ 3 ∧ k ≠ 4 ∧ k ≠ 5 ∧ k ≠ 8 ∧ k ≠ 9 ∧ k ≠ 10 ∧ k ≠ 11 ∧ k ≠ 12 ∧ k ≠ 13 ∧ k ≠ 16 ∧ k ≠ 17 ∧ k ≠ 18 ∧ k ≠ 19 ∧ k ≠ 22 ∧ k ≠ 23 ∧ k ≠ 24 ∧ k ≠ 25 ∧ k ≠ 27 ∧ k ≠ 29 ∧ k ≠ 30 ∧ k ≠ 82) := by omega
/-- the answer's kind -/
def ansI (k : Int) : Int := if k = 2 ∨ k = 4 ∨ k = 8 ∨ k = 10 ∨ k = 12 ∨ k = 16 ∨ k = 18 ∨ k = 22 ∨ k = 24 ∨ k = 29 then k + 1 else -1
def mtuI (m : Int) : Int := max 23 (min m 517)
/-- the room for a value or a list -/
def roomI (k m : Int) : Int := if k = 11 ∨ k = 13 then min 512 (mtuI m - 1) else if k = 18 ∨ k = 82 ∨ k = 27 ∨ k = 29 then min 512 (mtuI m - 3) else if k = 22 ∨ k = 23 then min 512 (mtuI m - 5) else if k = 5 ∨ k = 9 ∨ k = 17 then mtuI m - 2 else 0
theorem answer_any (k : Int) (hk : -9223372036854775808 ≤ k ∧ k ≤ 9223372036854775807) (w : World) : Calls Tryz.prog 36 #[.int .i64 k] w fun e w' => e = .returned (.int .i64 (ansI k)) ∧ w = w' := by
 obtain ⟨R,hR⟩ : ∃ R,ansI k = R := ⟨_,rfl⟩
 rw [hR]
 unfold ansI at hR
 rcases att_kinds k with rfl | rfl | rfl | rfl | rfl | rfl | rfl | rfl | rfl | rfl | rfl | rfl | rfl | rfl | rfl | rfl | rfl | rfl | rfl | rfl | rfl | rfl | rfl | hne
 case' inr.inr.inr.inr.inr.inr.inr.inr.inr.inr.inr.inr.inr.inr.inr.inr.inr.inr.inr.inr.inr.inr.inr =>
  obtain ⟨h1,h2,h3,h4,h5,h6,h7,h8,h9,h10,h11,h12,h13,h14,h15,h16,h17,h18,h19,h20,h21,h22,h23⟩ := hne
  have e1 := beq_eq_false_iff_ne.2 h1
  have e2 := beq_eq_false_iff_ne.2 h2
  have e3 := beq_eq_false_iff_ne.2 h3
  have e4 := beq_eq_false_iff_ne.2 h4
  have e5 := beq_eq_false_iff_ne.2 h5
  have e6 := beq_eq_false_iff_ne.2 h6
  have e7 := beq_eq_false_iff_ne.2 h7
  have e8 := beq_eq_false_iff_ne.2 h8
  have e9 := beq_eq_false_iff_ne.2 h9
  have e10 := beq_eq_false_iff_ne.2 h10
  have e11 := beq_eq_false_iff_ne.2 h11
  have e12 := beq_eq_false_iff_ne.2 h12
  have e13 := beq_eq_false_iff_ne.2 h13
  have e14 := beq_eq_false_iff_ne.2 h14
  have e15 := beq_eq_false_iff_ne.2 h15
  have e16 := beq_eq_false_iff_ne.2 h16
  have e17 := beq_eq_false_iff_ne.2 h17
  have e18 := beq_eq_false_iff_ne.2 h18
  have e19 := beq_eq_false_iff_ne.2 h19
  have e20 := beq_eq_false_iff_ne.2 h20
  have e21 := beq_eq_false_iff_ne.2 h21
  have e22 := beq_eq_false_iff_ne.2 h22
  have e23 := beq_eq_false_iff_ne.2 h23
  rw [if_neg (by omega)] at hR
  clear h1 h2 h3 h4 h5 h6 h7 h8 h9 h10 h11 h12 h13 h14 h15 h16 h17 h18 h19 h20 h21 h22 h23
 all_goals
  have HR := Lib.hid hR
  clear hR
  go_enter Tryz.func36,Tryz.ntmps36
  go_wp2
  go_ret
  exact ⟨ret_eq (by have := HR.out; (try simp at this); omega),rfl⟩
theorem ranswer_any (k : Int) (hk : -9223372036854775808 ≤ k ∧ k ≤ 9223372036854775807) (w : World) : Calls Tryz.prog 95 #[.int .i64 k] w fun e w' => e = .returned (.int .i64 (ansI k)) ∧ w = w' := by
 obtain ⟨R,hR⟩ : ∃ R,ansI k = R := ⟨_,rfl⟩
 rw [hR]
 unfold ansI at hR
 rcases att_kinds k with rfl | rfl | rfl | rfl | rfl | rfl | rfl | rfl | rfl | rfl | rfl | rfl | rfl | rfl | rfl | rfl | rfl | rfl | rfl | rfl | rfl | rfl | rfl | hne
 case' inr.inr.inr.inr.inr.inr.inr.inr.inr.inr.inr.inr.inr.inr.inr.inr.inr.inr.inr.inr.inr.inr.inr =>
  obtain ⟨h1,h2,h3,h4,h5,h6,h7,h8,h9,h10,h11,h12,h13,h14,h15,h16,h17,h18,h19,h20,h21,h22,h23⟩ := hne
  have e1 := beq_eq_false_iff_ne.2 h1
  have e2 := beq_eq_false_iff_ne.2 h2
  have e3 := beq_eq_false_iff_ne.2 h3
  have e4 := beq_eq_false_iff_ne.2 h4
  have e5 := beq_eq_false_iff_ne.2 h5
  have e6 := beq_eq_false_iff_ne.2 h6
  have e7 := beq_eq_false_iff_ne.2 h7
  have e8 := beq_eq_false_iff_ne.2 h8
  have e9 := beq_eq_false_iff_ne.2 h9
  have e10 := beq_eq_false_iff_ne.2 h10
  have e11 := beq_eq_false_iff_ne.2 h11
  have e12 := beq_eq_false_iff_ne.2 h12
  have e13 := beq_eq_false_iff_ne.2 h13
  have e14 := beq_eq_false_iff_ne.2 h14
  have e15 := beq_eq_false_iff_ne.2 h15
  have e16 := beq_eq_false_iff_ne.2 h16
  have e17 := beq_eq_false_iff_ne.2 h17
  have e18 := beq_eq_false_iff_ne.2 h18
  have e19 := beq_eq_false_iff_ne.2 h19
  have e20 := beq_eq_false_iff_ne.2 h20
  have e21 := beq_eq_false_iff_ne.2 h21
  have e22 := beq_eq_false_iff_ne.2 h22
  have e23 := beq_eq_false_iff_ne.2 h23
  rw [if_neg (by omega)] at hR
  clear h1 h2 h3 h4 h5 h6 h7 h8 h9 h10 h11 h12 h13 h14 h15 h16 h17 h18 h19 h20 h21 h22 h23
 all_goals
  have HR := Lib.hid hR
  clear hR
  go_enter Tryz.func95,Tryz.ntmps95
  go_wp2
  go_ret
  exact ⟨ret_eq (by have := HR.out; (try simp at this); omega),rfl⟩
theorem room_any (k m : Int) (w : World) : Calls Tryz.prog 104 #[.int .i64 k,.int .i64 m] w fun e w' => e = .returned (.int .i64 (roomI k m)) ∧ w = w' := by
 obtain ⟨R,hR⟩ : ∃ R,roomI k m = R := ⟨_,rfl⟩
 rw [hR]
 unfold roomI at hR
 obtain ⟨M,hM⟩ : ∃ M,mtuI m = M := ⟨_,rfl⟩
 rw [hM] at hR
 have hM0 : max 23 (min m 517) = M := by rw [← hM]; unfold mtuI; omega
 have hM1 : 23 ≤ M ∧ M ≤ 517 := by rw [← hM]; unfold mtuI; omega
 obtain ⟨m1,m2⟩ := hM1
 clear hM
 rcases att_kinds k with rfl | rfl | rfl | rfl | rfl | rfl | rfl | rfl | rfl | rfl | rfl | rfl | rfl | rfl | rfl | rfl | rfl | rfl | rfl | rfl | rfl | rfl | rfl | hne
 case' inr.inr.inr.inr.inr.inr.inr.inr.inr.inr.inr.inr.inr.inr.inr.inr.inr.inr.inr.inr.inr.inr.inr =>
  obtain ⟨h1,h2,h3,h4,h5,h6,h7,h8,h9,h10,h11,h12,h13,h14,h15,h16,h17,h18,h19,h20,h21,h22,h23⟩ := hne
  have e1 := beq_eq_false_iff_ne.2 h1
  have e2 := beq_eq_false_iff_ne.2 h2
  have e3 := beq_eq_false_iff_ne.2 h3
  have e4 := beq_eq_false_iff_ne.2 h4
  have e5 := beq_eq_false_iff_ne.2 h5
  have e6 := beq_eq_false_iff_ne.2 h6
  have e7 := beq_eq_false_iff_ne.2 h7
  have e8 := beq_eq_false_iff_ne.2 h8
  have e9 := beq_eq_false_iff_ne.2 h9
  have e10 := beq_eq_false_iff_ne.2 h10
  have e11 := beq_eq_false_iff_ne.2 h11
  have e12 := beq_eq_false_iff_ne.2 h12
  have e13 := beq_eq_false_iff_ne.2 h13
  have e14 := beq_eq_false_iff_ne.2 h14
  have e15 := beq_eq_false_iff_ne.2 h15
  have e16 := beq_eq_false_iff_ne.2 h16
  have e17 := beq_eq_false_iff_ne.2 h17
  have e18 := beq_eq_false_iff_ne.2 h18
  have e19 := beq_eq_false_iff_ne.2 h19
  have e20 := beq_eq_false_iff_ne.2 h20
  have e21 := beq_eq_false_iff_ne.2 h21
  have e22 := beq_eq_false_iff_ne.2 h22
  have e23 := beq_eq_false_iff_ne.2 h23
  rw [if_neg (by omega),if_neg (by omega),if_neg (by omega),if_neg (by omega)] at hR
  clear h1 h2 h3 h4 h5 h6 h7 h8 h9 h10 h11 h12 h13 h14 h15 h16 h17 h18 h19 h20 h21 h22 h23
 all_goals
  have HR := Lib.hid hR
  clear hR
  go_enter Tryz.func104,Tryz.ntmps104
  go_wp2
  all_goals
   go_ret
   exact ⟨ret_eq (by have := HR.out; (try simp at this); omega),rfl⟩
theorem rroom_any (k m : Int) (w : World) : Calls Tryz.prog 17 #[.int .i64 k,.int .i64 m] w fun e w' => e = .returned (.int .i64 (roomI k m)) ∧ w = w' := by
 obtain ⟨R,hR⟩ : ∃ R,roomI k m = R := ⟨_,rfl⟩
 rw [hR]
 unfold roomI at hR
 obtain ⟨M,hM⟩ : ∃ M,mtuI m = M := ⟨_,rfl⟩
 rw [hM] at hR
 have hM0 : min (max m 23) 517 = M := by rw [← hM]; unfold mtuI; omega
 have hM1 : 23 ≤ M ∧ M ≤ 517 := by rw [← hM]; unfold mtuI; omega
 obtain ⟨m1,m2⟩ := hM1
 clear hM
 rcases att_kinds k with rfl | rfl | rfl | rfl | rfl | rfl | rfl | rfl | rfl | rfl | rfl | rfl | rfl | rfl | rfl | rfl | rfl | rfl | rfl | rfl | rfl | rfl | rfl | hne
 case' inr.inr.inr.inr.inr.inr.inr.inr.inr.inr.inr.inr.inr.inr.inr.inr.inr.inr.inr.inr.inr.inr.inr =>
  obtain ⟨h1,h2,h3,h4,h5,h6,h7,h8,h9,h10,h11,h12,h13,h14,h15,h16,h17,h18,h19,h20,h21,h22,h23⟩ := hne
  have e1 := beq_eq_false_iff_ne.2 h1
  have e2 := beq_eq_false_iff_ne.2 h2
  have e3 := beq_eq_false_iff_ne.2 h3
  have e4 := beq_eq_false_iff_ne.2 h4
  have e5 := beq_eq_false_iff_ne.2 h5
  have e6 := beq_eq_false_iff_ne.2 h6
  have e7 := beq_eq_false_iff_ne.2 h7
  have e8 := beq_eq_false_iff_ne.2 h8
  have e9 := beq_eq_false_iff_ne.2 h9
  have e10 := beq_eq_false_iff_ne.2 h10
  have e11 := beq_eq_false_iff_ne.2 h11
  have e12 := beq_eq_false_iff_ne.2 h12
  have e13 := beq_eq_false_iff_ne.2 h13
  have e14 := beq_eq_false_iff_ne.2 h14
  have e15 := beq_eq_false_iff_ne.2 h15
  have e16 := beq_eq_false_iff_ne.2 h16
  have e17 := beq_eq_false_iff_ne.2 h17
  have e18 := beq_eq_false_iff_ne.2 h18
  have e19 := beq_eq_false_iff_ne.2 h19
  have e20 := beq_eq_false_iff_ne.2 h20
  have e21 := beq_eq_false_iff_ne.2 h21
  have e22 := beq_eq_false_iff_ne.2 h22
  have e23 := beq_eq_false_iff_ne.2 h23
  rw [if_neg (by omega),if_neg (by omega),if_neg (by omega),if_neg (by omega)] at hR
  clear h1 h2 h3 h4 h5 h6 h7 h8 h9 h10 h11 h12 h13 h14 h15 h16 h17 h18 h19 h20 h21 h22 h23
 all_goals
  have HR := Lib.hid hR
  clear hR
  go_enter Tryz.func17,Tryz.ntmps17
  go_wp2
  all_goals
   go_ret
   exact ⟨ret_eq (by have := HR.out; (try simp at this); omega),rfl⟩
end Go.Proofs.YtldcihjddebciaaGreat
