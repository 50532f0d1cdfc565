/- assess: the walk of AssessProposes. -/
import Derived.Test.YtoaiiceglfmfcaaAssQ
namespace Go.Proofs.Ytoaiiceglfmfcaa
open Go.RowKit

theorem assessProposes_walk (v0 v1 v2 : Value) (w : World) (a0 : Arg Try.prog w 45 v0) (a1 : Arg Try.prog w 31 v1) (a2 : Arg Try.prog w 3 v2) :
    Calls Try.prog 11 #[v0, v1, v2] w fun e w' => e = .returned (.bool true) ∧ Below w.heap.size w w' := by
  obtain ⟨l, hs⟩ := arg_tallies a0
  obtain ⟨m, rfl, hm⟩ := a1.u64 Try.underlying31
  obtain ⟨least, rfl, _⟩ := a2.i64 Try.underlying3
  clear a0 a1 a2
  have HS := Lib.hid hs
  obtain ⟨hml, _, _, ao, cap, rfl, _, _⟩ := hs
  obtain ⟨n, hn⟩ : ∃ n, l.length = n := ⟨_, rfl⟩
  unfold maxLen at hml
  rw [hn] at hml ⊢
  have HN := Lib.hid hn
  clear hn
  by_cases h100 : n ≤ 100
  · have hg : decide ((100 : Int) < (n : Int)) = false := by simp; omega
    have hl : l.length ≤ 1000 := by rw [HN.out]; omega
    go_enter Try.func11, Try.ntmps11
    go_wp2_with fail
    refine (lives14_any _).mono ?_
    rintro e w1 ⟨rfl, hB1⟩
    have s1 := HS.out.below hB1
    rw [HN.out] at s1
    have S1 := Lib.hid s1
    clear s1
    go_wp2_with fail
    refine (copied_any _ l hl _ (by rw [HN.out]; exact S1.out)).mono ?_
    rintro e w2 ⟨g2, c2, rfl, hown2, hB2⟩
    have s2 := SR.of_own hown2 (tcells_one _) (cap_of hown2)
    go_wp2_with fail
    refine (propose_any _ l hl m (by omega) least _ s2).mono ?_
    rintro e w3 ⟨rfl, hB3⟩
    have hB13 := hB2.trans (hB3.mono hB2.size)
    have s3' := S1.out.below hB13
    clear hown2 s2
    go_wp2_with fail
    refine (rpropose_any _ l m (by omega) least _ (by rw [HN.out]; exact s3')).mono ?_
    rintro e w4 ⟨rfl, hB4⟩
    clear s3'
    go_wp2
    go_ret
    have z1 := hB1.size
    have z2 := hB13.size
    exact ⟨rfl, (hB1.trans (hB13.mono z1)).trans (hB4.mono (by omega))⟩
  · have hg : decide ((100 : Int) < (n : Int)) = true := by simp; omega
    go_enter Try.func11, Try.ntmps11
    go_wp2_with (go_at_call 28; refine (lives14_any _).mono ?_; rintro e w1 ⟨rfl, hB1⟩)
    go_ret
    exact ⟨rfl, by assumption⟩
end Go.Proofs.Ytoaiiceglfmfcaa
