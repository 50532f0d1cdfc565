/- hop: the walk of HopStays. -/
import Derived.Test.YtoaiiceglfmfcaaHopLaws2
import Derived.Test.YtoaiiceglfmfcaaHopD
namespace Go.Proofs.Ytoaiiceglfmfcaa
open Go.RowKit

set_option maxHeartbeats 1000000 in
theorem hopStays_walk (v0 v1 v2 : Value) (w : World) (a0 : Arg Try.prog w 37 v0) (a1 : Arg Try.prog w 26 v1) (a2 : Arg Try.prog w 3 v2) :
    Calls Try.prog 7 #[v0, v1, v2] w fun e w' => e = .returned (.bool true) ∧ Below w.heap.size w w' := by
  obtain ⟨ac, ini, u0, u1, u2, u3, u4, mp, hp, pp, al, rfl, hac, hmp⟩ := arg_cp a0
  obtain ⟨ev0, rfl, he0⟩ := a1.u16 Try.underlying26
  obtain ⟨la0, rfl, _⟩ := a2.i64 Try.underlying3
  clear a0 a1 a2
  have Hn := Lib.hid (fun ev he la w => next_any ac ini u0 u1 u2 u3 u4 mp hp pp al ev la hmp he hac w)
  obtain ⟨P, hP⟩ : ∃ P, pop mp 37 = P := ⟨_, rfl⟩
  have HP := Lib.hid hP
  clear hP
  by_cases hP0 : P = 0
  · subst hP0
    unfold cp
    go_enter Try.func7, Try.ntmps7
    go_wp2_with (first
      | (go_at_call 14; refine (lives_any _).mono ?_; rintro e w1 ⟨rfl, hB1⟩; obtain ⟨hc1, hf1⟩ := bcell hB1)
      | (go_at_call 25; refine (rcount_any mp hmp _).mono ?_; rw [HP.out]; rintro e w2 ⟨rfl, hB2⟩))
    go_ret
    exact ⟨rfl, (((Below.refl _ _).alloc (Nat.le_refl _) _).trans (hB1.mono (by simp))).trans (hB2.mono (by have := hB1.size; simp at this; omega))⟩
  · have hP1 : 1 ≤ P := by omega
    have hPe : ((P : Int) == 0) = false := by rw [beq_eq_false_iff_ne]; omega
    unfold cp at Hn ⊢
    go_enter Try.func7, Try.ntmps7
    go_wp2_with (first
      | (go_at_call 14; refine (lives_any _).mono ?_; rintro e w1 ⟨rfl, hB1⟩; obtain ⟨hc1, hf1⟩ := bcell hB1)
      | (go_at_call 25; refine (rcount_any mp hmp _).mono ?_; rw [HP.out]; rintro e w2 ⟨rfl, hB2⟩))
    have hBW := hB1.trans (hB2.mono hB1.size)
    have hB0 := (Below.refl w.heap.size w).alloc (Nat.le_refl _) (.cells #[.int .u32 ac, .int .u32 ini, .int .i64 u0, .int .i64 u1, .int .i64 u2, .int .i64 u3, .int .i64 u4, .int .u64 mp, .int .i64 hp, .int .i64 pp, .int .i64 al] 37)
    clear hB1 hB2 hc1 hf1 hPe
    go_loopw [1, 2, 7, 8, 9, 10, 11] (fun e l se vi i _ _ wr => ∃ (k ev s V : Nat) (la : Int), k ≤ 37 ∧ s ≤ k ∧ ev < 65536 ∧ V < 137438953472 ∧ i = .int .i64 k ∧ e = .int .u16 ev ∧ l = .int .i64 la ∧ se = .int .i64 s ∧ vi = .int .u64 V ∧ Seen al hp la0 la k s V ∧
        Below (w.alloc (.cells #[.int .u32 ac, .int .u32 ini, .int .i64 u0, .int .i64 u1, .int .i64 u2, .int .i64 u3, .int .i64 u4, .int .u64 mp, .int .i64 hp, .int .i64 pp, .int .i64 al] 37)).heap.size (w.alloc (.cells #[.int .u32 ac, .int .u32 ini, .int .i64 u0, .int .i64 u1, .int .i64 u2, .int .i64 u3, .int .i64 u4, .int .u64 mp, .int .i64 hp, .int .i64 pp, .int .i64 al] 37)) wr)
      (fun _ _ _ _ i _ _ _ => 37 - (intOf i).toNat)
    case atStart => exact ⟨0, ev0, 0, 0, la0, by omega, by omega, he0, by omega, rfl, rfl, rfl, rfl, rfl, seen_zero _ _ _, hBW⟩
    case round =>
      obtain ⟨k, ev, s, V, la, hk, hs, he, hV, rfl, rfl, rfl, rfl, rfl, hS, hB⟩ := hrel
      clear hBW
      obtain ⟨hcw, hfw⟩ := bcell hB
      have hz : w.heap.size < wr.heap.size := by have := hB.size; simp at this; omega
      by_cases hlt : k < 37
      · have hub := unm_bd al ac hp ev la
        have hch := chan_has al mp ac hp ev la he hac (by rw [HP.out]; exact hP1)
        have hst := chan_stays al mp ac hp ev la
        have hn := fun w => Hn.out ev he la w
        obtain ⟨c, hc⟩ : ∃ c, chanI al mp ac hp ev la = c := ⟨_, rfl⟩
        obtain ⟨u, hu⟩ : ∃ u, unmI al ac hp ev la = u := ⟨_, rfl⟩
        rw [hu] at hub hst
        rw [hc] at hch hst
        rw [hc, hu] at hn
        obtain ⟨un, rfl⟩ := Int.eq_ofNat_of_zero_le hub.1
        have hul : un < 37 := by omega
        have hd1 : decide ((un : Int) < 0) = false := by simp
        have hd2 : decide ((36 : Int) < (un : Int)) = false := by simp; omega
        have HN := Lib.hid hn
        have HU := Lib.hid hu
        have HC := Lib.hid hch
        clear hn hc hu hch
        cases hb : hasI mp un
        · have HB := Lib.hid hb
          clear hst hb
          cases hv : V.testBit un
          · have hp2 := pow36 un hul
            have hvl := visit_lt V un hV hul hv
            have hvI := hasI_in V un hul
            rw [hv] at hvI
            have HV := Lib.hid hvI
            have hS' := seen_next hS ac ev un HU.out hv
            obtain ⟨pw, hpw⟩ : ∃ p, 2^un = p := ⟨_, rfl⟩
            have HPW := Lib.hid hpw
            rw [hpw] at hp2 hvl hS'
            clear hvI hpw hv hS
            go_wp2_with (first
              | (go_at_call 23; refine (HN.out _).mono ?_; rintro e w1 ⟨rfl, hB1⟩; obtain ⟨hc1, hf1⟩ := bcell hB1)
              | (go_at_call 26; refine (rhas_any _ (by omega) _ _).mono ?_; (first | rw [HC.out] | rw [HV.out] | rw [HB.out]); rintro e w' ⟨rfl, rfl⟩)
              | (go_at_call 27; refine (rof_one _ _ un hul _ (cellNew _ _ _ _ _ rfl)).mono ?_; rw [HPW.out]; rintro e w' ⟨rfl, rfl⟩))
            go_roundw
            case rel => exact ⟨k + 1, (ev + 1) % 65536, s + 1, V + pw, (un : Int), by omega, by omega, by omega, hvl, by go_num, congrArg _ (by rw [IntKind.wrap_u16]; omega), rfl, by go_num, by go_num, hS', (hB.trans (hB1.mono hB.size)).alloc (by have := hB.size; have := hB1.size; omega) _⟩
            case measure => simp [intOf]; omega
          · have hvI := hasI_in V un hul
            rw [hv] at hvI
            have HV := Lib.hid hvI
            have hS' := seen_again hS hlt ac ev un HU.out hv
            clear hvI hv hS
            go_wp2_with (first
              | (go_at_call 23; refine (HN.out _).mono ?_; rintro e w1 ⟨rfl, hB1⟩; obtain ⟨hc1, hf1⟩ := bcell hB1)
              | (go_at_call 26; refine (rhas_any _ (by omega) _ _).mono ?_; (first | rw [HC.out] | rw [HV.out] | rw [HB.out]); rintro e w' ⟨rfl, rfl⟩))
            go_roundw
            case rel => exact ⟨k + 1, (ev + 1) % 65536, s, V, (un : Int), by omega, by omega, by omega, hV, by go_num, congrArg _ (by rw [IntKind.wrap_u16]; omega), rfl, rfl, rfl, hS', hB.trans (hB1.mono hB.size)⟩
            case measure => simp [intOf]; omega
        · obtain rfl := hst hb
          clear hst hb
          cases hv : V.testBit un
          · have hp2 := pow36 un hul
            have hvl := visit_lt V un hV hul hv
            have hvI := hasI_in V un hul
            rw [hv] at hvI
            have HV := Lib.hid hvI
            have hS' := seen_next hS ac ev un HU.out hv
            obtain ⟨pw, hpw⟩ : ∃ p, 2^un = p := ⟨_, rfl⟩
            have HPW := Lib.hid hpw
            rw [hpw] at hp2 hvl hS'
            clear hvI hpw hv hS
            go_wp2_with (first
              | (go_at_call 23; refine (HN.out _).mono ?_; rintro e w1 ⟨rfl, hB1⟩; obtain ⟨hc1, hf1⟩ := bcell hB1)
              | (go_at_call 26; refine (rhas_any _ (by omega) _ _).mono ?_; (first | rw [HC.out] | rw [HV.out]); rintro e w' ⟨rfl, rfl⟩)
              | (go_at_call 27; refine (rof_one _ _ un hul _ (cellNew _ _ _ _ _ rfl)).mono ?_; rw [HPW.out]; rintro e w' ⟨rfl, rfl⟩))
            go_roundw
            case rel => exact ⟨k + 1, (ev + 1) % 65536, s + 1, V + pw, (un : Int), by omega, by omega, by omega, hvl, by go_num, congrArg _ (by rw [IntKind.wrap_u16]; omega), rfl, by go_num, by go_num, hS', (hB.trans (hB1.mono hB.size)).alloc (by have := hB.size; have := hB1.size; omega) _⟩
            case measure => simp [intOf]; omega
          · have hvI := hasI_in V un hul
            rw [hv] at hvI
            have HV := Lib.hid hvI
            have hS' := seen_again hS hlt ac ev un HU.out hv
            clear hvI hv hS
            go_wp2_with (first
              | (go_at_call 23; refine (HN.out _).mono ?_; rintro e w1 ⟨rfl, hB1⟩; obtain ⟨hc1, hf1⟩ := bcell hB1)
              | (go_at_call 26; refine (rhas_any _ (by omega) _ _).mono ?_; (first | rw [HC.out] | rw [HV.out]); rintro e w' ⟨rfl, rfl⟩))
            go_roundw
            case rel => exact ⟨k + 1, (ev + 1) % 65536, s, V, (un : Int), by omega, by omega, by omega, hV, by go_num, congrArg _ (by rw [IntKind.wrap_u16]; omega), rfl, rfl, rfl, hS', hB.trans (hB1.mono hB.size)⟩
            case measure => simp [intOf]; omega
      · obtain rfl : k = 37 := by omega
        have he := fun h2 h37 => seen_end hS h2 h37
        have hBW := hB0.trans (hB.mono (by simp))
        cases h2 : (al == 2)
        · cases h37 : (hp.tmod 37 == 0)
          · have hs37 : ((s : Int) == 37) = true := by rw [beq_iff_eq]; exact he h2 h37
            clear he hS
            go_wp2
            go_ret
            exact ⟨rfl, hBW⟩
          · clear he hS
            go_wp2
            go_ret
            exact ⟨rfl, hBW⟩
        · clear he hS
          go_wp2
          go_ret
          exact ⟨rfl, hBW⟩
end Go.Proofs.Ytoaiiceglfmfcaa
