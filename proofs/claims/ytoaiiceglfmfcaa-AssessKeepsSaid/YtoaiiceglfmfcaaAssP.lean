/- Walks of assess: the reference's Of and worst. -/
import Derived.Test.YtoaiiceglfmfcaaAssLaws
namespace Go.Proofs.Ytoaiiceglfmfcaa
open Go.RowKit

theorem tof_any (v : Value) (l : List (Int × Int)) (c : Nat) (hc : c < 9223372036854775808) (w : World) (h : SR w v l.length 2 (tcells l)) :
    Calls Try.prog 43 #[v, .int .i64 c] w fun e w' => e = .returned (.agg #[.int .i64 (tal l c).1, .int .i64 (tal l c).2]) ∧ Below w.heap.size w w' := by
  obtain ⟨n, hn⟩ : ∃ n, l.length = n := ⟨_, rfl⟩
  obtain ⟨hm, _, _, ao, cap, rfl, _, hcell⟩ := h
  unfold maxLen at hm
  rw [hn] at hm hcell ⊢
  have HN := Lib.hid hn
  by_cases hcn : c < n
  · have hcl : c < l.length := by rw [hn]; exact hcn
    obtain ⟨b, off, rfl, hb, hx⟩ := hcell (by omega)
    obtain ⟨p1, p2⟩ := tcells_get l c hcl
    have d1 : w.cell? ⟨b, off + c * 2, none⟩ = _ := hx _ _ p1
    have d2 : w.cell? ⟨b, off + c * 2 + 1, none⟩ = _ := hx _ _ p2
    rw [tal_in l c hcl]
    obtain ⟨⟨x, y⟩, he⟩ : ∃ t, l[c] = t := ⟨_, rfl⟩
    rw [he] at d1 d2 ⊢
    simp only at d1 d2
    have hg1 : decide ((n : Int) ≤ (c : Int)) = false := by simp; omega
    have hi0 : (0 : Int) ≤ (c : Int) := by omega
    have hi1 : (c : Int) < (n : Int) := by omega
    clear p1 p2 he hx hcell hn hcl
    go_enter Try.func43, Try.ntmps43
    go_wp2
    refine bodyPost_ret (v := .agg #[.int .i64 x, .int .i64 y]) (by simp [results, Try.results43, go_sem]) rfl ?_
    exact ⟨rfl, (Below.refl _ _).alloc (Nat.le_refl _) _⟩
  · have hg1 : decide ((n : Int) ≤ (c : Int)) = true := by simp; omega
    rw [tal_out l c (by rw [hn]; omega)]
    clear hcell hn
    go_enter Try.func43, Try.ntmps43
    go_wp2
    refine bodyPost_ret (v := .agg #[.int .i64 0, .int .i64 0]) (by simp [results, Try.results43, go_sem]) rfl ?_
    exact ⟨rfl, (Below.refl _ _).alloc (Nat.le_refl _) _⟩

/-- the index at which the worst one lies -/
def atI (L : List (Fin 37)) (fo : Option Nat) (z : Int) : Prop :=
  match fo with
  | none => z = -1
  | some f => ∃ a : Nat, ∃ h : a < L.length, z = a ∧ L[a].val = f

set_option maxHeartbeats 2000000 in
theorem worst_any (v : Value) (l : List (Int × Int)) (g N cc : Nat) (L : List (Fin 37)) (hN : L.length = N) (hNm : N ≤ 1000) (w : World) (h : SR w v l.length 2 (tcells l)) (hg : g < w.heap.size)
    (hc : ∀ j (h : j < L.length), w.cell? ⟨g, j, none⟩ = some (.int .i64 (L[j].val : Int))) :
    Calls Try.prog 59 #[v, .slice (some ⟨g, 0, none⟩) N cc] w fun e w' => ∃ z, e = .returned (.int .i64 z) ∧ atI L (candL l (nats L)) z ∧ Below w.heap.size w w' := by
  have HSR := Lib.hid h
  have HLN := Lib.hid hN
  have HC := Lib.hid hc
  clear h hN hc
  go_enter Try.func59, Try.ntmps59
  go_wp2
  go_loopw [5, 6] (fun at_ i wr => ∃ (k : Nat) (f : Option Nat) (z : Int), k ≤ N ∧ i = .int .i64 k ∧ at_ = .int .i64 z ∧ Hid (f = candL l (nats (L.take k)) ∧ atI L f z) ∧ Below w.heap.size w wr) (fun _ i _ => N - (intOf i).toNat)
  case atStart => exact ⟨0, none, -1, by omega, rfl, rfl, ⟨rfl, rfl⟩, Below.refl _ _⟩
  case round =>
    obtain ⟨k, f, z, hk, rfl, rfl, hf, hB⟩ := hrel
    by_cases hlt : k < N
    · have hkL : k < L.length := by rw [HLN.out]; exact hlt
      have hgl : g < wr.heap.size := Nat.lt_of_lt_of_le hg hB.size
      have hc0 : wr.cell? ⟨g, k, none⟩ = some (.int .i64 (L[k].val : Int)) := by
        rw [hB.cell (p := ⟨g, k, none⟩) hg, HC.out k hkL]
      have htk := nats_take L k hkL
      have hat : ∀ c, L[k].val = c → atI L (some c) k := fun c h => ⟨k, hkL, rfl, h⟩
      obtain ⟨c, hc⟩ : ∃ c, L[k].val = c := ⟨_, rfl⟩
      have hc37 : c < 37 := by rw [← hc]; exact Fin.isLt _
      have HAT := Lib.hid (hat c hc)
      rw [hc] at hc0 htk
      have hstep : candL l (nats (L.take (k + 1))) = candStep l f c := by rw [htk, candL_snoc, hf.out.1]
      have HS := Lib.hid hstep
      clear hstep htk hc hat
      have cof := fun (w1 : World) (hb : Below w.heap.size w w1) => tof_any v l c (by omega) w1 (HSR.out.below hb)
      have hbad : badL l c = badI (tal l c).1 (tal l c).2 := rfl
      have hrate : rateL l c = rateI (tal l c).1 (tal l c).2 := rfl
      obtain ⟨⟨x, y⟩, ht⟩ : ∃ t, tal l c = t := ⟨_, rfl⟩
      rw [ht] at cof hbad hrate
      simp only at cof hbad hrate
      have cb := bad_any x y
      have crb := rbad_any x y
      have cr := rrate_any x y
      obtain ⟨B, hBd⟩ : ∃ B, badI x y = B := ⟨_, rfl⟩
      obtain ⟨R, hR⟩ : ∃ R, rateI x y = R := ⟨_, rfl⟩
      rw [hBd] at crb hbad
      rw [hR] at cr hrate
      have CB := Lib.hid crb
      have CR := Lib.hid cr
      have COF := Lib.hid cof
      clear cb crb cr hBd hR ht cof
      cases B
      · have hno : candStep l f c = f := by unfold candStep; rw [hbad]; simp
        have HNO := Lib.hid hno
        clear hno hbad hrate
        go_wp2_with fail
        refine (COF.out _ hB).mono ?_
        rintro e w2 ⟨rfl, hB2⟩
        have hB2' := hB.trans (hB2.mono hB.size)
        go_wp2_with fail
        refine (CB.out _).mono ?_
        rintro e w3 ⟨rfl, hB3⟩
        have hB3' := hB2'.trans (hB3.mono hB2'.size)
        go_wp2
        go_roundw
        case rel => exact ⟨k + 1, f, z, by omega, by go_num, rfl, ⟨by rw [HS.out, HNO.out], hf.out.2⟩, hB3'⟩
        case measure => simp [intOf]; omega
      · cases f with
        | none =>
          have hz : z = -1 := hf.out.2
          subst hz
          have hno : candStep l none c = some c := by unfold candStep; rw [hbad]; simp
          have HNO := Lib.hid hno
          clear hno hbad hrate
          go_wp2_with fail
          refine (COF.out _ hB).mono ?_
          rintro e w2 ⟨rfl, hB2⟩
          have hB2' := hB.trans (hB2.mono hB.size)
          go_wp2_with fail
          refine (CB.out _).mono ?_
          rintro e w3 ⟨rfl, hB3⟩
          have hB3' := hB2'.trans (hB3.mono hB2'.size)
          go_wp2
          go_quiet (fail)
          go_wp2
          go_roundw
          case rel => exact ⟨k + 1, some c, k, by omega, by go_num, rfl, ⟨by rw [HS.out, HNO.out], HAT.out⟩, below_drewN hB3' _⟩
          case measure => simp [intOf]; omega
        | some f0 =>
          obtain ⟨a, haL, rfl, ha⟩ := hf.out.2
          have hca : wr.cell? ⟨g, a, none⟩ = some (.int .i64 (f0 : Int)) := by
            rw [hB.cell (p := ⟨g, a, none⟩) hg, HC.out a haL, ha]
          have haN : a < N := by rw [← HLN.out]; exact haL
          have HA := Lib.hid ha
          have hf37 : f0 < 37 := by rw [← ha]; exact Fin.isLt _
          have cof := fun (w1 : World) (hb : Below w.heap.size w w1) => tof_any v l f0 (by omega) w1 (HSR.out.below hb)
          have hrate0 : rateL l f0 = rateI (tal l f0).1 (tal l f0).2 := rfl
          obtain ⟨⟨x0, y0⟩, ht⟩ : ∃ t, tal l f0 = t := ⟨_, rfl⟩
          rw [ht] at cof hrate0
          simp only at cof hrate0
          have cr0 := rrate_any x0 y0
          obtain ⟨R0, hR0⟩ : ∃ R0, rateI x0 y0 = R0 := ⟨_, rfl⟩
          rw [hR0] at cr0 hrate0
          have CR0 := Lib.hid cr0
          have COF0 := Lib.hid cof
          have hst : candStep l (some f0) c = if R0 < R then some c else some f0 := by unfold candStep; rw [hbad]; simp only [if_true, hrate, hrate0]
          have HST := Lib.hid hst
          clear hst hbad hrate hrate0 cof cr0 hR0 ht ha
          have hneg : decide ((a : Int) < 0) = false := by simp
          have hj0 : (0 : Int) ≤ (a : Int) := by omega
          have hj1 : (a : Int) < (N : Int) := by omega
          have hi0 : (0 : Int) ≤ (k : Int) := by omega
          have hi1 : (k : Int) < (N : Int) := by omega
          by_cases hr : R0 < R
          all_goals
            go_wp2_with fail
            refine (COF.out _ hB).mono ?_
            rintro e w2 ⟨rfl, hB2⟩
            have hB2' := hB.trans (hB2.mono hB.size)
            go_wp2_with fail
            refine (CB.out _).mono ?_
            rintro e w3 ⟨rfl, hB3⟩
            have hB3' := hB2'.trans (hB3.mono hB2'.size)
            have hkk := keep2 (W := wr) ⟨hc0, hca⟩ (hB2.trans (hB3.mono hB2.size))
            have hBd := hB3'.drew
            go_wp2_with fail
            go_region_held3 (fun W' => W'.cell? ⟨g, k, none⟩ = some (.int .i64 (c : Int)) ∧ W'.cell? ⟨g, a, none⟩ = some (.int .i64 (f0 : Int))) (first | go_keep | assumption) (first | (go_at_call 43; first | ((with_reducible refine (COF.out _ hBd).mono ?_); rintro e w4 ⟨rfl, hB4⟩; have hk4 := keep2 (W := w3.drew) hkk hB4; have hB4' := hBd.trans (hB4.mono hBd.size)) | ((with_reducible refine (COF0.out _ hB5').mono ?_); rintro e w6 ⟨rfl, hB6⟩; have hk6 := keep2 hk5 hB6; have hB6' := hB5'.trans (hB6.mono hB5'.size))) | (go_at_call 36; first | ((with_reducible refine (CR.out _).mono ?_); rintro e w5 ⟨rfl, hB5⟩; have hk5 := keep2 hk4 hB5; have hB5' := hB4'.trans (hB5.mono hB4'.size)) | ((with_reducible refine (CR0.out _).mono ?_); rintro e w7 ⟨rfl, hB7⟩; have hk7 := keep2 hk6 hB7; have hB7' := hB6'.trans (hB7.mono hB6'.size))))
            go_wp2
            go_roundw
            case rel => first | exact ⟨k + 1, some c, k, by omega, by go_num, rfl, ⟨by rw [HS.out, HST.out, if_pos hr], HAT.out⟩, hB7'⟩ | exact ⟨k + 1, some f0, a, by omega, by go_num, rfl, ⟨by rw [HS.out, HST.out, if_neg (by omega)], hf.out.2⟩, hB7'⟩
            case measure => simp [intOf]; omega
    · have hkN : N = k := by omega
      subst hkN
      have hfe := hf.out
      rw [List.take_of_length_le (by rw [HLN.out]; omega)] at hfe
      have HF := Lib.hid hfe
      clear hfe hf
      go_wp2
      go_ret
      exact ⟨z, rfl, by rw [← HF.out.1]; exact HF.out.2, hB⟩
end Go.Proofs.Ytoaiiceglfmfcaa
