/- Walks of hop.Mix and Next and of the reference's. -/
import Derived.Test.YtoaiiceglfmfcaaHopA
import Derived.Test.YtoaiiceglfmfcaaRefA
import Derived.Deep.RegionHeld3
namespace Go.Proofs.Ytoaiiceglfmfcaa
open Go.RowKit

theorem bmix (B : Nat) {w a b : World} (h : Below B w a) (k : Below a.heap.size a b) (hB : B ≤ a.heap.size) : Below B w b := h.trans (k.mono hB)

/-- the channel of an event by HopMix -/
def mixI (m e a : Nat) : Int :=
  let r : Int := (randN e (identN a) : Int)
  if hasI m (r % 37) = true then r % 37 else nthI m ((pop m 37 : Int) * r / 65536)

theorem mix_any (m : Nat) (hm : m < 18446744073709551616) (ev a : Nat) (he : ev < 65536) (ha : a < 4294967296) (w : World) :
    Calls Try.prog 21 #[.int .u64 m, .int .u16 ev, .int .u32 a] w fun e w' => e = .returned (.int .i64 (mixI m ev a)) ∧ Below w.heap.size w w' := by
  have hi := identN_lt a ha
  have hr := randN_lt ev (identN a) he hi
  obtain ⟨b, hb⟩ : ∃ b, hasI m ((randN ev (identN a) : Int) % 37) = b := ⟨_, rfl⟩
  obtain ⟨P, hP⟩ : ∃ P, pop m 37 = P := ⟨_, rfl⟩
  unfold mixI
  simp only [hb, hP]
  have hPle := pop_le m 37
  rw [hP] at hPle
  obtain ⟨R, hR⟩ : ∃ R, randN ev (identN a) = R := ⟨_, rfl⟩
  rw [hR] at hr hb ⊢
  have HB := Lib.hid hb
  have HR := Lib.hid hR
  have HP := Lib.hid hP
  have hpr : P * R ≤ 37 * 65535 := Nat.mul_le_mul hPle (by omega)
  have hT0 : 0 ≤ (P : Int) * (R : Int) ∧ (P : Int) * (R : Int) ≤ 2424795 := by
    rw [← Int.natCast_mul]
    omega
  clear hb hP hR hpr
  cases b
  · go_enter Try.func21, Try.ntmps21
    go_wp2_with (first
      | (go_at_call 17; refine (ident_any a ha _).mono ?_; rintro e w' ⟨rfl, rfl⟩)
      | (go_at_call 19; refine (rand_any ev _ he hi _).mono ?_; rw [HR.out]; rintro e w' ⟨rfl, rfl⟩)
      | (go_at_call 47; refine (has_any m hm _ _).mono ?_; rw [HB.out]; rintro e w' ⟨rfl, rfl⟩)
      | (go_at_call 49; refine (count_any m hm _).mono ?_; rw [HP.out]; rintro e w' ⟨rfl, rfl⟩)
      | (go_at_call 48; refine (nth_any m hm _ _).mono ?_; rintro e w2 ⟨rfl, hB2⟩))
    go_ret
    exact ⟨rfl, by assumption⟩
  · go_enter Try.func21, Try.ntmps21
    go_wp2_with (first
      | (go_at_call 17; refine (ident_any a ha _).mono ?_; rintro e w' ⟨rfl, rfl⟩)
      | (go_at_call 19; refine (rand_any ev _ he hi _).mono ?_; rw [HR.out]; rintro e w' ⟨rfl, rfl⟩)
      | (go_at_call 47; refine (has_any m hm _ _).mono ?_; rw [HB.out]; rintro e w' ⟨rfl, rfl⟩))
    go_ret
    exact ⟨rfl, Below.refl _ _⟩
theorem rmix_any (m : Nat) (hm : m < 18446744073709551616) (ev a : Nat) (he : ev < 65536) (ha : a < 4294967296) (w : World) :
    Calls Try.prog 22 #[.int .u64 m, .int .u16 ev, .int .u32 a] w fun e w' => e = .returned (.int .i64 (mixI m ev a)) ∧ Below w.heap.size w w' := by
  have hi := identN_lt a ha
  have hr := randN_lt ev (identN a) he hi
  obtain ⟨b, hb⟩ : ∃ b, hasI m ((randN ev (identN a) : Int) % 37) = b := ⟨_, rfl⟩
  obtain ⟨P, hP⟩ : ∃ P, pop m 37 = P := ⟨_, rfl⟩
  unfold mixI
  simp only [hb, hP]
  have hPle := pop_le m 37
  rw [hP] at hPle
  obtain ⟨R, hR⟩ : ∃ R, randN ev (identN a) = R := ⟨_, rfl⟩
  rw [hR] at hr hb ⊢
  have HB := Lib.hid hb
  have HR := Lib.hid hR
  have HP := Lib.hid hP
  have hpr : P * R ≤ 37 * 65535 := Nat.mul_le_mul hPle (by omega)
  have hT0 : 0 ≤ (P : Int) * (R : Int) ∧ (P : Int) * (R : Int) ≤ 2424795 := by
    rw [← Int.natCast_mul]
    omega
  clear hb hP hR hpr
  cases b
  · go_enter Try.func22, Try.ntmps22
    go_wp2_with (first
      | (go_at_call 18; refine (rident_any a ha _).mono ?_; rintro e w' ⟨rfl, rfl⟩)
      | (go_at_call 20; refine (rrand_any ev _ he hi _).mono ?_; rw [HR.out]; rintro e w' ⟨rfl, rfl⟩)
      | (go_at_call 26; refine (rhas_any m hm _ _).mono ?_; rw [HB.out]; rintro e w' ⟨rfl, rfl⟩)
      | (go_at_call 25; refine (rcount_any m hm _).mono ?_; rw [HP.out]; rintro e w' ⟨rfl, hB1⟩)
      | (go_at_call 50; refine (rnth_any m hm _ _).mono ?_; rintro e w2 ⟨rfl, hB2⟩))
    go_ret
    exact ⟨rfl, (Below.trans (by assumption) (Below.mono (by assumption) (Below.size (by assumption))))⟩
  · go_enter Try.func22, Try.ntmps22
    go_wp2_with (first
      | (go_at_call 18; refine (rident_any a ha _).mono ?_; rintro e w' ⟨rfl, rfl⟩)
      | (go_at_call 20; refine (rrand_any ev _ he hi _).mono ?_; rw [HR.out]; rintro e w' ⟨rfl, rfl⟩)
      | (go_at_call 26; refine (rhas_any m hm _ _).mono ?_; rw [HB.out]; rintro e w' ⟨rfl, rfl⟩))
    go_ret
    exact ⟨rfl, Below.refl _ _⟩

/-- connection parameters, as a value -/
def cp (ac ini : Nat) (u0 u1 u2 u3 u4 : Int) (mp : Nat) (hp ppm alg : Int) : Array Value :=
  #[.int .u32 ac, .int .u32 ini, .int .i64 u0, .int .i64 u1, .int .i64 u2, .int .i64 u3, .int .i64 u4, .int .u64 mp, .int .i64 hp, .int .i64 ppm, .int .i64 alg]
def chanI (alg : Int) (mp ac : Nat) (hp : Int) (ev : Nat) (last : Int) : Int := if alg = 2 then mixI mp ev ac else remapI mp (stepI last hp)
def unmI (alg : Int) (ac : Nat) (hp : Int) (ev : Nat) (last : Int) : Int := if alg = 2 then (randN ev (identN ac) : Int) % 37 else stepI last hp

theorem next_any (ac ini : Nat) (u0 u1 u2 u3 u4 : Int) (mp : Nat) (hp ppm alg : Int) (ev : Nat) (last : Int) (hm : mp < 18446744073709551616) (he : ev < 65536) (ha : ac < 4294967296) (w : World) :
    Calls Try.prog 23 #[.agg (cp ac ini u0 u1 u2 u3 u4 mp hp ppm alg), .int .u16 ev, .int .i64 last] w fun e w' =>
      e = .returned (.tuple #[.int .i64 (chanI alg mp ac hp ev last), .int .i64 (unmI alg ac hp ev last)]) ∧ Below w.heap.size w w' := by
  have hi := identN_lt ac ha
  have hr := randN_lt ev (identN ac) he hi
  unfold cp
  by_cases h2 : alg = 2
  · have hu : unmI alg ac hp ev last = (randN ev (identN ac) : Int) % 37 := by unfold unmI; rw [if_pos h2]
    have hc : chanI alg mp ac hp ev last = mixI mp ev ac := by unfold chanI; rw [if_pos h2]
    rw [hu, hc]
    clear hu hc
    have h3 : (alg == 2) = true := by simp [h2]
    clear h2
    go_enter Try.func23, Try.ntmps23
    go_wp2_with (first
      | (go_at_call 17; refine (ident_any ac ha _).mono ?_; rintro e w' ⟨rfl, rfl⟩)
      | (go_at_call 19; refine (rand_any ev _ he hi _).mono ?_; rintro e w' ⟨rfl, rfl⟩)
      | (go_at_call 21; refine (mix_any mp hm ev ac he ha _).mono ?_; rintro e w' ⟨rfl, hB1⟩))
    go_ret2
    exact ⟨rfl, ((Below.refl _ _).alloc (Nat.le_refl _) _).trans (hB1.mono (by simp))⟩
  · have hu : unmI alg ac hp ev last = stepI last hp := by unfold unmI; rw [if_neg h2]
    have hc : chanI alg mp ac hp ev last = remapI mp (stepI last hp) := by unfold chanI; rw [if_neg h2]
    rw [hu, hc]
    clear hu hc
    have h3 : (alg == 2) = false := by simp [h2]
    clear h2
    go_enter Try.func23, Try.ntmps23
    go_wp2_with (first
      | (go_at_call 15; refine (step_any _ _ _).mono ?_; rintro e w' ⟨rfl, rfl⟩)
      | (go_at_call 51; refine (remap_any mp hm _ _).mono ?_; rintro e w' ⟨rfl, hB1⟩))
    go_ret2
    exact ⟨rfl, ((Below.refl _ _).alloc (Nat.le_refl _) _).trans (hB1.mono (by simp))⟩

theorem rnext_any (ac ini : Nat) (u0 u1 u2 u3 u4 : Int) (mp : Nat) (hp ppm alg : Int) (ev : Nat) (last : Int) (hm : mp < 18446744073709551616) (he : ev < 65536) (ha : ac < 4294967296) (w : World) :
    Calls Try.prog 24 #[.agg (cp ac ini u0 u1 u2 u3 u4 mp hp ppm alg), .int .u16 ev, .int .i64 last] w fun e w' =>
      e = .returned (.tuple #[.int .i64 (chanI alg mp ac hp ev last), .int .i64 (unmI alg ac hp ev last)]) ∧ Below w.heap.size w w' := by
  have hi := identN_lt ac ha
  have hr := randN_lt ev (identN ac) he hi
  unfold cp
  by_cases h2 : alg = 2
  · have hu : unmI alg ac hp ev last = (randN ev (identN ac) : Int) % 37 := by unfold unmI; rw [if_pos h2]
    have hc : chanI alg mp ac hp ev last = mixI mp ev ac := by unfold chanI; rw [if_pos h2]
    rw [hu, hc]
    clear hu hc
    have h3 : (alg == 2) = true := by simp [h2]
    clear h2
    go_enter Try.func24, Try.ntmps24
    go_wp2_with fail
    generalize hW : w.alloc (.cells _ 37) = W
    have c7 : W.cell? ⟨w.heap.size, 7, none⟩ = some (.int .u64 mp) := by rw [← hW]; exact cellNew _ _ _ _ _ rfl
    have c0 : W.cell? ⟨w.heap.size, 0, none⟩ = some (.int .u32 ac) := by rw [← hW]; exact cellNew _ _ _ _ _ rfl
    have hB : Below w.heap.size w W := by rw [← hW]; exact (Below.refl _ _).alloc (Nat.le_refl _) _
    have hs : w.heap.size < W.heap.size := by rw [← hW]; simp
    clear hW
    go_region_held3 (fun W' => W'.cell? ⟨w.heap.size, 7, none⟩ = some (.int .u64 mp) ∧ W'.cell? ⟨w.heap.size, 0, none⟩ = some (.int .u32 ac)) (go_keep) (first | (go_at_call 22; refine (rmix_any mp hm ev ac he ha _).mono ?_; rintro e w1 ⟨rfl, hB1⟩; have c71 := (hB1.cell (p := ⟨w.heap.size, 7, none⟩) (by simpa using hs)).trans c7; have c01 := (hB1.cell (p := ⟨w.heap.size, 0, none⟩) (by simpa using hs)).trans c0) | (go_at_call 18; refine (rident_any ac ha _).mono ?_; rintro e w' ⟨rfl, rfl⟩) | (go_at_call 20; refine (rrand_any ev _ he hi _).mono ?_; rintro e w' ⟨rfl, rfl⟩))
    go_wp2
    go_ret2
    refine ⟨?_, (Below.drew hB).trans (hB1.mono hB.size)⟩
    show Ending.returned (.tuple #[.int .i64 (mixI mp ev ac), .int .i64 ((IntKind.i64.wrap ↑(randN ev (identN ac))).tmod 37)]) = _
    rw [IntWalk.i64_in _ (by omega), IntWalk.rem_in _ _ (by omega)]
  · have hu : unmI alg ac hp ev last = stepI last hp := by unfold unmI; rw [if_neg h2]
    have hc : chanI alg mp ac hp ev last = remapI mp (stepI last hp) := by unfold chanI; rw [if_neg h2]
    rw [hu, hc]
    clear hu hc
    have h3 : (alg == 2) = false := by simp [h2]
    clear h2
    go_enter Try.func24, Try.ntmps24
    go_wp2_with (first
      | (go_at_call 16; refine (rstep_any _ _ _).mono ?_; rintro e w' ⟨rfl, rfl⟩)
      | (go_at_call 52; refine (rremap_any mp hm _ _).mono ?_; rintro e w' ⟨rfl, hB1⟩))
    go_ret2
    exact ⟨rfl, ((Below.refl _ _).alloc (Nat.le_refl _) _).trans (hB1.mono (by simp))⟩
end Go.Proofs.Ytoaiiceglfmfcaa
