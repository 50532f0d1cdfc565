/- chanmap: the walks of the statements ChanmapBytes, ChanmapTexts, ChanmapBack. -/
import Derived.Test.YtoaiiceglfmfcaaDoorCtL
namespace Go.Proofs.YtoaiiceglfmfcaaDoor
open Go.ChangeShapes Go.WideShapes Go.ChangeAt Go.RowKit

theorem Tryd.cells_u8' : Tryd.prog.cellsOf 5 = 1 := by kernel_rfl
theorem Tryd.bytes_u8' : Tryd.prog.bytesOf 5 = 1 := by kernel_rfl
theorem arg_bytes {w : World} {v : Value} (h : Arg Tryd.prog w 35 v) : ∃ bs, BytesAt w v bs :=
  bytes_of_in Tryd.underlying5 Tryd.cells_u8' Tryd.bytes_u8' (h.slIn Tryd.underlying35)
set_option maxRecDepth 100000 in
theorem arg_str {w : World} {v : Value} (h : Arg Tryd.prog w 9 v) : ∃ ss : List Nat, v = .string (strB ss) ∧ ∀ x ∈ ss, x < 256 := by
  obtain ⟨⟨b, hv⟩, _⟩ := h
  obtain ⟨s, rfl⟩ := okWide_string Tryd.underlying9 hv
  exact ⟨_, congrArg _ (strB_of s).symm, toNat_lt s⟩
theorem empty_own (w : World) : (w.alloc (.cells #[] 5)).ownsRow w.heap.size 5 1 (.slice (some ⟨w.heap.size, 0, none⟩) 0 0) 0 [] :=
  World.ownsRow_made w #[] 0 (Nat.le_refl _) (by unfold maxLen; omega) rfl
set_option linter.unusedSimpArgs false in
set_option linter.unusedVariables false in
set_option maxRecDepth 100000 in
set_option maxHeartbeats 2000000 in
theorem chanmapBytes_walk (v0 v1 : Value) (w : World) (a0 : Arg Tryd.prog w 23 v0) (a1 : Arg Tryd.prog w 35 v1) (M : Int) (hM : w.cell? ⟨0, 0, none⟩ = some (.int .i64 M)) (hE : EVar w) :
    Calls Tryd.prog 6 #[v0, v1] w fun e w' => e = .returned (.bool true) ∧ Below w.heap.size w w' := by
  obtain ⟨i0, hi, hz0, hz1, hz2⟩ := info_parts Tryd.info_u8
  obtain ⟨m, rfl, hm⟩ := a0.u64 Tryd.underlying23
  obtain ⟨bs, hby⟩ := arg_bytes a1
  have h0 := Lib.hid (fun W (hb : Below w.heap.size w W) => lives_any M W (hE.below hb) (kc hM hb))
  have h1 := Lib.hid (fun W => encode_any m hm W)
  have h2 := Lib.hid (fun W => rencode_any m hm W)
  generalize chk m = C at h1 h2
  generalize encI m = X at h1 h2
  have hreach : bs.length ≤ 140737488351232 := hby.2.1
  obtain ⟨n, hn⟩ : ∃ n, bs.length = n := ⟨_, rfl⟩
  have h3 := Lib.hid (fun v W (h : BytesC W v bs) => decode_any v bs W h hreach)
  have h4 := Lib.hid (fun v W (h : BytesAt W v bs) => rdecode_any v bs W h)
  rw [hn] at hreach
  generalize decI bs = D at h3 h4
  obtain ⟨D1, D2⟩ := D
  simp only at h3 h4
  have hsr : ∀ W, Below w.heap.size w W → SR W v1 n 1 (bcells bs) := fun W hb => by rw [← hn]; exact hby.1.below hb
  have HSR := Lib.hid hsr
  have HBY := Lib.hid hby
  have hb256 := hby.2.2
  have HOWN := Lib.hid (fun (W : World) base v (h : W.ownsRow base 5 1 v n (bcells bs)) => bytesC_of_own h hn hb256 hreach)
  have hv1 := hby.1.val
  obtain ⟨a1', c1', rfl⟩ := hv1
  clear hM hE a0 a1 hby hn hsr hb256
  go_enter Tryd.func6, Tryd.ntmps6
  go_wp2_with fail
  refine (h1.out _).mono ?_
  rintro e w1 ⟨ve, rfl, hve, hB1⟩
  have HB1 := Lib.hid hB1
  have HVE := Lib.hid hve
  clear hB1 hve
  go_wp2_with fail
  refine (h2.out _).mono ?_
  rintro e w2 ⟨vr, rfl, hvr, hB2⟩
  have HB2 := Lib.hid (HB1.out.trans (hB2.mono HB1.out.size))
  have HVE2 := Lib.hid (HVE.out.below hB2)
  have HVR := Lib.hid hvr
  have hB2s := HB2.out.size
  have hB2' := HB2.out.alloc HB2.out.size (.cells #[] 5)
  have hown2 := own_base (empty_own w2) hB2s
  have hs2 := HSR.out _ hB2'
  have HB2' := Lib.hid hB2'
  have HVE2' := Lib.hid (HVE2.out.below ((Below.refl w2.heap.size w2).alloc (Nat.le_refl _) (.cells #[] 5)))
  have HVR2' := Lib.hid (HVR.out.below ((Below.refl w2.heap.size w2).alloc (Nat.le_refl _) (.cells #[] 5)))
  clear hB2 HB1 HVE hvr hB2'
  go_wp2_with (at_builtin; refine wpList_append_all rfl _ _ 35 rfl w.heap.size 5 i0 (.int .u8 0) 1 1 Tryd.underlying35 hi hz0 hz1 hz2 rfl (by decide) _ 0 [] rfl hown2 _ n (bcells bs) rfl hs2 (by unfold maxLen; omega) (by omega) (by simp; omega) ?_)
  intro v' w3 hown' hgrow _
  have hB3 : Below w.heap.size w w3 := HB2'.out.grown hgrow HB2'.out.size (fun j hj => (hown2.lt j hj).1)
  have hg2 : Below w2.heap.size (w2.alloc (.cells #[] 5)) w3 := (Below.refl w2.heap.size (w2.alloc (.cells #[] 5))).grown hgrow (by simp) (fun j hj => by simp [Value.ownBlock] at hj; omega)
  have hg3 : Below w2.heap.size w2 w3 := ((Below.refl w2.heap.size w2).alloc (Nat.le_refl _) (.cells #[] 5)).trans hg2
  try simp only [Nat.zero_add, List.nil_append] at hown'
  have HC := Lib.hid (HOWN.out _ _ _ hown')
  have HB3 := Lib.hid hB3
  have HVE3 := Lib.hid (HVE2.out.below hg3)
  have HVR3 := Lib.hid (HVR.out.below hg3)
  clear hB3 hg2 hg3 hown' hgrow hown2 hs2 HB2' HVE2' HVR2' HVE2 HVR HB2
  go_wp2_with fail
  refine (h3.out _ _ HC.out).mono ?_
  rintro e w4 ⟨rfl, hB4⟩
  have HB4 := Lib.hid (HB3.out.trans (hB4.mono HB3.out.size))
  have HVE4 := Lib.hid (HVE3.out.below hB4)
  have HVR4 := Lib.hid (HVR3.out.below hB4)
  have HBY4 := Lib.hid (HBY.out.below HB4.out)
  clear hB4 HB3 HVE3 HVR3 HC
  go_wp2_with fail
  refine (h4.out _ _ HBY4.out).mono ?_
  rintro e w5 ⟨rfl, hB5⟩
  have HB5 := Lib.hid (HB4.out.trans (hB5.mono HB4.out.size))
  have HVE5 := Lib.hid (HVE4.out.below hB5)
  have HVR5 := Lib.hid (HVR4.out.below hB5)
  clear hB5 HB4 HVE4 HVR4 HBY4
  go_wp2_with fail
  refine (h0.out _ HB5.out).mono ?_
  rintro e w6 ⟨rfl, hB6⟩
  have HB6 := Lib.hid (HB5.out.trans (hB6.mono HB5.out.size))
  have hs6 := same_any _ _ _ _ w6 (HVE5.out.below hB6).1 (HVR5.out.below hB6).1
  have hdt : decide (X = X) = true := by simp
  rw [hdt] at hs6
  have HS6 := Lib.hid hs6
  clear hB6 HB5 HVE5 HVR5 hs6
  go_wp2_with fail
  refine HS6.out.mono ?_
  rintro e w' ⟨rfl, rfl⟩
  go_wp2
  go_ret
  exact ⟨by simp, HB6.out⟩
set_option linter.unusedSimpArgs false in
set_option linter.unusedVariables false in
set_option maxRecDepth 100000 in
set_option maxHeartbeats 2000000 in
theorem chanmapTexts_walk (v0 v1 : Value) (w : World) (a0 : Arg Tryd.prog w 23 v0) (a1 : Arg Tryd.prog w 9 v1) (hlen : ∀ s, v1 = .string s → s.size ≤ 1048576) (M : Int) (hM : w.cell? ⟨0, 0, none⟩ = some (.int .i64 M)) (hE : EVar w) :
    Calls Tryd.prog 7 #[v0, v1] w fun e w' => e = .returned (.bool true) ∧ Below w.heap.size w w' := by
  obtain ⟨m, rfl, hm⟩ := a0.u64 Tryd.underlying23
  obtain ⟨ss, rfl, hb⟩ := arg_str a1
  have hl := hlen _ rfl
  rw [strB_size] at hl
  have h0 := Lib.hid (fun W (hb : Below w.heap.size w W) => lives_any M W (hE.below hb) (kc hM hb))
  have h1 := Lib.hid (parse_any ss hb (by omega) M w hE hM)
  have h2 := Lib.hid (fun W => rparse_any ss hb (by omega) W)
  rw [prs_eq] at h1
  have h3 := Lib.hid (fun W => text_any m hm W)
  have h4 := Lib.hid (fun W => rtext_any m hm W)
  generalize strB (tx m) = T at h3 h4
  generalize prsR ss = D at h1 h2
  obtain ⟨D1, D2⟩ := D
  simp only at h1 h2
  clear hM hE a0 a1 hlen hl
  go_enter Tryd.func7, Tryd.ntmps7
  go_wp2_with fail
  refine h1.out.mono ?_
  rintro e w1 ⟨rfl, hB1⟩
  have HB1 := Lib.hid hB1
  clear hB1
  go_wp2_with fail
  refine (h2.out _).mono ?_
  rintro e w2 ⟨rfl, hB2⟩
  have HB2 := Lib.hid (HB1.out.trans (hB2.mono HB1.out.size))
  clear hB2 HB1
  go_wp2_with fail
  refine (h0.out _ HB2.out).mono ?_
  rintro e w3 ⟨rfl, hB3⟩
  have HB3 := Lib.hid (HB2.out.trans (hB3.mono HB2.out.size))
  clear hB3 HB2
  go_wp2_with fail
  refine (h3.out _).mono ?_
  rintro e w4 ⟨rfl, hB4⟩
  have HB4 := Lib.hid (HB3.out.trans (hB4.mono HB3.out.size))
  clear hB4 HB3
  go_wp2_with fail
  refine (h4.out _).mono ?_
  rintro e w5 ⟨rfl, hB5⟩
  have HB5 := Lib.hid (HB4.out.trans (hB5.mono HB4.out.size))
  clear hB5 HB4
  go_wp2
  go_ret
  exact ⟨by simp, HB5.out⟩
end Go.Proofs.YtoaiiceglfmfcaaDoor
