/- chanmap: the walk of the statement ChanmapBack. -/
import Derived.Test.YtoaiiceglfmfcaaDoorCtO
namespace Go.Proofs.YtoaiiceglfmfcaaDoor
open Go.ChangeShapes Go.WideShapes Go.ChangeAt Go.RowKit

set_option linter.unusedSimpArgs false in
set_option linter.unusedVariables false in
set_option maxRecDepth 100000 in
set_option maxHeartbeats 4000000 in
theorem chanmapBack_walk (v0 v1 v2 : Value) (w : World) (a0 : Arg Tryd.prog w 23 v0) (a1 : Arg Tryd.prog w 35 v1) (a2 : Arg Tryd.prog w 9 v2) (hlen : ∀ s, v2 = .string s → s.size ≤ 1048576) (M : Int) (hM : w.cell? ⟨0, 0, none⟩ = some (.int .i64 M)) (hE : EVar w) :
    Calls Tryd.prog 9 #[v0, v1, v2] w fun e w' => e = .returned (.bool true) ∧ Below w.heap.size w w' := by
  obtain ⟨i0, hi, hz0, hz1, hz2⟩ := info_parts Tryd.info_u8
  obtain ⟨m, rfl, hm⟩ := a0.u64 Tryd.underlying23
  obtain ⟨bs, hby⟩ := arg_bytes a1
  obtain ⟨ss, rfl, hb⟩ := arg_str a2
  have hl := hlen _ rfl
  rw [strB_size] at hl
  have h0 := Lib.hid (lives_any M w hE hM)
  have h1' := fun W => encode_any m hm W
  obtain ⟨CK, hCK⟩ : ∃ C, chk m = C := ⟨_, rfl⟩
  simp only [hCK] at h1'
  have h1 := Lib.hid h1'
  have HCK := Lib.hid hCK
  clear h1' hCK
  have h2 := Lib.hid (fun n (hn : n < 18446744073709551616) W => encode_any n hn W)
  have hreach : bs.length ≤ 140737488351232 := hby.2.1
  obtain ⟨n, hn⟩ : ∃ n, bs.length = n := ⟨_, rfl⟩
  have h3 := Lib.hid (fun v xs W (h : BytesC W v xs) (hl : xs.length ≤ 140737488351232) => decode_any v xs W h hl)
  have h4 := Lib.hid (fun W => text_any m hm W)
  have hEw := Lib.hid (fun W (hb : Below w.heap.size w W) => hE.below hb)
  have hMw := Lib.hid (fun W (hb : Below w.heap.size w W) => kc hM hb)
  have h5 := Lib.hid (fun xs (hx : ∀ x ∈ xs, x < 256) (hl : xs.length ≤ 4294967200) W (hB : Below w.heap.size w W) => parse_any xs hx hl M W (hEw.out W hB) (hMw.out W hB))
  have HRE := Lib.hid hreach
  rw [hn] at hreach
  have hsr : ∀ W, Below w.heap.size w W → SR W v1 n 1 (bcells bs) := fun W hb => by rw [← hn]; exact hby.1.below hb
  have HSR := Lib.hid hsr
  have HBY := Lib.hid hby
  have hb256 := hby.2.2
  have HOWN := Lib.hid (fun (W : World) base v (h : W.ownsRow base 5 1 v n (bcells bs)) => bytesC_of_own h hn hb256 hreach)
  have HED := Lib.hid (enc_dec bs hb256)
  have hv1 := hby.1.val
  obtain ⟨a1', c1', rfl⟩ := hv1
  have HSS := Lib.hid hb
  clear hM hE a0 a1 a2 hby hn hsr hb256 hlen hb
  go_enter Tryd.func9, Tryd.ntmps9
  go_wp2_with fail
  refine h0.out.mono ?_
  rintro e w1 ⟨rfl, hB1⟩
  have HB1 := Lib.hid hB1
  clear hB1 h0
  go_wp2_with fail
  refine (h1.out _).mono ?_
  rintro e w2 ⟨ve, rfl, hve, hB2⟩
  have HB2 := Lib.hid (HB1.out.trans (hB2.mono HB1.out.size))
  have HVE := Lib.hid hve
  clear hB2 HB1 hve
  go_upto_if 27 with fail
  go_cut [9, 10, 11, 12] (fun _ _ _ _ wx => Below w.heap.size w wx)
  case first =>
    by_cases hc0 : CK = 0
    · have hck : chk m = 0 := HCK.out.trans hc0
      have t1 : (CK == 0) = true := by simpa using hc0
      have hd := dec_enc m hck
      have hp := prs_tx m hck
      have h3' := h3.out ve (encI m) w2 HVE.out (Nat.le_trans (encI_len m) (by decide))
      rw [hd] at h3'
      have h5' := fun W hB => h5.out (tx m) (tx_lt m) (Nat.le_trans (tx_len m) (by decide)) W hB
      simp only [hp] at h5'
      have H4 := Lib.hid h4.out
      have H3 := Lib.hid h3'
      have H5 := Lib.hid h5'
      clear hd hp h3' h5' h4 hck h3 h5 hc0
      go_wp2_with fail
      refine H3.out.mono ?_
      rintro e w3 ⟨rfl, hB3⟩
      have HB3 := Lib.hid (HB2.out.trans (hB3.mono HB2.out.size))
      clear hB3 HB2
      go_wp2_with fail
      refine (H4.out _).mono ?_
      rintro e w4 ⟨rfl, hB4⟩
      have HB4 := Lib.hid (HB3.out.trans (hB4.mono HB3.out.size))
      clear hB4 HB3
      go_wp2_with fail
      refine (H5.out _ HB4.out).mono ?_
      rintro e w5 ⟨rfl, hB5⟩
      have HB5 := Lib.hid (HB4.out.trans (hB5.mono HB4.out.size))
      clear hB5 HB4
      go_wp2
      go_meet
      case rel => exact HB5.out
    · have t1 : (CK == 0) = false := by simpa using hc0
      go_wp2
      go_meet
      case rel => exact HB2.out
  case rest =>
  have HB3 := Lib.hid hcut
  clear hcut HB2 HVE h1 h4
  rename World => V
  have hB2s := HB3.out.size
  have hB2' := HB3.out.alloc HB3.out.size (.cells #[] 5)
  have hown2 := own_base (empty_own V) hB2s
  have hs2 := HSR.out _ hB2'
  have HB2' := Lib.hid hB2'
  clear hB2'
  go_wp2_with (at_builtin; refine wpList_append_all rfl _ _ 35 rfl w.heap.size 5 i0 (.int .u8 0) 1 1 Tryd.underlying35 hi hz0 hz1 hz2 rfl (by decide) _ 0 [] rfl hown2 _ n (bcells bs) rfl hs2 (by unfold maxLen; omega) (by omega) (by simp; omega) ?_)
  intro v' w3 hown' hgrow _
  have hB3 : Below w.heap.size w w3 := HB2'.out.grown hgrow HB2'.out.size (fun j hj => (hown2.lt j hj).1)
  try simp only [Nat.zero_add, List.nil_append] at hown'
  have hC := HOWN.out _ _ _ hown'
  have h3' := h3.out _ _ _ hC HRE.out
  have hed := HED.out
  obtain ⟨⟨D1, D2⟩, hD⟩ : ∃ p, decI bs = p := ⟨_, rfl⟩
  rw [hD] at h3' hed
  simp only at h3' hed
  have H3 := Lib.hid h3'
  have HED2 := Lib.hid hed
  have hD1 : D1 < 18446744073709551616 := by
    by_cases hl5 : D2 = 0
    · have := chk_zero D1 (hed hl5).1; omega
    · have : D1 = 0 := by
        have hx := hD
        unfold decI at hx
        split at hx
        · simp only [Prod.mk.injEq] at hx; exact hx.1.symm
        · split at hx
          · simp only [Prod.mk.injEq] at hx; exact hx.1.symm
          · split at hx
            · simp only [Prod.mk.injEq] at hx; exact absurd hx.2.symm hl5
            · simp only [Prod.mk.injEq] at hx; exact hx.1.symm
      omega
  have HB3' := Lib.hid hB3
  clear hB3 hown' hgrow hown2 hs2 HB2' HB3 hC h3' hed hD h3 HOWN HSR HED
  go_wp2_with fail
  refine H3.out.mono ?_
  rintro e w4 ⟨rfl, hB4⟩
  have HB4 := Lib.hid (HB3'.out.trans (hB4.mono HB3'.out.size))
  have HD1 := Lib.hid hD1
  clear hB4 HB3' H3 hD1
  go_upto_if 63 with fail
  go_cut [15, 16] (fun _ _ wx => Below w.heap.size w wx)
  case first =>
    by_cases hd0 : D2 = 0
    · obtain ⟨hk, he⟩ := HED2.out hd0
      have h2' := h2.out D1 HD1.out
      rw [hk, he] at h2'
      have H2 := Lib.hid h2'
      have t1 : (D2 == 0) = true := by simpa using hd0
      clear hk he h2' hd0 h2
      go_wp2_with fail
      refine (H2.out _).mono ?_
      rintro e w5 ⟨v5, rfl, hv5, hB5⟩
      have HB5 := Lib.hid (HB4.out.trans (hB5.mono HB4.out.size))
      have hs := same_any _ _ _ _ w5 hv5.1 (HBY.out.below HB5.out)
      have hdt : decide (bs = bs) = true := by simp
      rw [hdt] at hs
      have HS := Lib.hid hs
      clear hB5 HB4 hs hv5 hdt
      go_wp2_with fail
      refine HS.out.mono ?_
      rintro e w' ⟨rfl, rfl⟩
      go_wp2
      go_meet
      case rel => exact HB5.out
    · have t1 : (D2 == 0) = false := by simpa using hd0
      clear hd0
      go_wp2
      go_meet
      case rel => exact HB4.out
  case rest =>
  have HB5 := Lib.hid hcut
  rename World => V5
  have hp := h5.out ss HSS.out (by omega) V5 HB5.out
  have hok := prs_ok ss
  obtain ⟨⟨P1, P2⟩, hP⟩ : ∃ p, prsC ss = p := ⟨_, rfl⟩
  rw [hP] at hp hok
  simp only at hp hok
  have HP := Lib.hid hp
  clear hcut HB4 h2 h5 HED2 HBY hP hp
  by_cases hp0 : P2 = 0
  · obtain ⟨hk, ht⟩ := hok hp0
    have hP64 : P1 < 18446744073709551616 := by have := chk_zero P1 hk; omega
    have hc := fun W => check_any P1 hP64 W
    have hx := fun W => text_any P1 hP64 W
    simp only [hk] at hc
    simp only [ht] at hx
    subst hp0
    have HC := Lib.hid hc
    have HX := Lib.hid hx
    clear hok hk ht hc hx hP64
    go_wp2_with fail
    refine HP.out.mono ?_
    rintro e w6 ⟨rfl, hB6⟩
    have HB6 := Lib.hid (HB5.out.trans (hB6.mono HB5.out.size))
    clear hB6 HB5
    go_wp2_with fail
    refine (HC.out _).mono ?_
    rintro e w' ⟨rfl, rfl⟩
    go_wp2_with fail
    refine (HX.out _).mono ?_
    rintro e w7 ⟨rfl, hB7⟩
    have HB7 := Lib.hid (HB6.out.trans (hB7.mono HB6.out.size))
    clear hB7 HB6
    go_wp2
    go_ret
    exact ⟨by simp, HB7.out⟩
  · have t1 : (P2 != 0) = true := by simpa using hp0
    have t2 : (P2 == 0) = false := by simpa using hp0
    clear hok hp0
    go_wp2_with fail
    refine HP.out.mono ?_
    rintro e w6 ⟨rfl, hB6⟩
    have HB6 := Lib.hid (HB5.out.trans (hB6.mono HB5.out.size))
    clear hB6 HB5
    go_wp2
    go_ret
    exact ⟨rfl, HB6.out⟩
end Go.Proofs.YtoaiiceglfmfcaaDoor
