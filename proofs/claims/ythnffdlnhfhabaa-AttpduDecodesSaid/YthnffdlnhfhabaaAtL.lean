/- attpdu: Encode of the code. -/
import Derived.Test.YthnffdlnhfhabaaAtK
namespace Go.Proofs.Ythnffdlnhfhabaa
open Go.RowKit

theorem own_iter {W : World} {base e sz k n pos : Nat} {s : ByteArray} {v : Value} {xs : List Value} (h : W.ownsRow base e sz v n xs) (hk : W.heap[k]? = some (.stringIter s pos)) (pos' : Nat) : (W.iterAt k s pos').ownsRow base e sz v n xs := by
  refine ⟨h.1, ?_⟩
  rcases h.2 with hn | ⟨g, cap, cur, rfl, hb, hg, rest⟩
  · exact .inl hn
  · have hne : g ≠ k := by
      intro e1
      rw [e1, hk] at hg
      cases hg
    exact .inr ⟨g, cap, cur, rfl, hb, (Lib.iterAt_other W k g s pos' hne).trans hg, rest⟩
theorem blk_iter {W : World} {B k pos : Nat} {t : TypeId} {s : ByteArray} {cs : List Value} (h : Blk W B t cs) (hk : W.heap[k]? = some (.stringIter s pos)) (pos' : Nat) : Blk (W.iterAt k s pos') B t cs := by
  have hne : B ≠ k := by
    intro e1
    have := (show W.heap[B]? = _ from h).symm
    rw [e1, hk] at this
    cases this
  exact (Lib.iterAt_other W k B s pos' hne).trans h
theorem iter_grown {W W' : World} {base e sz k n pos : Nat} {s : ByteArray} {v : Value} {xs : List Value} (hk : W.heap[k]? = some (.stringIter s pos)) (h : W.ownsRow base e sz v n xs) (hg : W.grownBy W' v.ownBlock) : W'.heap[k]? = some (.stringIter s pos) := by
  refine (hg.block k (Array.getElem?_eq_some_iff.1 hk).1 ?_).trans hk
  rcases h.2 with ⟨rfl, _⟩ | ⟨g, cap, cur, rfl, _, hgb, _⟩
  · simp [Value.ownBlock]
  · intro e1
    obtain rfl : k = g := by simpa [Value.ownBlock] using e1
    rw [hk] at hgb
    cases hgb
theorem iter_below {W W' : World} {k pos : Nat} {s : ByteArray} (hk : W.heap[k]? = some (.stringIter s pos)) (hb : Below W.heap.size W W') : W'.heap[k]? = some (.stringIter s pos) :=
  (hb.block k (Array.getElem?_eq_some_iff.1 hk).1).trans hk
/-- the first byte of two in a block of their own -/
theorem one_byte (w : World) (N cap : Nat) : BytesAt (w.alloc (.cells #[.int .u8 (byt N 0 : Nat), .int .u8 (byt N 1 : Nat)] 5)) (.slice (some ⟨w.heap.size, 0, none⟩) 1 cap) (putB N 1) := by
  have bP := Blk.new w 5 [.int .u8 (byt N 0 : Nat), .int .u8 (byt N 1 : Nat)]
  refine ⟨⟨by unfold maxLen; rw [putB_len]; omega, by simp [bcells, putB], bcells_one _, some ⟨w.heap.size, 0, none⟩, cap, by rw [putB_len], fun h => (by cases h), fun _ => ⟨w.heap.size, 0, rfl, bP.lt, fun j u hj => ?_⟩⟩, by rw [putB_len]; unfold reachBytes; omega, putB_lt N 1⟩
  rw [Nat.zero_add]
  refine bP.cell ?_
  have hj0 : j = 0 := by
    have := (List.getElem?_eq_some_iff.1 hj).1
    simp [bcells, putB] at this
    omega
  subst hj0
  simpa [bcells, putB] using hj
theorem elB_lt (k : Int) (its : List It) (h : ∀ t ∈ its, ∀ x ∈ t.bs, x < 256) : ∀ x ∈ elB k its, x < 256 := by
  intro x hx
  unfold elB at hx
  cases its with
  | nil => cases hx
  | cons t l =>
    rcases List.mem_cons.1 hx with rfl | hx
    · exact byt_lt _ _
    · obtain ⟨t', ht', hx⟩ := List.mem_flatMap.1 hx
      exact itB_lt k t' (h t' ht') x hx
theorem fiB_lt (ki ak : Int) (ha la hi lo : Nat) (of mt co : Int) (cm : Bool) (bs : List Nat) (its : List It) (hb : ∀ x ∈ bs, x < 256) (h : ∀ t ∈ its, ∀ x ∈ t.bs, x < 256) (i : Nat) : ∀ x ∈ fiB ki ak ha la hi lo of mt co cm bs its i, x < 256 := by
  intro x hx
  unfold fiB at hx
  split at hx
  · exact putB_lt _ _ x hx
  · split at hx
    · exact encB_lt _ _ x hx
    · split at hx
      · exact hb x hx
      · exact elB_lt ki its h x hx
theorem flB_lt (ki ak : Int) (ha la hi lo : Nat) (of mt co : Int) (cm : Bool) (bs : List Nat) (its : List It) (hb : ∀ x ∈ bs, x < 256) (h : ∀ t ∈ its, ∀ x ∈ t.bs, x < 256) (u : List Nat) : ∀ x ∈ flB ki ak ha la hi lo of mt co cm bs its u, x < 256 := by
  intro x hx
  unfold flB at hx
  obtain ⟨c, _, hx⟩ := List.mem_flatMap.1 hx
  exact fiB_lt ki ak ha la hi lo of mt co cm bs its hb h (ix c) x hx
theorem flB_snoc (ki ak : Int) (ha la hi lo : Nat) (of mt co : Int) (cm : Bool) (bs : List Nat) (its : List It) (u : List Nat) (j : Nat) (h : j < u.length) : flB ki ak ha la hi lo of mt co cm bs its (u.take (j + 1)) = flB ki ak ha la hi lo of mt co cm bs its (u.take j) ++ fiB ki ak ha la hi lo of mt co cm bs its (ix u[j]) := by
  unfold flB
  rw [List.take_succ_eq_append_getElem h, List.flatMap_append]
  simp
/-- a slice's length is within its capacity -/
def CapOk (v : Value) : Prop := ∃ (a : Option Addr) (n c : Nat), v = .slice a n c ∧ n ≤ c
theorem own_cap {W : World} {base e sz n : Nat} {v : Value} {xs : List Value} (h : W.ownsRow base e sz v n xs) : CapOk v := by
  rcases h.2 with ⟨rfl, _⟩ | ⟨g, cap, cur, rfl, _, _, hnc, _⟩
  · exact ⟨none, 0, 0, rfl, Nat.le_refl _⟩
  · exact ⟨_, n, cap, rfl, hnc⟩
set_option linter.unusedSimpArgs false in
set_option linter.unusedVariables false in
set_option maxRecDepth 100000 in
set_option maxHeartbeats 8000000 in
theorem aencode_cap (ki ak : Int) (ha la hi lo : Nat) (of mt co : Int) (cm : Bool) (a1 a2 : Option Addr) (n c m d : Nat) (bs : List Nat) (its : List It) (w : World) (hval : BytesAt w (.slice a1 n c) bs) (hn : bs.length = n) (hits : Items w (.slice a2 m d) m its) (hm : m ≤ 1000) (hbn : ∀ t ∈ its, t.n ≤ 1000000)
    (hha : ha < 65536) (hla : la < 65536) (hhi : hi < 18446744073709551616) (hlo : lo < 18446744073709551616) :
    Calls Try.prog 14 #[.agg #[.int .i64 ki, .int .i64 ak, .int .u16 ha, .int .u16 la, .int .u64 hi, .int .u64 lo, .int .i64 of, .int .i64 mt, .int .i64 co, .bool cm, .slice a1 n c, .slice a2 m d]] w fun e w' => ∃ v, e = .returned (.tuple #[v, .int .i64 (chkP ki ak ha la hi lo of mt co cm n m its)]) ∧ BytesAt w' v (if chkP ki ak ha la hi lo of mt co cm n m its = 0 then encP ki ak ha la hi lo of mt co cm bs its else []) ∧ Below w.heap.size w w' ∧ CapOk v := by
  obtain ⟨i0, hii, hz0, hz1, hz2⟩ := info_parts Try.info_u8
  have hB : Below w.heap.size w (w.alloc (.cells #[.int .i64 ki, .int .i64 ak, .int .u16 ha, .int .u16 la, .int .u64 hi, .int .u64 lo, .int .i64 of, .int .i64 mt, .int .i64 co, .bool cm, .slice a1 n c, .slice a2 m d] 29)) := (Below.refl _ _).alloc (Nat.le_refl _) _
  have bP0 := Blk.new w 29 [.int .i64 ki, .int .i64 ak, .int .u16 ha, .int .u16 la, .int .u64 hi, .int .u64 lo, .int .i64 of, .int .i64 mt, .int .i64 co, .bool cm, .slice a1 n c, .slice a2 m d]
  have hck := fun W (hW : Below w.heap.size w W) => check_any ki ak ha la hi lo of mt co cm a1 a2 n c m d its W (hits.below hW) hm (fun t ht => by have := hbn t ht; omega)
  have hgi := gI_ok ki ak ha la hi lo of mt co cm n m its
  have hio := its_ok ki ak ha la hi lo of mt co cm n m its
  have hvo := val_ok ki ak ha la hi lo of mt co cm n m its
  have hunk : fldC ki = none → chkP ki ak ha la hi lo of mt co cm n m its = 12 := fun h => by unfold chkP; rw [h]
  obtain ⟨CK, hCK⟩ : ∃ C, chkP ki ak ha la hi lo of mt co cm n m its = C := ⟨_, rfl⟩
  simp only [hCK] at hck hgi hio hvo hunk ⊢
  have HCK := Lib.hid hck
  by_cases hc0 : CK = 0
  · subst hc0
    rw [if_pos rfl]
    obtain ⟨u, hk⟩ : ∃ u, fldC ki = some u := by
      cases hf : fldC ki with
      | none => exact absurd (hunk hf) (by decide)
      | some u => exact ⟨u, rfl⟩
    obtain ⟨hmem, hul⟩ := fldC_mem ki u hk
    have hub := fldC_lt ki u hk
    have hgi := fun i hi7 hu => hgi u hk hha hla rfl i hi7 hu
    have hio := hio u hk rfl
    have hvo := hvo u hk rfl
    have hf := fun W => fields_any ki W
    simp only [hk, Option.getD_some, Option.isSome_some] at hf
    have hres : encP ki ak ha la hi lo of mt co cm bs its = byt ki.toNat 0 :: flB ki ak ha la hi lo of mt co cm bs its u := by unfold encP; rw [hk]; rfl
    have hki : ∃ K : Nat, ki = K := ⟨ki.toNat, by
      have hk' := hk
      rcases att_kinds ki with rfl | rfl | rfl | rfl | rfl | rfl | rfl | rfl | rfl | rfl | rfl | rfl | rfl | rfl | rfl | rfl | rfl | rfl | rfl | rfl | rfl | rfl | rfl | hne
      case' inr.inr.inr.inr.inr.inr.inr.inr.inr.inr.inr.inr.inr.inr.inr.inr.inr.inr.inr.inr.inr.inr.inr => rw [fldC_none ki hne] at hk'; cases hk'
      all_goals rfl⟩
    obtain ⟨K, hKK⟩ := hki
    have hb0 : IntKind.u8.wrap ki = ((byt K 0 : Nat) : Int) := by rw [hKK]; exact byt0 K
    have hres2 : encP ki ak ha la hi lo of mt co cm bs its = byt K 0 :: flB ki ak ha la hi lo of mt co cm bs its u := by rw [hres, hKK]; simp
    have hus := strB_size u
    obtain ⟨U, hU⟩ : ∃ U, u.length = U := ⟨_, rfl⟩
    rw [hU] at hul hus
    obtain ⟨fb, hfb⟩ : ∃ f, fiB ki ak ha la hi lo of mt co cm bs its = f := ⟨_, rfl⟩
    have hfl : ∀ j (h : j < u.length), flB ki ak ha la hi lo of mt co cm bs its (u.take (j + 1)) = flB ki ak ha la hi lo of mt co cm bs its (u.take j) ++ fb (ix u[j]) := fun j h => by rw [flB_snoc, hfb]
    have hfl0 : flB ki ak ha la hi lo of mt co cm bs its (u.take 0) = [] := rfl
    have hflU : flB ki ak ha la hi lo of mt co cm bs its (u.take U) = flB ki ak ha la hi lo of mt co cm bs its u := by rw [List.take_of_length_le (by omega)]
    obtain ⟨fl, hfl'⟩ : ∃ f : Nat → List Nat, (fun j => flB ki ak ha la hi lo of mt co cm bs its (u.take j)) = f := ⟨_, rfl⟩
    have e1 : ∀ j, flB ki ak ha la hi lo of mt co cm bs its (u.take j) = fl j := fun j => by rw [← hfl']
    simp only [e1] at hfl hfl0 hflU
    rw [← hflU] at hres2
    rw [hres2]
    have hflt : ∀ x ∈ byt K 0 :: fl U, x < 256 := by
      rw [← hres2]
      intro x hx
      rw [hres] at hx
      rcases List.mem_cons.1 hx with rfl | hx
      · exact byt_lt _ _
      · exact flB_lt _ _ _ _ _ _ _ _ _ _ bs its hval.2.2 (fun t ht => (hits.2.2 t ht).2.2.2.2.2.2.2) u x hx
    have HFLT := Lib.hid hflt
    have HF := Lib.hid hf
    have HMEM := Lib.hid hmem
    have HUB := Lib.hid hub
    have HGI := Lib.hid hgi
    have HIO := Lib.hid hio
    have HVO := Lib.hid hvo
    have HFB := Lib.hid hfb
    have HFL := Lib.hid hfl
    have HFL0 := Lib.hid hfl0
    have HU := Lib.hid hU
    have HITS := Lib.hid hits
    have HBN := Lib.hid hbn
    have HVAL := Lib.hid hval
    have HN := Lib.hid hn
    have HKK := Lib.hid hKK
    have HB := Lib.hid hB
    clear hflt hgi hio hvo hunk hck hits hbn hval hf hmem hub hfb hfl hfl0 hU hres hres2 hflU e1 hfl' hk hn hKK hB
    go_enter Try.func14, Try.ntmps14
    go_upto_region 1 with fail
    generalize hV : World.alloc _ _ = V at bP0 HB ⊢
    clear hV
    have TO := bP0.cells
    have hOpen := TO
    simp only [Cells, blk, List.cons_append, List.nil_append, and_true, Nat.reduceAdd, Nat.add_zero, Nat.zero_add] at hOpen
    obtain ⟨y0, y1, y2, y3, y4, y5, y6, y7, y8, y9, yA, yB⟩ := hOpen
    have HBP0 := Lib.hid bP0
    clear TO bP0
    go_wp2_with fail
    refine (HCK.out _ HB.out).mono ?_
    rintro e w1 ⟨rfl, hB1⟩
    have HB1 := Lib.hid (HB.out.trans (hB1.mono HB.out.size))
    have bP1 := HBP0.out.below hB1
    clear y0 y1 y2 y3 y4 y5 y6 y7 y8 y9 yA yB hB1 HBP0 HB HCK
    have TO := bP1.cells
    have hOpen := TO
    simp only [Cells, blk, List.cons_append, List.nil_append, and_true, Nat.reduceAdd, Nat.add_zero, Nat.zero_add] at hOpen
    obtain ⟨y0, y1, y2, y3, y4, y5, y6, y7, y8, y9, yA, yB⟩ := hOpen
    have HBP1 := Lib.hid bP1
    have hl1 := bP1.lt
    clear TO bP1
    go_wp2_with fail
    refine (HF.out _).mono ?_
    rintro e w' ⟨rfl, rfl⟩
    have ho := own_lit w1 [.int .u8 (byt K 0 : Nat)] 1 5 rfl (by decide)
    have hB2 := HB1.out.alloc HB1.out.size (.cells #[.int .u8 (byt K 0 : Nat)] 5)
    have hnw := (Below.refl w1.heap.size w1).alloc (Nat.le_refl _) (.cells #[.int .u8 (byt K 0 : Nat)] 5)
    have HO := Lib.hid (own_base ho (Nat.le_of_lt hl1))
    have HB2 := Lib.hid hB2
    have HBP2 := Lib.hid (HBP1.out.below hnw)
    clear ho hB2 hnw HBP1
    go_upto_region 6 with fail
    generalize hX : World.alloc _ _ = X at HO HB2 HBP2 ⊢
    have hXs : w.heap.size < X.heap.size := by rw [← hX]; simp; omega
    clear hX hb0 y0 y1 y2 y3 y4 y5 y6 y7 y8 y9 yA yB
    have hit0 := World.iter_heap X (strB u) 0
    have hnwI : Below X.heap.size X (X.iter (strB u) 0) := (Below.refl _ _).alloc (Nat.le_refl _) _
    have HOI := Lib.hid (own_below HO.out hnwI)
    have HBI := Lib.hid (HB2.out.trans (hnwI.mono HB2.out.size))
    have HBPI := Lib.hid (HBP2.out.below hnwI)
    obtain ⟨kb, hkb⟩ : ∃ kb, X.heap.size = kb := ⟨_, rfl⟩
    rw [hkb] at hit0
    have HIT0 := Lib.hid hit0
    have hkbs : w.heap.size < kb := by rw [← hkb]; exact hXs
    clear hnwI HO HB2 HBP2 hit0
    go_wp2
    clear hkb
    go_loopw [7, 9, 10, 11, 12] (fun v _ _ _ _ wr => ∃ k : Nat, k ≤ U ∧ (fl k).length ≤ k * 1000200000 ∧ wr.heap[kb]? = some (.stringIter (strB u) k) ∧ wr.ownsRow w.heap.size 5 1 v (byt K 0 :: fl k).length (bcells (byt K 0 :: fl k)) ∧ Blk wr w.heap.size 29 [.int .i64 ki, .int .i64 ak, .int .u16 ha, .int .u16 la, .int .u64 hi, .int .u64 lo, .int .i64 of, .int .i64 mt, .int .i64 co, .bool cm, .slice a1 n c, .slice a2 m d] ∧ Below w.heap.size w wr) (fun _ _ _ _ _ wr => U - wr.iterPos kb)
    case atStart => exact ⟨0, Nat.zero_le _, by rw [HFL0.out]; exact Nat.zero_le _, HIT0.out, by rw [HFL0.out]; exact HOI.out, HBPI.out, HBI.out⟩
    case round =>
      obtain ⟨k, hk, hfk, hit, hown, hbP, hBr⟩ := hrel
      by_cases hlt : k < U
      · have hku : k < u.length := by rw [HU.out]; exact hlt
        have hks : k < (strB u).size := by rw [hus]; exact hlt
        have hget := strB_get u HUB.out k hku hks
        have hcm := HMEM.out _ (List.getElem_mem hku)
        have hcon : u.contains u[k] = true := by simp
        have hst := HFL.out k hku
        have hasc : ((strB u)[k]'hks).toNat < 128 := by
          rw [hget]
          have : ∀ x ∈ leF, x < 128 := by decide
          exact this _ hcm
        obtain ⟨hi10, hle⟩ := le_ix _ hcm
        have hnx := fun ty => Lib.run_next_ascii_at (P := Try.prog) wr kb (strB u) k ty hit hks hasc
        rw [hget] at hnx
        obtain ⟨cc, hcc⟩ : ∃ x, u[k] = x := ⟨_, rfl⟩
        rw [hcc] at hnx hst hcm hcon hle hi10
        obtain ⟨i, hii'⟩ : ∃ i, ix cc = i := ⟨_, rfl⟩
        rw [hii'] at hle hi10 hst
        subst hle
        have hown1 := own_iter hown hit (k + 1)
        have hbP1 := blk_iter hbP hit (k + 1)
        have hit1 := Lib.iterAt_heap wr kb (strB u) k (k + 1) hit
        have hB1 := Lib.below_iterAt hBr (k := kb) (Nat.le_of_lt hkbs) (strB u) (k + 1)
        have hmeas : wr.iterPos kb = k := iterPos_of hit
        generalize hW : wr.iterAt kb (strB u) (k + 1) = W at hnx hown1 hbP1 hit1 hB1
        have HOWN := Lib.hid hown1
        have HBP := Lib.hid hbP1
        have HIT := Lib.hid hit1
        have HBr := Lib.hid hB1
        have HST := Lib.hid hst
        have HCON := Lib.hid hcon
        have HMEAS := Lib.hid hmeas
        have hlet := fun W => letter_any i hi10 W
        have hkm : k * 1000200000 ≤ 3 * 1000200000 := Nat.mul_le_mul_right _ (by omega)
        have hJl : (byt K 0 :: fl k).length ≤ 1 + k * 1000200000 := by rw [List.length_cons]; omega
        obtain ⟨J, hJ⟩ : ∃ J, byt K 0 :: fl k = J := ⟨_, rfl⟩
        obtain ⟨M, hM⟩ : ∃ M, J.length = M := ⟨_, rfl⟩
        rw [hJ, hM] at HOWN
        rw [hJ, hM] at hJl
        have hMb : M ≤ 3000600001 := by omega
        have HJ := Lib.hid hJ
        have HM := Lib.hid hM
        clear hget hcm hcon hst hasc hks hku hcc hii' hit hown hbP hBr hown1 hbP1 hit1 hB1 hmeas hW hJ hM hfk hkm
        -- what the round ends with
        have HEND : Hid (∀ (E : List Nat) (EL : Nat) (v4 : Value) (w4 : World), fb i = E → E.length = EL → EL ≤ 1000200000 → w4.heap[kb]? = some (.stringIter (strB u) (k + 1)) → w4.ownsRow w.heap.size 5 1 v4 (M + EL) (bcells J ++ bcells E) → Blk w4 w.heap.size 29 [.int .i64 ki, .int .i64 ak, .int .u16 ha, .int .u16 la, .int .u64 hi, .int .u64 lo, .int .i64 of, .int .i64 mt, .int .i64 co, .bool cm, .slice a1 n c, .slice a2 m d] → Below w.heap.size w w4 →
            (∃ k' : Nat, k' ≤ U ∧ (fl k').length ≤ k' * 1000200000 ∧ w4.heap[kb]? = some (.stringIter (strB u) k') ∧ w4.ownsRow w.heap.size 5 1 v4 (byt K 0 :: fl k').length (bcells (byt K 0 :: fl k')) ∧ Blk w4 w.heap.size 29 [.int .i64 ki, .int .i64 ak, .int .u16 ha, .int .u16 la, .int .u64 hi, .int .u64 lo, .int .i64 of, .int .i64 mt, .int .i64 co, .bool cm, .slice a1 n c, .slice a2 m d] ∧ Below w.heap.size w w4) ∧ U - w4.iterPos kb < U - wr.iterPos kb) := Lib.hid (by
          intro E EL v4 w4 hfE hEL hELb h1 h2 h3 h4
          have e1 : byt K 0 :: fl (k + 1) = J ++ E := by rw [HST.out, ← HJ.out, hfE]; rfl
          have e2 : (byt K 0 :: fl (k + 1)).length = M + EL := by rw [e1, List.length_append, HM.out, hEL]
          have e3 : (k + 1) * 1000200000 = k * 1000200000 + 1000200000 := Nat.succ_mul k 1000200000
          refine ⟨⟨k + 1, hlt, ?_, h1, ?_, h3, h4⟩, ?_⟩
          · rw [List.length_cons] at e2
            omega
          · rw [e2, e1]
            simpa [bcells] using h2
          · rw [HMEAS.out, iterPos_of h1]
            omega)
        clear HST HJ HM HMEAS
        have TO := HBP.out.cells
        have hlW := HBP.out.lt
        have hOpen := TO
        simp only [Cells, blk, List.cons_append, List.nil_append, and_true, Nat.reduceAdd, Nat.add_zero, Nat.zero_add] at hOpen
        obtain ⟨y0, y1, y2, y3, y4, y5, y6, y7, y8, y9, yA, yB⟩ := hOpen
        clear TO
        go_wp2_with fail
        refine (hlet _).mono ?_
        rintro e w2 ⟨rfl, hB2⟩
        have hown2 := own_below HOWN.out hB2
        have hbP2 := HBP.out.below hB2
        have hit2 := iter_below HIT.out hB2
        have hBw2 := HBr.out.trans (hB2.mono HBr.out.size)
        clear hlet hnx hB2 HOWN HBP HIT HBr y0 y1 y2 y3 y4 y5 y6 y7 y8 y9 yA yB hlW
        have TO := hbP2.cells
        have hlW := hbP2.lt
        have hOpen := TO
        simp only [Cells, blk, List.cons_append, List.nil_append, and_true, Nat.reduceAdd, Nat.add_zero, Nat.zero_add] at hOpen
        obtain ⟨y0, y1, y2, y3, y4, y5, y6, y7, y8, y9, yA, yB⟩ := hOpen
        clear TO
        have HOWN := Lib.hid hown2
        have HBP := Lib.hid hbP2
        have HIT := Lib.hid hit2
        have HBr := Lib.hid hBw2
        clear hown2 hbP2 hit2 hBw2
        by_cases hi7 : i < 7
        · have hfr : fRow i = .agg #[.string (strB [le i]), .int .i64 (si i : Nat), .func (.func (fz i)) #[] #[], .func (.func (fk i)) #[] #[], .func (.func (fg i)) #[] #[], .func (.func (ft i)) #[] #[]] := by unfold fRow; rw [if_pos hi7]
          have hd7 : decide (i < 7) = true := by simpa using hi7
          rw [hfr, hd7]
          clear hfr hd7
          obtain ⟨g0, g1, g2⟩ := HGI.out i hi7 HCON.out
          have hfbi : fb i = putB (gI ak ha la of mt co cm i).toNat (si i) := by rw [← HFB.out]; unfold fiB; rw [if_pos hi7]
          have hget := fun W => get_k ki ak ha la hi lo of mt co cm a1 a2 n c m d hha hla i hi7 W
          have hent := ent_g i hi7
          have hs2 := si_two i hi7
          obtain ⟨S, hS⟩ : ∃ S, si i = S := ⟨_, rfl⟩
          obtain ⟨G, hG⟩ : ∃ G, gI ak ha la of mt co cm i = G := ⟨_, rfl⟩
          rw [hS] at hs2 g2 hfbi ⊢
          simp only [hG] at hget
          rw [hG] at g0 g1 g2 hfbi
          obtain ⟨N, rfl⟩ := Int.eq_ofNat_of_zero_le g0
          have hN : ((N : Int)).toNat = N := by simp
          rw [hN] at hfbi
          have b0 := byt0 N
          have b1 := byt1 N
          have HFBI := Lib.hid hfbi
          have HGET := Lib.hid hget
          clear hS hG hfbi hget hN g2
          have hR := cells_new w2 [.string (strB [le i]), .int .i64 (S : Nat), .func (.func (fz i)) #[] #[], .func (.func (fk i)) #[] #[], .func (.func (fg i)) #[] #[], .func (.func (ft i)) #[] #[]] 55
          have hnw : Below w2.heap.size w2 (w2.alloc (.cells #[.string (strB [le i]), .int .i64 (S : Nat), .func (.func (fz i)) #[] #[], .func (.func (fk i)) #[] #[], .func (.func (fg i)) #[] #[], .func (.func (ft i)) #[] #[]] 55)) := (Below.refl _ _).alloc (Nat.le_refl _) _
          have HR := Lib.hid hR
          have HNW := Lib.hid hnw
          clear hR hnw
          go_wp2_with fail
          refine (HGET.out _).mono ?_
          rintro e w3 ⟨rfl, hB3⟩
          have hb3 := HNW.out.trans (hB3.mono (by simp))
          have hl23 : w2.heap.size < w3.heap.size := by have := hB3.size; simp at this; omega
          have TR := HR.out.keep hB3
          have hOpen := TR
          simp only [Cells, blk, List.cons_append, List.nil_append, and_true, Nat.reduceAdd, Nat.add_zero, Nat.zero_add] at hOpen
          obtain ⟨r0, r1, r2, r3, r4, r5⟩ := hOpen
          have hown3 := (own_below HOWN.out hb3).alloc (.cells #[.int .u8 (byt N 0 : Nat), .int .u8 (byt N 1 : Nat)] 5)
          have hbP3 := (HBP.out.below hb3).alloc (.cells #[.int .u8 (byt N 0 : Nat), .int .u8 (byt N 1 : Nat)] 5)
          have hB4 := (HBr.out.trans (hb3.mono HBr.out.size)).alloc (Nat.le_trans HBr.out.size hb3.size) (.cells #[.int .u8 (byt N 0 : Nat), .int .u8 (byt N 1 : Nat)] 5)
          have hit3 := iter_below (iter_below HIT.out hb3) ((Below.refl w3.heap.size w3).alloc (Nat.le_refl _) (.cells #[.int .u8 (byt N 0 : Nat), .int .u8 (byt N 1 : Nat)] 5))
          have HBP3 := Lib.hid hbP3
          have HB4 := Lib.hid hB4
          have HIT3 := Lib.hid hit3
          have hBs4 := hB4.size
          clear TR r0 r2 r3 r4 r5 hbP3 hB4 hit3 HR HNW hB3 hb3 HOWN HBP HIT HBr hent y0 y1 y2 y3 y4 y5 y6 y7 y8 y9 yA yB hlW
          rcases hs2 with rfl | rfl
          · have hsr : SR (w3.alloc (.cells #[.int .u8 (byt N 0 : Nat), .int .u8 (byt N 1 : Nat)] 5)) (.slice (some ⟨w3.heap.size, 0, none⟩) 1 2) 1 1 (bcells (putB N 1)) := by
              have := (one_byte w3 N 2).1
              rw [putB_len] at this
              exact this
            clear g0 g1
            go_wp2_with (at_builtin; refine wpList_append_all rfl _ _ 26 rfl w.heap.size 5 i0 (.int .u8 0) 1 1 Try.underlying26 hii hz0 hz1 hz2 rfl (by decide) _ M _ rfl hown3 _ 1 _ rfl hsr (by unfold maxLen; omega) (by omega) hBs4 ?_)
            intro v4 w4 hown4 hgrow _
            have hB5 : Below w.heap.size w w4 := HB4.out.grown hgrow hBs4 (fun j hj => (hown3.lt j hj).1)
            have hbP4 := HBP3.out.kept hgrow (HBP3.out.not_row (by decide) hown3)
            have hit4 := iter_grown HIT3.out hown3 hgrow
            have HFIN := Lib.hid (HEND.out _ 1 v4 w4 HFBI.out (putB_len _ _) (by omega) hit4 hown4 hbP4 hB5)
            clear hgrow hown3 hsr hB5 hbP4 hit4 hown4 r1
            go_wp2
            exact HFIN.out
          · have hsr : SR (w3.alloc (.cells #[.int .u8 (byt N 0 : Nat), .int .u8 (byt N 1 : Nat)] 5)) (.slice (some ⟨w3.heap.size, 0, none⟩) 2 2) 2 1 (bcells (putB N 2)) := by
              have := (two_bytes w3 N 2).1
              rw [putB_len] at this
              exact this
            clear g0 g1
            go_wp2_with (at_builtin; refine wpList_append_all rfl _ _ 26 rfl w.heap.size 5 i0 (.int .u8 0) 1 1 Try.underlying26 hii hz0 hz1 hz2 rfl (by decide) _ M _ rfl hown3 _ 2 _ rfl hsr (by unfold maxLen; omega) (by omega) hBs4 ?_)
            intro v4 w4 hown4 hgrow _
            have hB5 : Below w.heap.size w w4 := HB4.out.grown hgrow hBs4 (fun j hj => (hown3.lt j hj).1)
            have hbP4 := HBP3.out.kept hgrow (HBP3.out.not_row (by decide) hown3)
            have hit4 := iter_grown HIT3.out hown3 hgrow
            have HFIN := Lib.hid (HEND.out _ 2 v4 w4 HFBI.out (putB_len _ _) (by omega) hit4 hown4 hbP4 hB5)
            clear hgrow hown3 hsr hB5 hbP4 hit4 hown4 r1
            go_wp2
            exact HFIN.out
        · have hfr : fRow i = .agg #[.string { data := #[] }, .int .i64 0, .nilFunc, .nilFunc, .nilFunc, .nilFunc] := by unfold fRow; rw [if_neg hi7]
          have hd7 : decide (i < 7) = false := by simpa using hi7
          rw [hfr, hd7]
          have hnw : Below w2.heap.size w2 (w2.alloc (.cells #[.string { data := #[] }, .int .i64 0, .nilFunc, .nilFunc, .nilFunc, .nilFunc] 55)) := (Below.refl _ _).alloc (Nat.le_refl _) _
          clear hfr hd7
          rcases (show i = 7 ∨ i = 8 ∨ i = 9 by omega) with rfl | rfl | rfl
          · have hfbi : fb 7 = encB hi lo := by rw [← HFB.out]; rfl
            have hen := fun W => encode_any hi lo hhi hlo W
            have h16 := encB_16 hi lo
            obtain ⟨X3, hX3⟩ : ∃ X, encB hi lo = X := ⟨_, rfl⟩
            simp only [hX3] at hen
            rw [hX3] at hfbi h16
            obtain ⟨EL, hEL⟩ : ∃ L, X3.length = L := ⟨_, rfl⟩
            rw [hEL] at h16
            have HFBI := Lib.hid hfbi
            have HEN := Lib.hid hen
            have HEL := Lib.hid hEL
            have HNW := Lib.hid hnw
            have hle7 : le 7 = 84 := rfl
            rw [hle7]
            clear hfbi hen hX3 hEL hnw hle7 hi7 hi10
            go_wp2_with fail
            refine (HEN.out _).mono ?_
            rintro e w3 ⟨v3, rfl, hv3, hB3⟩
            have hb3 := HNW.out.trans (hB3.mono (by simp))
            have hsr : SR w3 v3 EL 1 (bcells X3) := by have := hv3.1; rw [HEL.out] at this; exact this
            have hown3 := own_below HOWN.out hb3
            have HBP3 := Lib.hid (HBP.out.below hb3)
            have HB4 := Lib.hid (HBr.out.trans (hb3.mono HBr.out.size))
            have HIT3 := Lib.hid (iter_below HIT.out hb3)
            have hBs4 := HB4.out.size
            clear hv3 hB3 hb3 HOWN HBP HIT HBr HNW y0 y1 y2 y3 y4 y5 y6 y7 y8 y9 yA yB hlW
            go_wp2_with (at_builtin; refine wpList_append_all rfl _ _ 26 rfl w.heap.size 5 i0 (.int .u8 0) 1 1 Try.underlying26 hii hz0 hz1 hz2 rfl (by decide) _ M _ rfl hown3 _ EL _ rfl hsr (by unfold maxLen; omega) (by omega) hBs4 ?_)
            intro v4 w4 hown4 hgrow _
            have hB5 : Below w.heap.size w w4 := HB4.out.grown hgrow hBs4 (fun j hj => (hown3.lt j hj).1)
            have hbP4 := HBP3.out.kept hgrow (HBP3.out.not_row (by decide) hown3)
            have hit4 := iter_grown HIT3.out hown3 hgrow
            have HFIN := Lib.hid (HEND.out _ EL v4 w4 HFBI.out HEL.out (by omega) hit4 hown4 hbP4 hB5)
            clear hgrow hown3 hB5 hbP4 hit4 hown4
            go_wp2
            exact HFIN.out
          · have hfbi : fb 8 = bs := by rw [← HFB.out]; rfl
            have hn512 := HVO.out (by have := HCON.out; exact this)
            have hb3 := hnw
            have hown3 := own_below HOWN.out hb3
            have HBP3 := Lib.hid (HBP.out.below hb3)
            have HB4 := Lib.hid (HBr.out.trans (hb3.mono HBr.out.size))
            have HIT3 := Lib.hid (iter_below HIT.out hb3)
            have hBs4 := HB4.out.size
            have hsr : SR (w2.alloc (.cells #[.string { data := #[] }, .int .i64 0, .nilFunc, .nilFunc, .nilFunc, .nilFunc] 55)) (.slice a1 n c) n 1 (bcells bs) := by have := (HVAL.out.below HB4.out).1; rw [HN.out] at this; exact this
            have HFBI := Lib.hid hfbi
            have hle8 : le 8 = 86 := rfl
            rw [hle8]
            clear hfbi hb3 hnw HOWN HBP HIT HBr hle8 hi7 hi10
            go_wp2_with (at_builtin; refine wpList_append_all rfl _ _ 26 rfl w.heap.size 5 i0 (.int .u8 0) 1 1 Try.underlying26 hii hz0 hz1 hz2 rfl (by decide) _ M _ rfl hown3 _ n _ rfl hsr (by unfold maxLen; omega) (by omega) hBs4 ?_)
            intro v4 w4 hown4 hgrow _
            have hB5 : Below w.heap.size w w4 := HB4.out.grown hgrow hBs4 (fun j hj => (hown3.lt j hj).1)
            have hbP4 := HBP3.out.kept hgrow (HBP3.out.not_row (by decide) hown3)
            have hit4 := iter_grown HIT3.out hown3 hgrow
            have HFIN := Lib.hid (HEND.out _ n v4 w4 HFBI.out HN.out (by omega) hit4 hown4 hbP4 hB5)
            clear hgrow hown3 hB5 hbP4 hit4 hown4
            go_wp2
            exact HFIN.out
          · have hfbi : fb 9 = elB ki its := by rw [← HFB.out]; rfl
            have hne := HIO.out (by have := HCON.out; exact this)
            have hm0 : 0 < m := by
              have := HITS.out.1
              cases its with
              | nil => exact absurd rfl hne
              | cons x l => simp at this; omega
            have hb3 := hnw
            have hit' := HITS.out.below (HBr.out.trans (hb3.mono HBr.out.size))
            have hel := elements_any ki ak ha la hi lo of mt co cm a1 a2 n c m d its _ hit' hm hm0 HBN.out
            have hw3 : w2.heap.size ≤ (w2.alloc (.cells #[.string { data := #[] }, .int .i64 0, .nilFunc, .nilFunc, .nilFunc, .nilFunc] 55)).heap.size := by simp
            have HFBI := Lib.hid hfbi
            have HELM := Lib.hid hel
            have HNW := Lib.hid hnw
            have hle9 : le 9 = 73 := rfl
            rw [hle9]
            clear hfbi hb3 hit' hel hnw hle9 hi7 hi10 hne
            go_wp2_with fail
            refine HELM.out.mono ?_
            rintro e w3 ⟨v3, rfl, hv3, helb, hB3⟩
            have hb3 := HNW.out.trans (hB3.mono hw3)
            obtain ⟨X3, hX3⟩ : ∃ X, elB ki its = X := ⟨_, rfl⟩
            rw [hX3] at hv3 helb
            obtain ⟨EL, hEL⟩ : ∃ L, X3.length = L := ⟨_, rfl⟩
            have hsr : SR w3 v3 EL 1 (bcells X3) := by have := hv3.1; rw [hEL] at this; exact this
            rw [hEL] at helb
            have HFBI2 : Hid (fb 9 = X3) := Lib.hid (by rw [HFBI.out, hX3])
            have HEL := Lib.hid hEL
            have hown3 := own_below HOWN.out hb3
            have HBP3 := Lib.hid (HBP.out.below hb3)
            have HB4 := Lib.hid (HBr.out.trans (hb3.mono HBr.out.size))
            have HIT3 := Lib.hid (iter_below HIT.out hb3)
            have hBs4 := HB4.out.size
            clear hv3 hB3 hb3 HOWN HBP HIT HBr HNW hX3 hEL hw3 HELM y0 y1 y2 y3 y4 y5 y6 y7 y8 y9 yA yB hlW
            go_wp2_with (at_builtin; refine wpList_append_all rfl _ _ 26 rfl w.heap.size 5 i0 (.int .u8 0) 1 1 Try.underlying26 hii hz0 hz1 hz2 rfl (by decide) _ M _ rfl hown3 _ EL _ rfl hsr (by unfold maxLen; omega) (by omega) hBs4 ?_)
            intro v4 w4 hown4 hgrow _
            have hB5 : Below w.heap.size w w4 := HB4.out.grown hgrow hBs4 (fun j hj => (hown3.lt j hj).1)
            have hbP4 := HBP3.out.kept hgrow (HBP3.out.not_row (by decide) hown3)
            have hit4 := iter_grown HIT3.out hown3 hgrow
            have HFIN := Lib.hid (HEND.out _ EL v4 w4 HFBI2.out HEL.out (by omega) hit4 hown4 hbP4 hB5)
            clear hgrow hown3 hB5 hbP4 hit4 hown4
            go_wp2
            exact HFIN.out
      · obtain rfl : U = k := by omega
        have hks : ¬ U < (strB u).size := by rw [hus]; exact hlt
        have hnx := fun ty => Lib.run_next_end_at (P := Try.prog) wr kb (strB u) U ty hit hks
        have hkm : U * 1000200000 ≤ 3 * 1000200000 := Nat.mul_le_mul_right _ hul
        have hby := bytesAt_of_own hown rfl HFLT.out (by rw [List.length_cons]; omega)
        have hcap := own_cap hown
        clear hkm hfk hown hbP hit hks
        go_wp2
        go_ret2
        exact ⟨_, rfl, hby, hBr, hcap⟩
  · rw [if_neg hc0]
    have t1 : (CK != 0) = true := by simpa using hc0
    have HB := Lib.hid hB
    clear hgi hio hvo hunk hck hc0 hits hbn hval
    go_enter Try.func14, Try.ntmps14
    go_upto_region 1 with fail
    generalize hV : World.alloc _ _ = V at bP0 HB ⊢
    clear hV
    have TO := bP0.cells
    have hOpen := TO
    simp only [Cells, blk, List.cons_append, List.nil_append, and_true, Nat.reduceAdd, Nat.add_zero, Nat.zero_add] at hOpen
    obtain ⟨y0, y1, y2, y3, y4, y5, y6, y7, y8, y9, yA, yB⟩ := hOpen
    clear TO hB
    go_wp2_with fail
    refine (HCK.out _ HB.out).mono ?_
    rintro e w1 ⟨rfl, hB1⟩
    have hBf := HB.out.trans (hB1.mono HB.out.size)
    clear hB1
    go_wp2
    go_ret2
    exact ⟨_, rfl, ⟨⟨Nat.zero_le _, rfl, by simp [bcells], none, 0, rfl, fun _ => ⟨rfl, rfl⟩, fun h => absurd h (by simp)⟩, Nat.zero_le _, by simp⟩, hBf, ⟨none, 0, 0, rfl, Nat.le_refl _⟩⟩
theorem aencode_any (ki ak : Int) (ha la hi lo : Nat) (of mt co : Int) (cm : Bool) (a1 a2 : Option Addr) (n c m d : Nat) (bs : List Nat) (its : List It) (w : World) (hval : BytesAt w (.slice a1 n c) bs) (hn : bs.length = n) (hits : Items w (.slice a2 m d) m its) (hm : m ≤ 1000) (hbn : ∀ t ∈ its, t.n ≤ 1000000)
    (hha : ha < 65536) (hla : la < 65536) (hhi : hi < 18446744073709551616) (hlo : lo < 18446744073709551616) :
    Calls Try.prog 14 #[.agg #[.int .i64 ki, .int .i64 ak, .int .u16 ha, .int .u16 la, .int .u64 hi, .int .u64 lo, .int .i64 of, .int .i64 mt, .int .i64 co, .bool cm, .slice a1 n c, .slice a2 m d]] w fun e w' => ∃ v, e = .returned (.tuple #[v, .int .i64 (chkP ki ak ha la hi lo of mt co cm n m its)]) ∧ BytesAt w' v (if chkP ki ak ha la hi lo of mt co cm n m its = 0 then encP ki ak ha la hi lo of mt co cm bs its else []) ∧ Below w.heap.size w w' := by
  refine (aencode_cap ki ak ha la hi lo of mt co cm a1 a2 n c m d bs its w hval hn hits hm hbn hha hla hhi hlo).mono ?_
  rintro e w' ⟨v, h1, h2, h3, _⟩
  exact ⟨v, h1, h2, h3⟩
end Go.Proofs.Ythnffdlnhfhabaa
