/- octets.Unhex. -/
import Derived.Test.YtolkjijnodejlaaDoorUuO
namespace Go.Proofs.YtolkjijnodejlaaDoor
open Go.RowKit

/-- the bytes of digits -/
def unhexL : List Nat → Option (List Nat)
  | [] => some []
  | [_] => none
  | a :: b :: l => match nib a, nib b with
    | some x, some y => (unhexL l).map fun r => (x * 16 + y) :: r
    | _, _ => none
theorem unhexL_cons {a b x y : Nat} {l : List Nat} (ha : nib a = some x) (hb : nib b = some y) : unhexL (a :: b :: l) = (unhexL l).map fun r => (x * 16 + y) :: r := by
  rw [unhexL, ha, hb]
theorem unhexL_len : ∀ (l bs : List Nat), unhexL l = some bs → l.length = 2 * bs.length
  | [], bs, h => by simp [unhexL] at h; subst h; rfl
  | [_], bs, h => by simp [unhexL] at h
  | a :: b :: l, bs, h => by
    unfold unhexL at h
    cases ha : nib a with
    | none => simp [ha] at h
    | some x =>
      cases hb : nib b with
      | none => simp [ha, hb] at h
      | some y =>
        simp only [ha, hb, Option.map_eq_some_iff] at h
        obtain ⟨r, h1, rfl⟩ := h
        have := unhexL_len l r h1
        simp only [List.length_cons]
        omega
theorem unhexL_odd (l : List Nat) (h : l.length % 2 = 1) : unhexL l = none := by
  cases hu : unhexL l with
  | none => rfl
  | some bs => have := unhexL_len l bs hu; omega
theorem unhexL_lt : ∀ (l bs : List Nat), unhexL l = some bs → ∀ x ∈ bs, x < 256
  | [], bs, h, x, hx => by simp [unhexL] at h; subst h; simp at hx
  | [_], bs, h, x, hx => by simp [unhexL] at h
  | a :: b :: l, bs, h, z, hz => by
    unfold unhexL at h
    cases ha : nib a with
    | none => simp [ha] at h
    | some x =>
      cases hb : nib b with
      | none => simp [ha, hb] at h
      | some y =>
        simp only [ha, hb, Option.map_eq_some_iff] at h
        obtain ⟨r, h1, rfl⟩ := h
        have h3 := (dig_nib a x ha).1
        have h4 := (dig_nib b y hb).1
        simp only [List.mem_cons] at hz
        rcases hz with rfl | hz
        · omega
        · exact unhexL_lt l r h1 z hz
theorem or_nib (x y : Nat) (hx : x < 16) (hy : y < 16) : bits .or .u8 ((x : Int) * 16) (y : Int) = ((x * 16 + y : Nat) : Int) := by
  have e : ((x : Int) * 16) = ((x * 16 : Nat) : Int) := by simp
  rw [e, u8_or_nat _ _ (by omega) (by omega)]
  have : x * 16 ||| y = x * 16 + y := by
    rw [show x * 16 = x <<< 4 by rw [Nat.shiftLeft_eq]]
    exact (Nat.shiftLeft_add_eq_or_of_lt (by simpa using hy) _).symm
  rw [this]
/-- how Unhex ends -/
def UnhexP (w : World) (ss : List Nat) (e : Ending) (w' : World) : Prop :=
  (unhexL ss = none ∧ e = .returned (.tuple #[.slice none 0 0, .int .i64 2]) ∧ Below w.heap.size w w') ∨
  (∃ bs v, unhexL ss = some bs ∧ e = .returned (.tuple #[v, .int .i64 0]) ∧ w'.ownsRow w.heap.size 5 1 v bs.length (bcells bs) ∧ Below w.heap.size w w')
set_option linter.unusedSimpArgs false in
set_option linter.unusedVariables false in
set_option maxRecDepth 100000 in
set_option maxHeartbeats 2000000 in
theorem unhex_any (ss : List Nat) (hb : ∀ x ∈ ss, x < 256) (w : World) (hm : ss.length ≤ 100000) :
    Calls Tryd.prog 26 #[.string (strB ss)] w (UnhexP w ss) := by
  obtain ⟨i0, hi0, hz0, hz1, hz2⟩ := info_parts Tryd.info_u8
  have hs := strB_size ss
  obtain ⟨n, hn⟩ : ∃ n, ss.length = n := ⟨_, rfl⟩
  rw [hn] at hs hm
  have HN := Lib.hid hn
  have HB := Lib.hid hb
  clear hn hb
  by_cases hodd : n % 2 = 1
  · have q1 : (((n : Int) % 2) != 0) = true := by simp; omega
    have q2 : (((n : Int) % 2) == 0) = false := by simp; omega
    have hno := unhexL_odd ss (by rw [HN.out]; exact hodd)
    have HNO := Lib.hid hno
    clear hno hodd
    go_enter Tryd.func26, Tryd.ntmps26
    go_wp2
    refine bodyPost_ret (v := .tuple #[.slice none 0 0, .int .i64 2]) (by simp [results, Tryd.results26, go_sem] <;> rfl) rfl ?_
    exact .inl ⟨HNO.out, rfl, Below.refl _ _⟩
  have q1 : (((n : Int) % 2) != 0) = false := by simp; omega
  have q2 : (((n : Int) % 2) == 0) = true := by simp; omega
  go_enter Tryd.func26, Tryd.ntmps26
  go_wp2
  go_loopw [4, 5, 6, 7, 8, 9] (fun v i _ _ _ _ wr => ∃ (k : Nat) (o : List Nat), i = .int .i64 ((2 * k : Nat) : Int) ∧ 2 * k ≤ n ∧ o.length = k ∧ Hid (unhexL ss = (unhexL (ss.drop (2 * k))).map (o ++ ·)) ∧ wr.ownsRow w.heap.size 5 1 v k (bcells o) ∧ Below w.heap.size w wr) (fun _ i _ _ _ _ _ => n - (intOf i).toNat)
  case atStart => exact ⟨0, [], by simp, by omega, rfl, Lib.hid (by simp), World.ownsRow_nil _ _ _ _, Below.refl _ _⟩
  case round =>
    obtain ⟨k, o, rfl, hk, hol, hun, hown, hB⟩ := hrel
    by_cases hlt : 2 * k < n
    · have g1 : decide (2 * k < n) = true := by simpa using hlt
      have h0 : 2 * k < ss.length := by rw [HN.out]; exact hlt
      have h1 : 2 * k + 1 < ss.length := by rw [HN.out]; omega
      have hd : ss.drop (2 * k) = ss[2 * k] :: ss[2 * k + 1] :: ss.drop (2 * (k + 1)) := by
        rw [List.drop_eq_getElem_cons h0, List.drop_eq_getElem_cons h1, show 2 * (k + 1) = 2 * k + 1 + 1 by omega]
      have r1 := fun W => run_idx_str ss HB.out (2 * k) h0 W
      have r2 := fun W => run_idx_str ss HB.out (2 * k + 1) h1 W
      obtain ⟨a, ha⟩ : ∃ a, ss[2 * k] = a := ⟨_, rfl⟩
      obtain ⟨b, hb⟩ : ∃ a, ss[2 * k + 1] = a := ⟨_, rfl⟩
      simp only [ha] at r1
      simp only [hb] at r2
      rw [ha, hb] at hd
      have hun2 := hun.out
      rw [hd] at hun2
      have hkb : k ≤ 100000 := by omega
      obtain ⟨I, hI⟩ : ∃ I : Nat, 2 * k = I := ⟨_, rfl⟩
      have HI := Lib.hid hI
      have HOL := Lib.hid hol
      rw [hI] at r1 r2 hk hlt g1 ⊢
      have e1 : ((I + 1 : Nat) : Int) = (I : Int) + 1 := by simp
      rw [e1] at r2
      have w1 : IntKind.i64.wrap ((I : Int) + 1) = (I : Int) + 1 := IntWalk.i64_in _ (by omega)
      have w2 : IntKind.i64.wrap ((I : Int) + 2) = (I : Int) + 2 := IntWalk.i64_in _ (by omega)
      have i1 : (I : Int) < (n : Int) := by omega
      have HU := Lib.hid hun2
      clear hun2 hun hI hol h0 h1 hd ha hb e1
      have na := fun W => nibble_any a W
      have nb := fun W => nibble_any b W
      have NA := Lib.hid na
      have NB := Lib.hid nb
      clear na nb
      cases hna : nib a with
      | none =>
        have hfin : unhexL ss = none := by rw [HU.out]; unfold unhexL; rw [hna]; rfl
        have HF := Lib.hid hfin
        have na := NA.out
        simp only [hna, Option.getD_none, Option.isSome_none] at na
        have NA := Lib.hid na
        have nb := NB.out
        generalize (nib b).isSome = q at nb
        generalize (nib b).getD 0 = p at nb
        have NB := Lib.hid nb
        clear na nb hfin hna HU
        go_wp2_with fail
        go_at_call 37
        refine (NA.out _).mono ?_
        rintro e w' ⟨rfl, rfl⟩
        go_wp2_with fail
        go_at_call 37
        refine (NB.out _).mono ?_
        rintro e w' ⟨rfl, rfl⟩
        go_wp2
        refine bodyPost_ret (v := .tuple #[.slice none 0 0, .int .i64 2]) (by simp [results, Tryd.results26, go_sem] <;> rfl) rfl ?_
        exact .inl ⟨HF.out, rfl, hB⟩
      | some x =>
        have hx := (dig_nib a x hna).1
        have na := NA.out
        simp only [hna, Option.getD_some, Option.isSome_some] at na
        have NA := Lib.hid na
        cases hnb : nib b with
        | none =>
          have hfin : unhexL ss = none := by rw [HU.out]; unfold unhexL; rw [hna, hnb]; rfl
          have HF := Lib.hid hfin
          have nb := NB.out
          simp only [hnb, Option.getD_none, Option.isSome_none] at nb
          have NB := Lib.hid nb
          clear na nb hfin hna hnb HU
          go_wp2_with fail
          go_at_call 37
          refine (NA.out _).mono ?_
          rintro e w' ⟨rfl, rfl⟩
          go_wp2_with fail
          go_at_call 37
          refine (NB.out _).mono ?_
          rintro e w' ⟨rfl, rfl⟩
          go_wp2
          refine bodyPost_ret (v := .tuple #[.slice none 0 0, .int .i64 2]) (by simp [results, Tryd.results26, go_sem] <;> rfl) rfl ?_
          exact .inl ⟨HF.out, rfl, hB⟩
        | some y =>
          have hy := (dig_nib b y hnb).1
          have nb := NB.out
          simp only [hnb, Option.getD_some, Option.isSome_some] at nb
          have NB := Lib.hid nb
          have hstep : unhexL ss = (unhexL (ss.drop (2 * (k + 1)))).map ((o ++ [x * 16 + y]) ++ ·) := by
            rw [HU.out]
            rw [unhexL_cons hna hnb, Option.map_map]
            congr 1
            funext r
            simp
          have HS := Lib.hid hstep
          have ho := or_nib x y hx hy
          have p1 : IntKind.u8.wrap ((x : Int) * 16) = (x : Int) * 16 := IntWalk.u8_in _ (by omega)
          have HO := Lib.hid ho
          clear na nb hna hnb HU hstep ho
          go_wp2_with fail
          go_at_call 37
          refine (NA.out _).mono ?_
          rintro e w' ⟨rfl, rfl⟩
          go_wp2_with fail
          go_at_call 37
          refine (NB.out _).mono ?_
          rintro e w' ⟨rfl, rfl⟩
          have ho := HO.out
          go_wp2_with (at_builtin; refine wpList_append_own _ rfl _ _ 36 rfl w.heap.size 5 i0 (.int .u8 0) 1 1 Tryd.underlying36 hi0 hz0 hz1 hz2 rfl (by decide) _ _ _ rfl (hown.alloc _) ⟨wr.heap.size, 0, none⟩ 1 1 [.int .u8 ((x : Int) * 16 + (y : Int))] rfl rfl (cell_one_new _ _ _) (by simp [Value.oneCell']) (by unfold maxLen; omega) (by omega) (by have := hB.size; simp; omega) ?_)
          intro v' w2 hown' hgrow _
          obtain ⟨g', c', rfl⟩ := ownsRow_succ hown'
          have hB1 : Below w.heap.size w w2 := (hB.alloc hB.size _).grown hgrow (by have := hB.size; simp; omega) (fun j hj => (hown.lt j hj).1)
          have HR : Hid (∃ (k2 : Nat) (o2 : List Nat), Value.int .i64 ((I : Int) + 2) = .int .i64 ((2 * k2 : Nat) : Int) ∧ 2 * k2 ≤ n ∧ o2.length = k2 ∧ Hid (unhexL ss = (unhexL (ss.drop (2 * k2))).map (o2 ++ ·)) ∧ w2.ownsRow w.heap.size 5 1 (.slice (some ⟨g', 0, none⟩) (k + 1) c') k2 (bcells o2) ∧ Below w.heap.size w w2) :=
            Lib.hid ⟨k + 1, o ++ [x * 16 + y], by have := HI.out; congr 1; omega, by have := HI.out; omega, by simp [HOL.out], HS, by simpa [bcells] using hown', hB1⟩
          clear hown hgrow hB hown' hB1 ho
          go_wp2
          refine ⟨HR.out, ?_⟩
          simp [intOf]
          omega
    · have g1 : decide (2 * k < n) = false := by simpa using hlt
      have hke : 2 * k = n := by omega
      have hfin : unhexL ss = some o := by
        rw [hun.out, List.drop_eq_nil_of_le (by rw [HN.out]; omega)]
        simp [unhexL]
      have HF := Lib.hid hfin
      have HOL := Lib.hid hol
      have HOWN := Lib.hid hown
      clear hfin hol hun hke hown
      go_wp2
      refine bodyPost_ret (by simp [results, Tryd.results26, go_sem] <;> rfl) rfl ?_
      exact .inr ⟨o, _, HF.out, rfl, by rw [HOL.out]; exact HOWN.out, hB⟩
end Go.Proofs.YtolkjijnodejlaaDoor
