/- octets.Put; parts of Take. -/
import Derived.Test.YtccknpdnapoboaaDoorCpG
import Derived.Test.YtccknpdnapoboaaDoorCpV
namespace Go.Proofs.YtccknpdnapoboaaDoor
open Go.RowKit

theorem Blk.not_row {W : World} {B : Nat} {t e : TypeId} {cs : List Value} (h : Blk W B t cs) (hte : t ≠ e) {base size k : Nat} {v : Value} {xs : List Value} (hr : W.ownsRow base e size v k xs) : some B ≠ v.ownBlock := by
  rcases hr.2 with ⟨rfl, _⟩ | ⟨g, cap, cur, rfl, _, hgb, _⟩
  · simp [Value.ownBlock]
  · intro e'
    obtain rfl : B = g := by simpa [Value.ownBlock] using e'
    have := (show W.heap[B]? = _ from h).symm.trans hgb
    simp at this
    exact hte this.2
theorem sized_any (n : Nat) (h1 : 1 ≤ n) (h2 : n ≤ 8) (w : World) : Calls Tryd.prog 51 #[.int .i64 n] w fun e w' => e = .returned (.bool true) ∧ w = w' := by
  have t1 : decide (1 ≤ n) = true := by simpa using h1
  have t2 : decide (n ≤ 8) = true := by simpa using h2
  have t3 : decide ((n : Int) ≤ 8) = true := by simp; omega
  go_enter Tryd.func51, Tryd.ntmps51
  go_wp2
  go_ret
  exact ⟨rfl, rfl⟩
/-- the cells of fields -/
def fdc : List (Nat × Nat) → List Value
  | [] => []
  | f :: l => .int .i64 (f.1 : Nat) :: .int .u64 (f.2 : Nat) :: fdc l
theorem fdc_len : ∀ l, (fdc l).length = l.length * 2
  | [] => rfl
  | _ :: l => by simp [fdc, fdc_len l]; omega
theorem fdc_one (l : List (Nat × Nat)) : ∀ u ∈ fdc l, u.oneCell' = true := by
  induction l with
  | nil => simp [fdc]
  | cons t l ih => simpa [fdc, Value.oneCell'] using ih
theorem fdc_get : ∀ (l : List (Nat × Nat)) (j : Nat) (h : j < l.length), (fdc l)[j * 2]? = some (.int .i64 (l[j].1 : Nat)) ∧ (fdc l)[j * 2 + 1]? = some (.int .u64 (l[j].2 : Nat))
  | t :: l, 0, _ => by simp [fdc]
  | t :: l, j+1, h => by
    have := fdc_get l j (by simpa using h)
    rw [show (j + 1) * 2 = j * 2 + 2 by omega]
    simpa [fdc] using this
/-- the bytes of fields -/
def fdb (l : List (Nat × Nat)) : List Nat := l.flatMap fun f => putB f.2 f.1
theorem fdb_succ (l : List (Nat × Nat)) (k : Nat) (h : k < l.length) : fdb (l.take (k + 1)) = fdb (l.take k) ++ putB l[k].2 l[k].1 := by
  unfold fdb
  rw [List.take_succ_eq_append_getElem h, List.flatMap_append]
  simp
theorem fdb_len (l : List (Nat × Nat)) (h : ∀ f ∈ l, f.1 ≤ 8) : (fdb l).length ≤ 8 * l.length := by
  induction l with
  | nil => simp [fdb]
  | cons f l ih =>
    have := ih fun g hg => h g (by simp [hg])
    have h1 := h f (by simp)
    unfold fdb at this ⊢
    rw [List.flatMap_cons, List.length_append, putB_len, List.length_cons]
    omega
theorem byt_int (V j : Nat) : (V : Int) / 2 ^ (8 * j) % 256 = ((byt V j : Nat) : Int) := by
  unfold byt
  rw [show (256 : Nat) ^ j = 2 ^ (8 * j) by rw [Nat.pow_mul]]
  simp
theorem shr_zero (V S : Nat) (h : V < 256 ^ S) : (V : Int) / 2 ^ (8 * (S : Int)).toNat = 0 := by
  have e : (8 * (S : Int)).toNat = 8 * S := by omega
  rw [e]
  have e2 : (256 : Nat) ^ S = 2 ^ (8 * S) := by rw [Nat.pow_mul]
  rw [e2] at h
  have e3 : ((V : Int) / 2 ^ (8 * S)) = ((V / 2 ^ (8 * S) : Nat) : Int) := by simp
  rw [e3, Nat.div_eq_of_lt h]
  rfl
set_option linter.unusedSimpArgs false in
set_option linter.unusedVariables false in
set_option maxRecDepth 100000 in
set_option maxHeartbeats 4000000 in
theorem oput_any (v : Value) (fs : List (Nat × Nat)) (w : World) (h : SR w v fs.length 2 (fdc fs)) (hf : ∀ f ∈ fs, 1 ≤ f.1 ∧ f.1 ≤ 8 ∧ f.2 < 256 ^ f.1) (hm : fs.length ≤ 1000) :
    Calls Tryd.prog 29 #[v] w fun e w' => ∃ v', e = .returned (.tuple #[v', .int .i64 0]) ∧ w'.ownsRow w.heap.size 5 1 v' (fdb fs).length (bcells (fdb fs)) ∧ Below w.heap.size w w' := by
  obtain ⟨i0, hi, hz0, hz1, hz2⟩ := info_parts Tryd.info_u8
  obtain ⟨_, _, _, ao, cap, rfl, _, hcell⟩ := h
  obtain ⟨n, hnn⟩ : ∃ n, fs.length = n := ⟨_, rfl⟩
  have HN := Lib.hid hnn
  have HC := Lib.hid hcell
  have HF := Lib.hid hf
  rw [hnn] at hm ⊢
  clear hcell hf hnn
  go_enter Tryd.func29, Tryd.ntmps29
  go_wp2
  go_loopw [4, 6, 7, 10, 34] (fun v _ _ i _ wr => ∃ k : Nat, i = .int .i64 k ∧ k ≤ n ∧ wr.ownsRow w.heap.size 5 1 v (fdb (fs.take k)).length (bcells (fdb (fs.take k))) ∧ Below w.heap.size w wr) (fun _ _ _ i _ _ => n - (intOf i).toNat)
  case atStart => exact ⟨0, by simp, Nat.zero_le _, by simpa [fdb, bcells] using World.ownsRow_nil w w.heap.size 5 1, Below.refl _ _⟩
  case round =>
    obtain ⟨k, rfl, hk, hown, hB⟩ := hrel
    by_cases hlt : k < n
    · have g1 : decide (k < n) = true := by simpa using hlt
      have hkl : k < fs.length := by rw [HN.out]; exact hlt
      obtain ⟨b, off, rfl, hb, hcell⟩ := HC.out (by rw [HN.out]; omega)
      obtain ⟨c1, c2⟩ := fdc_get fs k hkl
      have d1 := (hB.cell (p := ⟨b, off + k * 2, none⟩) hb).trans (hcell _ _ c1)
      have d2 := (hB.cell (p := ⟨b, off + k * 2 + 1, none⟩) hb).trans (hcell _ _ c2)
      obtain ⟨hS1, hS8, hV⟩ := HF.out _ (List.getElem_mem hkl)
      have hst := fdb_succ fs k hkl
      have hle := fdb_len (fs.take k) (fun f hf => (HF.out f (List.mem_of_mem_take hf)).2.1)
      rw [List.length_take, Nat.min_eq_left (Nat.le_of_lt hkl)] at hle
      obtain ⟨⟨S, V⟩, hx⟩ : ∃ p, fs[k] = p := ⟨_, rfl⟩
      rw [hx] at d1 d2 hst hS1 hS8 hV
      simp only at d1 d2 hst hS1 hS8 hV
      obtain ⟨J, hJ⟩ : ∃ J, fdb (fs.take k) = J := ⟨_, rfl⟩
      obtain ⟨m, hm'⟩ : ∃ m, J.length = m := ⟨_, rfl⟩
      rw [hJ] at hst hown hle
      rw [hm'] at hown hle
      have hz := shr_zero V S hV
      have hV64 : V < 18446744073709551616 := by
        have : 256 ^ S ≤ 256 ^ 8 := Nat.pow_le_pow_right (by decide) hS8
        omega
      have HST := Lib.hid hst
      have HM := Lib.hid hm'
      have HV := Lib.hid hV
      have HZ := Lib.hid hz
      have HV64 := Lib.hid hV64
      clear hst hJ hm' hx c1 c2 hcell hV hz hV64
      have w1 : IntKind.i64.wrap ((k : Int) + 1) = (k : Int) + 1 := IntWalk.i64_in _ (by omega)
      have w8 : IntKind.i64.wrap (8 * (S : Int)) = 8 * (S : Int) := IntWalk.i64_in _ (by omega)
      have s8 : (0 : Int) ≤ 8 * (S : Int) := by omega
      have hsz := fun W => sized_any S hS1 hS8 W
      have bF := Blk.new wr 61 [.int .i64 S, .int .u64 V]
      have bf0 := bF.frozen 0
      have bf1 := bF.frozen 1
      have HOWN := Lib.hid (hown.alloc (.cells #[.int .i64 S, .int .u64 V] 61))
      have HBF := Lib.hid bF
      have HB1 := Lib.hid (hB.alloc hB.size (.cells #[.int .i64 S, .int .u64 V] 61))
      have hBs := hB.size
      have REST : Hid (∀ (X : World) (v2 : Value), X.ownsRow w.heap.size 5 1 v2 (m + S) (bcells (J ++ putB V S)) → Below w.heap.size w X → ∃ k2 : Nat, Value.int .i64 ((k : Int) + 1) = .int .i64 k2 ∧ k2 ≤ n ∧ X.ownsRow w.heap.size 5 1 v2 (fdb (fs.take k2)).length (bcells (fdb (fs.take k2))) ∧ Below w.heap.size w X) :=
        Lib.hid fun X v2 h1 h2 => ⟨k + 1, by simp, hlt, by rw [HST.out, List.length_append, HM.out, putB_len]; exact h1, h2⟩
      clear bF hown hB HST HM
      by_cases h8 : S < 8
      all_goals
        first
        | (have u1 : decide (S < 8) = true := by simpa using h8
           have u2 : decide ((S : Int) < 8) = true := by simp; omega
           have u3 := HZ.out)
        | (have u1 : decide (S < 8) = false := by simpa using h8
           have u2 : decide ((S : Int) < 8) = false := by simp; omega)
        go_wp2_with (go_at_call 51; refine (hsz _).mono ?_; rintro e w' ⟨rfl, rfl⟩)
        try clear u3
        clear d1 d2 h8 u1 u2
        generalize hX : World.alloc _ _ = X at HOWN HBF HB1 ⊢
        have hXs : wr.heap.size < X.heap.size := by rw [← hX]; simp
        clear hX
        obtain ⟨wf, rfl⟩ : ∃ wf : World, wf = wr := ⟨_, rfl⟩
        go_loopw [4, 7, 34] (fun v _ i wx => ∃ j : Nat, i = .int .i64 j ∧ j ≤ S ∧ wx.ownsRow w.heap.size 5 1 v (m + j) (bcells (J ++ putB V j)) ∧ Below w.heap.size w wx ∧ Blk wx wf.heap.size 61 [.int .i64 S, .int .u64 V]) (fun _ _ i _ => S - (intOf i).toNat)
        case atStart => exact ⟨0, by simp, Nat.zero_le _, by simpa [putB] using HOWN.out, HB1.out, HBF.out⟩
        case round =>
          obtain ⟨j, rfl, hj, hown, hB, hblk⟩ := hrel
          by_cases hjl : j < S
          · have g2 : decide (j < S) = true := by simpa using hjl
            have g2' : decide ((j : Int) < (S : Int)) = true := by simp; omega
            have q0 := hblk.cell (j := 0) rfl
            have q1 := hblk.cell (j := 1) rfl
            have w8 : IntKind.i64.wrap (8 * (j : Int)) = 8 * (j : Int) := IntWalk.i64_in _ (by omega)
            have s8 : (0 : Int) ≤ 8 * (j : Int) := by omega
            have w2 : IntKind.i64.wrap ((j : Int) + 1) = (j : Int) + 1 := IntWalk.i64_in _ (by omega)
            have hby := byt_int V j
            have hlt256 := byt_lt V j
            have hps := putB_succ V j
            obtain ⟨B, hBB⟩ : ∃ B, byt V j = B := ⟨_, rfl⟩
            rw [hBB] at hby hlt256 hps
            have HPS := Lib.hid hps
            have HBLK := Lib.hid hblk
            clear hps hBB hblk
            go_wp2_with (at_builtin; refine wpList_append_own _ rfl _ _ 25 rfl w.heap.size 5 i0 (.int .u8 0) 1 1 Tryd.underlying25 hi hz0 hz1 hz2 rfl (by decide) _ _ _ rfl (hown.alloc _) ⟨wr.heap.size, 0, none⟩ 1 1 [.int .u8 (B : Int)] rfl rfl (cell_one_new _ _ _) (by simp [Value.oneCell']) (by unfold maxLen; omega) (by omega) (by have := hB.size; simp; omega) ?_)
            intro v' w3 hown' hgrow _
            have hB3 : Below w.heap.size w w3 := (hB.alloc hB.size _).grown hgrow (by have := hB.size; simp; omega) (fun j hj => (hown.lt j hj).1)
            have hbl3 : Hid (Blk w3 wf.heap.size 61 [.int .i64 S, .int .u64 V]) := Lib.hid ((HBLK.out.alloc _).kept hgrow (HBLK.out.not_row (by decide) hown))
            have HR : Hid (∃ j2 : Nat, Value.int .i64 ((j : Int) + 1) = .int .i64 j2 ∧ j2 ≤ S ∧ w3.ownsRow w.heap.size 5 1 v' (m + j2) (bcells (J ++ putB V j2)) ∧ Below w.heap.size w w3 ∧ Blk w3 wf.heap.size 61 [.int .i64 S, .int .u64 V]) :=
              Lib.hid ⟨j + 1, by simp, hjl, by rw [HPS.out]; simpa [bcells, Nat.add_assoc] using hown', hB3, hbl3.out⟩
            clear hown hown' hgrow hB hB3 hbl3 HBLK
            go_wp2
            refine ⟨HR.out, ?_⟩
            simp [intOf]
            omega
          · have g2 : decide (j < S) = false := by simpa using hjl
            have g2' : decide ((j : Int) < (S : Int)) = false := by simp; omega
            obtain rfl : j = S := by omega
            have HREL := Lib.hid (REST.out _ _ hown hB)
            clear hown hB hblk REST
            go_wp2
            refine ⟨HREL.out, ?_⟩
            simp [intOf]
            omega
    · have g1 : decide (k < n) = false := by simpa using hlt
      obtain rfl : k = n := by omega
      go_wp2
      refine bodyPost_ret (by simp [results, Tryd.results29, go_sem] <;> rfl) rfl ?_
      refine ⟨_, rfl, ?_, hB⟩
      rw [List.take_of_length_le (by rw [HN.out]; exact Nat.le_refl _)] at hown
      exact hown

/-! ### Take -/
theorem addr_off (b o k : Nat) : ((⟨b, o, none⟩ : Addr).add k) = ⟨b, o + k, none⟩ := by unfold Addr.add; split <;> simp_all
/-- what 's[k:]' hands back -/
theorem bytes_from (w : World) (a : Option Addr) (n c k : Nat) (bs : List Nat) (h : BytesAt w (.slice a n c) bs) (hn : bs.length = n) (hc : n ≤ c) (hk : k ≤ n) :
    ∃ a' c', BytesAt w (.slice a' (n - k) c') (bs.drop k) ∧ n - k ≤ c' ∧ ∀ W, (Instr.slice 25 (.slice a n c) (some (.int .i64 k)) none none).run Tryd.prog W = .ok (.slice a' (n - k) c') W := by
  obtain ⟨⟨h1, h2, h3, ao, cap, e, hnil, hcell⟩, hr, hlt⟩ := h
  rw [hn] at h1 h2 hnil hcell e hr
  cases e
  have hl : (bs.drop k).length = n - k := by simp [hn]
  have hbc : bcells (bs.drop k) = (bcells bs).drop k := by simp [bcells, List.map_drop]
  refine ⟨if c = k then a else a.map (·.add k), c - k, ⟨⟨by rw [hl]; omega, by rw [hl, bcells_len, hl]; omega, bcells_one _, _, _, by rw [hl], ?_, ?_⟩, by rw [hl]; omega, fun x hx => hlt x (List.mem_of_mem_drop hx)⟩, by omega, fun W => ?_⟩
  · intro e
    have ha : a = none := by
      by_cases hck : c = k
      · rw [if_pos hck] at e; exact e
      · rw [if_neg hck] at e; simpa using e
    obtain ⟨h01, h02⟩ := hnil ha
    rw [hl]
    omega
  · intro h0
    rw [hl] at h0
    obtain ⟨b, off, rfl, hb, hcs⟩ := hcell (by omega)
    rw [if_neg (by omega)]
    refine ⟨b, off + k, by simp [addr_off], hb, fun j u hj => ?_⟩
    rw [hbc, List.getElem?_drop] at hj
    rw [Nat.add_assoc]
    exact hcs (k + j) u hj
  · have hu : Tryd.prog.underlying 25 = some (.slice (Tryd.prog.elem 25)) := by kernel_rfl
    rw [run_slice_l (ht := hu) (kl := .i64) (l := (k : Int)) (h0 := by omega) (h1 := by omega)]
    have hs : (sizeOf (Tryd.prog.elem 25)).run Tryd.prog W = .ok 1 W := by kernel_rfl
    rw [hs]
    simp [Result.andThen, sliced]
/-- the numbers of the given sizes -/
def tk : List Nat → List Nat → List Nat
  | [], _ => []
  | s :: ss, bs => vnum (bs.take s) :: tk ss (bs.drop s)
theorem tk_snoc (s : Nat) : ∀ (ss bs : List Nat), tk (ss ++ [s]) bs = tk ss bs ++ [vnum ((bs.drop ss.sum).take s)]
  | [], bs => by simp [tk]
  | x :: ss, bs => by
    rw [List.cons_append, tk, tk_snoc s ss, tk, List.cons_append, List.drop_drop, List.sum_cons]
theorem tk_len : ∀ (ss bs : List Nat), (tk ss bs).length = ss.length
  | [], _ => rfl
  | _ :: ss, bs => by simp [tk, tk_len ss]
def ncells (l : List Nat) : List Value := l.map fun x => .int .u64 (x : Nat)
def icells (l : List Nat) : List Value := l.map fun x => .int .i64 (x : Nat)
theorem sum_take_succ (ss : List Nat) (k : Nat) (h : k < ss.length) : (ss.take (k + 1)).sum = (ss.take k).sum + ss[k] := by
  rw [List.take_succ_eq_append_getElem h, List.sum_append]
  simp
theorem sum_take_le (ss : List Nat) (k : Nat) : (ss.take k).sum ≤ ss.sum := by
  have h := congrArg List.sum (List.take_append_drop k ss)
  rw [List.sum_append] at h
  omega
theorem sum_bd (ss : List Nat) (h : ∀ s ∈ ss, s ≤ 8) : ss.sum ≤ 8 * ss.length := by
  induction ss with
  | nil => simp
  | cons x l ih =>
    have h1 := h x (by simp)
    have h2 := ih fun y hy => h y (by simp [hy])
    simp only [List.sum_cons, List.length_cons]
    omega
theorem Tryd.info_u64 : (Tryd.prog.info? 59).map (fun i => (i.zero, i.size, i.bytes)) = some (some (.int .u64 0), 1, 8) := by kernel_rfl
end Go.Proofs.YtccknpdnapoboaaDoor
