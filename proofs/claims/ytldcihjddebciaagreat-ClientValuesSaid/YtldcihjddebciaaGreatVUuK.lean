/- uuid: Num of the references; octets.Join. And what follows it. -/
import Derived.Test.YtldcihjddebciaaGreatVUuE
set_option linter.unusedSimpArgs false
set_option linter.unusedVariables false
set_option maxRecDepth 100000
set_option maxHeartbeats 4000000
namespace Go.Proofs.YtldcihjddebciaaGreat
open Go.RowKit
/-- the number of bytes, the least significant first -/
def vnum : List Nat → Nat
 |[] => 0
 |b :: l => vnum l * 256 + b
theorem vnum_lt : ∀ (l : List Nat),(∀ x ∈ l,x < 256) → vnum l < 256 ^ l.length
 |[],_ => by simp [vnum]
 |b :: l,h => by
  have := vnum_lt l fun x hx => h x (List.mem_cons_of_mem _ hx)
  have hb := h b (by simp)
  simp only [vnum,List.length_cons,Nat.pow_succ]
  omega
theorem slice_step (bs : List Nat) (at' k size : Nat) (hk : k < size) (h : at' + size ≤ bs.length) : (bs.drop (at' + k)).take (size - k) = (bs.getD (at' + k) 0) :: (bs.drop (at' + (k + 1))).take (size - (k + 1)) := by
 have hl : at' + k < bs.length := by omega
 rw [List.drop_eq_getElem_cons hl,show size - k = (size - (k + 1)) + 1 by omega,List.take_succ_cons,List.getD_eq_getElem?_getD,List.getElem?_eq_getElem hl]
 rfl
theorem num_any (v : Value) (bs : List Nat) (at' size : Nat) (w : World) (h : BytesAt w v bs) (hl : at' + size ≤ bs.length) (hs : size ≤ 8) (hm : bs.length ≤ 1099511627776) :
 Calls Tryz.prog 41 #[v,.int .i64 at',.int .i64 size] w fun e w' => e = .returned (.int .u64 (vnum ((bs.drop at').take size) : Nat)) ∧ w = w' := by
 obtain ⟨⟨_,_,_,ao,cap,rfl,_,hc⟩,_,hlt⟩ := h
 have HC := Lib.hid hc
 have HLT := Lib.hid hlt
 obtain ⟨n,hn⟩ : ∃ n,bs.length = n := ⟨_,rfl⟩
 have HN := Lib.hid hn
 rw [hn] at hl hm ⊢
 clear hc hlt hn
 have z0 : IntKind.i64.wrap ((size : Int) - 1) = (size : Int) - 1 := IntWalk.i64_in _ (by omega)
 go_enter Tryz.func41,Tryz.ntmps41
 go_wp2
 clear z0
 go_loop [7,8] (fun x i => ∃ k : Nat,i = .int .i64 ((k : Int) - 1) ∧ k ≤ size ∧ x = .int .u64 (vnum ((bs.drop (at' + k)).take (size - k)) : Nat)) (fun _ i => (intOf i + 1).toNat)
 case atStart => exact ⟨size,rfl,Nat.le_refl _,by simp [vnum]⟩
 case round =>
  obtain ⟨k,rfl,hk,rfl⟩ := hrel
  by_cases hk0 : k = 0
  ·subst hk0
   have g1 : decide ((0 : Int) ≤ ((0 : Nat) : Int) - 1) = false := by decide
   have g2 : decide ((1 : Int) ≤ ((0 : Nat) : Int)) = false := by decide
   go_wp2
   go_ret
   exact ⟨by simp,rfl⟩
  ·obtain ⟨j,rfl⟩ : ∃ j,k = j + 1 := ⟨k - 1,by omega⟩
   have hj : j < size := by omega
   have hst := slice_step bs at' j size hj (by rw [HN.out]; exact hl)
   obtain ⟨b,off,rfl,hb,hcell⟩ := HC.out (by rw [HN.out]; omega)
   have hjl : at' + j < bs.length := by rw [HN.out]; omega
   have hx : bs.getD (at' + j) 0 = bs[at' + j] := by rw [List.getD_eq_getElem?_getD,List.getElem?_eq_getElem hjl]; rfl
   have hx2 := HLT.out _ (List.getElem_mem hjl)
   have hcl := hcell (at' + j) (.int .u8 (bs[at' + j] : Nat)) (by simp [bcells,List.getElem?_eq_getElem hjl])
   rw [hx] at hst
   obtain ⟨x,hxx⟩ : ∃ x,bs[at' + j] = x := ⟨_,rfl⟩
   rw [hxx] at hst hx2 hcl
   obtain ⟨V,hV⟩ : ∃ V,(bs.drop (at' + (j + 1))).take (size - (j + 1)) = V := ⟨_,rfl⟩
   have hVl : V.length ≤ 7 := by rw [← hV]; simp; omega
   have hVb := vnum_lt V fun y hy => HLT.out y (by rw [← hV] at hy; exact List.mem_of_mem_drop (List.mem_of_mem_take hy))
   have hVm : vnum V < 72057594037927936 := Nat.lt_of_lt_of_le hVb (Nat.le_trans (Nat.pow_le_pow_right (by decide) hVl) (by decide))
   rw [hV] at hst ⊢
   have hnew : vnum ((bs.drop (at' + j)).take (size - j)) = vnum V * 256 + x := by rw [hst]; rfl
   obtain ⟨u,hu⟩ : ∃ u,vnum V = u := ⟨_,rfl⟩
   rw [hu] at hnew hVm ⊢
   have HNEW := Lib.hid hnew
   have e0 : ((j + 1 : Nat) : Int) - 1 = (j : Int) := by omega
   rw [e0]
   have g1 : decide ((0 : Int) ≤ (j : Int)) = true := by simp
   have w1 : IntKind.i64.wrap ((j : Int) - 1) = (j : Int) - 1 := IntWalk.i64_in _ (by omega)
   have w2 : IntKind.i64.wrap ((at' : Int) + (j : Int)) = (at' : Int) + (j : Int) := IntWalk.i64_in _ (by omega)
   have w3 : IntKind.u64.wrap ((u : Int) * 256) = (u : Int) * 256 := IntWalk.u64_in _ (by omega)
   have w4 : IntKind.u64.wrap ((u : Int) * 256 + (x : Int)) = (u : Int) * 256 + (x : Int) := IntWalk.u64_in _ (by omega)
   have i0 : (0 : Int) ≤ (at' : Int) + (j : Int) := by omega
   have i1 : (at' : Int) + (j : Int) < (n : Int) := by omega
   have e1 : ((at' : Int) + (j : Int)).toNat = at' + j := by omega
   have x1 : (x : Int) < 256 := by omega
   have x0 : (0 : Int) ≤ (x : Int) := by omega
   clear hst hx hV hVl hVb hu hxx hnew hcell e0 hVm
   go_wp2
   refine ⟨⟨j,rfl,by omega,by rw [HNEW.out]; simp⟩,?_⟩
   simp [intOf]
theorem vnum_snoc (l : List Nat) (x : Nat) : vnum (l ++ [x]) = vnum l + x * 256 ^ l.length := by
 induction l with
 |nil => simp [vnum]
 |cons b l ih =>
  simp only [List.cons_append,vnum,ih,List.length_cons,Nat.pow_succ]
  rw [Nat.add_mul,Nat.mul_assoc,Nat.mul_comm (256 ^ l.length) 256]
  omega
theorem vnum_or (l : List Nat) (x : Nat) (hl : ∀ y ∈ l,y < 256) : vnum l ||| x * 256 ^ l.length = vnum l + x * 256 ^ l.length := by
 have e : (256 : Nat) ^ l.length = 2 ^ (8 * l.length) := by rw [Nat.pow_mul]
 have h := vnum_lt l hl
 rw [e] at h ⊢
 rw [Nat.or_comm,← Nat.shiftLeft_eq,← Nat.shiftLeft_add_eq_or_of_lt h]
 omega
/-- the UUID of bytes, or an error -/
def decR (bs : List Nat) : Nat × Nat × Int :=
 if bs.length = 2 then (vnum bs * 4294967296 + 4096,9223372588214596859,0) else if bs.length < 16 then (0,0,3) else if 16 < bs.length then (0,0,2) else
  if isShort (vnum (bs.drop 8)) (vnum (bs.take 8)) then (0,0,2) else (vnum (bs.drop 8),vnum (bs.take 8),0)
theorem run_build0 (w : World) : (Instr.build 26 #[]).run Tryz.prog w = .ok (.agg #[.int .u64 0,.int .u64 0]) w := by kernel_rfl
theorem rdecode_any (v : Value) (bs : List Nat) (w : World) (h : BytesAt w v bs) (hm : bs.length ≤ 1099511627776) :
 Calls Tryz.prog 24 #[v] w fun e w' => e = .returned (.tuple #[.agg #[.int .u64 (decR bs).1,.int .u64 (decR bs).2.1],.int .i64 (decR bs).2.2]) ∧ Below w.heap.size w w' := by
 have HBY := Lib.hid h
 obtain ⟨⟨_,_,_,ao,cap,rfl,_,_⟩,_,hlt⟩ := h
 have HLT := Lib.hid hlt
 obtain ⟨n,hn⟩ : ∃ n,bs.length = n := ⟨_,rfl⟩
 have HN := Lib.hid hn
 unfold decR
 rw [hn] at hm ⊢
 have hz := fun W => run_build0 W
 have hB0 := (Below.refl w.heap.size w).alloc (Nat.le_refl _) (.cells #[.int .u64 0,.int .u64 0] 26)
 have HBY1 : Hid (BytesAt w (.slice ao n cap) bs) := by rw [← HN.out]; exact HBY
 clear hlt hn HBY
 by_cases h2 : n = 2
 ·subst h2
  simp only [if_true]
  have hv : vnum bs < 65536 := by have := vnum_lt bs HLT.out; rw [HN.out] at this; exact this
  have hnum := num_any _ bs 0 2 w HBY1.out (by rw [HN.out]; omega) (by omega) (by rw [HN.out]; omega)
  rw [show (bs.drop 0).take 2 = bs by rw [List.drop_zero,List.take_of_length_le (by rw [HN.out]; omega)]] at hnum
  have hnum' := num_any _ bs 0 2 _ (HBY1.out.below hB0) (by rw [HN.out]; omega) (by omega) (by rw [HN.out]; omega)
  rw [show (bs.drop 0).take 2 = bs by rw [List.drop_zero,List.take_of_length_le (by rw [HN.out]; omega)]] at hnum'
  obtain ⟨V,hV⟩ : ∃ V,vnum bs = V := ⟨_,rfl⟩
  rw [hV] at hv hnum' ⊢
  have HNUM := Lib.hid hnum'
  have w16 : IntKind.u16.wrap (V : Int) = (V : Int) := IntWalk.u16_in _ (by omega)
  have bR := Blk.new w 26 [.int .u64 0,.int .u64 0]
  have HR := Lib.hid bR
  have hsh := fun W => rshort_any V hv W
  obtain ⟨M,hM⟩ : ∃ M : Int,(V : Int) * 4294967296 + 4096 = M := ⟨_,rfl⟩
  obtain ⟨L,hL⟩ : ∃ M : Int,(9223372588214596859 : Int) = M := ⟨_,rfl⟩
  rw [show (((V * 4294967296 + 4096 : Nat)) : Int) = M by rw [← hM]; simp,show ((9223372588214596859 : Nat) : Int) = L by rw [← hL]; rfl]
  simp only [hM,hL] at hsh
  have HSH := Lib.hid hsh
  clear hnum hnum' hV bR hsh hM hL
  go_enter Tryz.func24,Tryz.ntmps24
  go_wp2_with fail
  go_at_call 41
  refine HNUM.out.mono ?_
  rintro e w1 ⟨rfl,rfl⟩
  go_wp2_with fail
  go_at_call 6
  refine (HSH.out _).mono ?_
  rintro e w2 ⟨rfl,hB2⟩
  have b2 := HR.out.below hB2
  have T2 := b2.cells
  have hOpen := T2
  simp only [Cells,blk,List.cons_append,List.nil_append,and_true,Nat.reduceAdd,Nat.add_zero,Nat.zero_add] at hOpen
  obtain ⟨c0,c1⟩ := hOpen
  have f0 := b2.frozen 0
  have f1 := b2.frozen 1
  have hB3 := hB0.trans (hB2.mono hB0.size)
  have HB2 := Lib.hid b2
  clear T2 b2 hB2
  go_wp2
  have b3 := (HB2.out.setAt (j := 0) (.int .u64 M)).setAt (j := 1) (.int .u64 L)
  obtain ⟨x0,x1,_⟩ := b3.cells
  simp only [Nat.zero_add,Nat.add_zero,List.set_cons_zero,List.set_cons_succ] at x0 x1
  refine bodyPost_ret (v := .tuple #[.agg #[.int .u64 M,.int .u64 L],.int .i64 0]) (by simp [results,Tryz.results24,go_sem,x0,x1]) rfl ?_
  exact ⟨rfl,(hB3.setCell (p := ⟨w.heap.size,0,none⟩) (by simp) _).setCell (p := ⟨w.heap.size,1,none⟩) (by simp) _⟩
 rw [if_neg h2]
 have g2 : ((n : Int) == 2) = false := by simp; omega
 by_cases h3 : n < 16
 ·rw [if_pos h3]
  have g3 : decide (n < 16) = true := by simpa using h3
  have g3' : decide ((n : Int) < 16) = true := by simp; omega
  go_enter Tryz.func24,Tryz.ntmps24
  go_wp2
  refine bodyPost_ret (v := .tuple #[.agg #[.int .u64 0,.int .u64 0],.int .i64 3]) (by simp [results,Tryz.results24,go_sem] <;> rfl) rfl ?_
  exact ⟨rfl,hB0⟩
 rw [if_neg h3]
 have g3 : decide (n < 16) = false := by simpa using h3
 have g3' : decide ((n : Int) < 16) = false := by simp; omega
 by_cases h4 : 16 < n
 ·rw [if_pos h4]
  have g4 : decide (16 < n) = true := by simpa using h4
  have g4' : decide ((16 : Int) < (n : Int)) = true := by simp; omega
  go_enter Tryz.func24,Tryz.ntmps24
  go_wp2
  refine bodyPost_ret (v := .tuple #[.agg #[.int .u64 0,.int .u64 0],.int .i64 2]) (by simp [results,Tryz.results24,go_sem] <;> rfl) rfl ?_
  exact ⟨rfl,hB0⟩
 rw [if_neg h4]
 obtain rfl : n = 16 := by omega
 have g4 : decide (16 < 16) = false := by decide
 have hn1 := num_any _ bs 0 8 _ (HBY1.out.below hB0) (by rw [HN.out]; omega) (by omega) (by rw [HN.out]; omega)
 have hn2 := num_any _ bs 8 8 _ (HBY1.out.below hB0) (by rw [HN.out]; omega) (by omega) (by rw [HN.out]; omega)
 rw [List.drop_zero] at hn1
 rw [show (bs.drop 8).take 8 = bs.drop 8 by rw [List.take_of_length_le (by rw [List.length_drop,HN.out]; omega)]] at hn2
 have v1 : vnum (bs.take 8) < 18446744073709551616 := by
  have := vnum_lt (bs.take 8) fun x hx => HLT.out x (List.mem_of_mem_take hx)
  rw [List.length_take,HN.out] at this
  exact this
 have v2 : vnum (bs.drop 8) < 18446744073709551616 := by
  have := vnum_lt (bs.drop 8) fun x hx => HLT.out x (List.mem_of_mem_drop hx)
  rw [List.length_drop,HN.out] at this
  exact this
 obtain ⟨lo,hlo⟩ : ∃ V,vnum (bs.take 8) = V := ⟨_,rfl⟩
 obtain ⟨hi,hhi⟩ : ∃ V,vnum (bs.drop 8) = V := ⟨_,rfl⟩
 rw [hlo] at hn1 v1 ⊢
 rw [hhi] at hn2 v2 ⊢
 have hnum := fun W => rnumber_any hi lo v2 v1 W
 obtain ⟨b,hb⟩ : ∃ b,isShort hi lo = b := ⟨_,rfl⟩
 obtain ⟨q,hq⟩ : ∃ q,numI hi lo = q := ⟨_,rfl⟩
 rw [hb,hq] at hnum
 rw [hb]
 have bR := Blk.new w 26 [.int .u64 0,.int .u64 0]
 have HR := Lib.hid bR
 have HN1 := Lib.hid hn1
 have HN2 := Lib.hid hn2
 have HNUM := Lib.hid hnum
 clear hn1 hn2 hnum hlo hhi hb hq bR v1 v2
 go_enter Tryz.func24,Tryz.ntmps24
 go_wp2_with fail
 go_at_call 41
 refine HN1.out.mono ?_
 rintro e w1 ⟨rfl,rfl⟩
 go_wp2_with fail
 go_at_call 41
 refine HN2.out.mono ?_
 rintro e w1 ⟨rfl,rfl⟩
 go_wp2_with fail
 go_at_call 42
 refine (HNUM.out _).mono ?_
 rintro e w3 ⟨rfl,hB3⟩
 have hB1 := hB0.alloc hB0.size (.cells #[.int .u64 hi,.int .u64 lo] 26)
 have bU := Blk.new (w.alloc (.cells #[.int .u64 0,.int .u64 0] 26)) 26 [.int .u64 hi,.int .u64 lo]
 simp only [World.size_alloc] at bU
 have bU3 := bU.below hB3
 have bR3 := (HR.out.alloc (.cells #[.int .u64 hi,.int .u64 lo] 26)).below hB3
 have T3 := bU3.cells
 have TR := bR3.cells
 have hOpen := T3
 simp only [Cells,blk,List.cons_append,List.nil_append,and_true,Nat.reduceAdd,Nat.add_zero,Nat.zero_add] at hOpen
 obtain ⟨c0,c1⟩ := hOpen
 have hOpen := TR
 simp only [Cells,blk,List.cons_append,List.nil_append,and_true,Nat.reduceAdd,Nat.add_zero,Nat.zero_add] at hOpen
 obtain ⟨r0,r1⟩ := hOpen
 have f0 := bR3.frozen 0
 have f1 := bR3.frozen 1
 have hB4 := hB1.trans (hB3.mono hB1.size)
 have HB3 := Lib.hid bR3
 clear T3 TR bU bU3 bR3 hB3 hB1
 cases b
 ·go_wp2
  have b3 := (HB3.out.setAt (j := 0) (.int .u64 (hi : Int))).setAt (j := 1) (.int .u64 (lo : Int))
  obtain ⟨x0,x1,_⟩ := b3.cells
  simp only [Nat.zero_add,Nat.add_zero,List.set_cons_zero,List.set_cons_succ] at x0 x1
  refine bodyPost_ret (v := .tuple #[.agg #[.int .u64 hi,.int .u64 lo],.int .i64 0]) (by simp [results,Tryz.results24,go_sem,x0,x1]) rfl ?_
  exact ⟨rfl,(hB4.setCell (p := ⟨w.heap.size,0,none⟩) (by simp) _).setCell (p := ⟨w.heap.size,1,none⟩) (by simp) _⟩
 ·go_wp2
  have b3 := (HB3.out.setAt (j := 0) (.int .u64 0)).setAt (j := 1) (.int .u64 0)
  obtain ⟨x0,x1,_⟩ := b3.cells
  simp only [Nat.zero_add,Nat.add_zero,List.set_cons_zero,List.set_cons_succ] at x0 x1
  refine bodyPost_ret (v := .tuple #[.agg #[.int .u64 0,.int .u64 0],.int .i64 2]) (by simp [results,Tryz.results24,go_sem,x0,x1]) rfl ?_
  exact ⟨rfl,(hB4.setCell (p := ⟨w.heap.size,0,none⟩) (by simp) _).setCell (p := ⟨w.heap.size,1,none⟩) (by simp) _⟩
theorem or16 (a b : Nat) (ha : a < 256) (hb : b < 256) : bits .or .u16 (a : Int) ((b : Int) * 256) = ((b * 256 + a : Nat) : Int) := by
 have e : ((b : Int) * 256) = ((b * 256 : Nat) : Int) := by simp
 rw [e,u16_or_nat _ _ (by omega) (by omega)]
 have : a ||| b * 256 = b * 256 + a := by
  rw [Nat.or_comm,show b * 256 = b <<< 8 by rw [Nat.shiftLeft_eq]]
  exact (Nat.shiftLeft_add_eq_or_of_lt (by simpa using ha) _).symm
 rw [this]
theorem shl_wrap (x k : Nat) (hx : x < 256) (hk : k < 8) : IntKind.u64.wrap ((x : Int) * 2 ^ (8 * (k : Int)).toNat) = ((x * 256 ^ k : Nat) : Int) := by
 have e : (8 * (k : Int)).toNat = 8 * k := by omega
 rw [e]
 have e2 : (256 : Nat) ^ k = 2 ^ (8 * k) := by rw [Nat.pow_mul]
 rw [e2]
 have e3 : ((x : Int) * 2 ^ (8 * k)) = ((x * 2 ^ (8 * k) : Nat) : Int) := by simp
 rw [e3]
 have : x * 2 ^ (8 * k) < 18446744073709551616 := by
  have h1 : 2 ^ (8 * k) ≤ 2 ^ 56 := Nat.pow_le_pow_right (by decide) (by omega)
  calc x * 2 ^ (8 * k) ≤ 255 * 2 ^ 56 := Nat.mul_le_mul (by omega) h1
   _ < _ := by decide
 exact IntWalk.u64_in _ (by omega)
theorem or_step (l : List Nat) (x : Nat) (hl : ∀ y ∈ l,y < 256) (hk : l.length < 8) (hx : x < 256) : bits .or .u64 ((vnum l : Nat) : Int) ((x * 256 ^ l.length : Nat) : Int) = ((vnum (l ++ [x]) : Nat) : Int) := by
 have h1 := vnum_lt l hl
 have h3 := vnum_lt (l ++ [x]) (fun y hy => by
  rcases List.mem_append.1 hy with h | h
  ·exact hl y h
  ·simp at h; omega)
 have hp : (256 : Nat) ^ (l ++ [x]).length ≤ 256 ^ 8 := Nat.pow_le_pow_right (by decide) (by simp; omega)
 have hp2 : (256 : Nat) ^ l.length ≤ 256 ^ 8 := Nat.pow_le_pow_right (by decide) (by omega)
 have e8 : (256 : Nat) ^ 8 = 18446744073709551616 := by decide
 rw [vnum_snoc] at h3 ⊢
 rw [u64_or_nat _ _ (by omega) (by omega),vnum_or l x hl]
theorem take_succ_getD (bs : List Nat) (k : Nat) (h : k < bs.length) : bs.take (k + 1) = bs.take k ++ [bs.getD k 0] := by
 rw [List.take_succ_eq_append_getElem h,List.getD_eq_getElem?_getD,List.getElem?_eq_getElem h]
 rfl
theorem decode_two (x0 x1 : Nat) (v : Value) (w : World) (h : BytesAt w v [x0,x1]) :
 Calls Tryz.prog 106 #[v] w fun e w' => e = .returned (.tuple #[.agg #[.int .u64 (decR [x0,x1]).1,.int .u64 (decR [x0,x1]).2.1],.int .i64 (decR [x0,x1]).2.2]) ∧ Below w.heap.size w w' := by
 obtain ⟨⟨_,_,_,ao,cap,rfl,_,hc⟩,_,hlt⟩ := h
 obtain ⟨b,off,rfl,hb,hcell⟩ := hc (by simp)
 have y0 : x0 < 256 := hlt x0 (by simp)
 have y1 : x1 < 256 := hlt x1 (by simp)
 have ho := or16 x0 x1 y0 y1
 have hd : decR [x0,x1] = ((x1 * 256 + x0) * 4294967296 + 4096,9223372588214596859,0) := by
  unfold decR
  rw [if_pos (by simp)]
  simp [vnum]
 rw [hd]
 obtain ⟨V,hV⟩ : ∃ V,x1 * 256 + x0 = V := ⟨_,rfl⟩
 have hVb : V < 65536 := by omega
 rw [hV] at ho ⊢
 have k0 := hcell 0 (.int .u8 (x0 : Int)) rfl
 have k1 := hcell 1 (.int .u8 (x1 : Int)) rfl
 have hB0 := (Below.refl w.heap.size w).alloc (Nat.le_refl _) (.cells #[.int .u64 0,.int .u64 0] 26)
 have bR := Blk.new w 26 [.int .u64 0,.int .u64 0]
 have TB : Cells (w.alloc (.cells #[.int .u64 0,.int .u64 0] 26)) (blk w.heap.size 0 0 [.int .u64 0,.int .u64 0] ++ blk b off 0 [.int .u8 x0,.int .u8 x1]) := bR.cells.app ⟨kc (j := off + 0) k0 hB0,kc k1 hB0,trivial⟩
 have TW : Cells w (blk b off 0 [.int .u8 x0,.int .u8 x1]) := ⟨k0,k1,trivial⟩
 have HTW := Lib.hid TW
 clear TW
 have hsh := fun W => short_any V hVb W
 obtain ⟨M,hM⟩ : ∃ M : Int,(V : Int) * 4294967296 + 4096 = M := ⟨_,rfl⟩
 obtain ⟨L,hL⟩ : ∃ M : Int,(9223372588214596859 : Int) = M := ⟨_,rfl⟩
 rw [show (((V * 4294967296 + 4096 : Nat)) : Int) = M by rw [← hM]; simp,show ((9223372588214596859 : Nat) : Int) = L by rw [← hL]; rfl]
 simp only [hM,hL] at hsh
 have HSH := Lib.hid hsh
 have HO := Lib.hid ho
 have z0 : (0 : Int) ≤ (x0 : Int) := by omega
 have z1 : (0 : Int) ≤ (x1 : Int) := by omega
 have q0 : (x0 : Int) < 256 := by omega
 have q1 : (x1 : Int) < 256 := by omega
 have u0 : IntKind.u16.wrap (x0 : Int) = (x0 : Int) := IntWalk.u16_in _ (by omega)
 have u1 : IntKind.u16.wrap (x1 : Int) = (x1 : Int) := IntWalk.u16_in _ (by omega)
 have u2 : IntKind.u16.wrap ((x1 : Int) * 256) = (x1 : Int) * 256 := IntWalk.u16_in _ (by omega)
 clear hsh hM hL hd hV ho hcell hc hlt k0 k1
 go_enter Tryz.func106,Tryz.ntmps106
 go_upto_region 2 with fail
 generalize hX : World.alloc _ _ = X at TB bR hB0 ⊢
 clear hX
 have ho := HO.out
 refine wp_region_held_drew (S := (fun W' : World => Cells W' (blk b off 0 [.int .u8 x0,.int .u8 x1]))) (by kernel_rfl) (HTW.out.keep hB0.drew) (fun hHeld => ?_)
 refine wpAnyH_take (i := 0) (oi := _) (v := ?_) (by rw [List.getElem?_toArray]; rfl) (by kernel_rfl) (by kernel_rfl) (by kernel_rfl) (by exact fun _ _ _ h => h) (Or.inl ⟨by rfl,?_⟩) (by assumption) ?_
 rotate_left
 ·intro w hSw
  try simp only [Cells,blk,List.cons_append,List.nil_append,and_true,Nat.reduceAdd,Nat.add_zero,Nat.zero_add] at hSw
  go_simp
  try with_reducible rfl
 simp only [Act.put,List.setIfInBounds_toArray,List.set_cons_zero,List.set_cons_succ]
 refine wpAnyH_take (i := 1) (oi := _) (v := ?_) (by rw [List.getElem?_toArray]; rfl) (by kernel_rfl) (by kernel_rfl) (by kernel_rfl) (by exact fun _ _ _ h => h) (Or.inl ⟨by rfl,?_⟩) (by assumption) ?_
 rotate_left
 ·intro w hSw
  try simp only [Cells,blk,List.cons_append,List.nil_append,and_true,Nat.reduceAdd,Nat.add_zero,Nat.zero_add] at hSw
  go_simp
  try with_reducible rfl
 simp only [Act.put,List.setIfInBounds_toArray,List.set_cons_zero,List.set_cons_succ]
 refine wpAnyH_take (i := 2) (oi := _) (v := ?_) (by rw [List.getElem?_toArray]; rfl) (by kernel_rfl) (by kernel_rfl) (by kernel_rfl) (by exact fun _ _ _ h => h) (Or.inl ⟨by rfl,?_⟩) (by assumption) ?_
 rotate_left
 ·intro w hSw
  try simp only [Cells,blk,List.cons_append,List.nil_append,and_true,Nat.reduceAdd,Nat.add_zero,Nat.zero_add] at hSw
  go_simp
  try with_reducible rfl
 simp only [Act.put,List.setIfInBounds_toArray,List.set_cons_zero,List.set_cons_succ]
 refine wpAnyH_take (i := 3) (oi := _) (v := ?_) (by rw [List.getElem?_toArray]; rfl) (by kernel_rfl) (by kernel_rfl) (by kernel_rfl) (by exact fun _ _ _ h => h) (Or.inl ⟨by rfl,?_⟩) (by assumption) ?_
 rotate_left
 ·intro w hSw
  try simp only [Cells,blk,List.cons_append,List.nil_append,and_true,Nat.reduceAdd,Nat.add_zero,Nat.zero_add] at hSw
  go_simp
  try with_reducible rfl
 simp only [Act.put,List.setIfInBounds_toArray,List.set_cons_zero,List.set_cons_succ]
 refine wpAnyH_take (i := 4) (oi := _) (v := ?_) (by rw [List.getElem?_toArray]; rfl) (by kernel_rfl) (by kernel_rfl) (by kernel_rfl) (by exact fun _ _ _ h => h) (Or.inl ⟨by rfl,?_⟩) (by assumption) ?_
 rotate_left
 ·intro w hSw
  try simp only [Cells,blk,List.cons_append,List.nil_append,and_true,Nat.reduceAdd,Nat.add_zero,Nat.zero_add] at hSw
  go_simp
  try with_reducible rfl
 simp only [Act.put,List.setIfInBounds_toArray,List.set_cons_zero,List.set_cons_succ]
 refine wpAnyH_take (i := 5) (oi := _) (v := ?_) (by rw [List.getElem?_toArray]; rfl) (by kernel_rfl) (by kernel_rfl) (by kernel_rfl) (by exact fun _ _ _ h => h) (Or.inl ⟨by rfl,?_⟩) (by assumption) ?_
 rotate_left
 ·intro w hSw
  try simp only [Cells,blk,List.cons_append,List.nil_append,and_true,Nat.reduceAdd,Nat.add_zero,Nat.zero_add] at hSw
  go_simp
  try with_reducible rfl
 simp only [Act.put,List.setIfInBounds_toArray,List.set_cons_zero,List.set_cons_succ]
 refine wpAnyH_take (i := 6) (oi := _) (v := ?_) (by rw [List.getElem?_toArray]; rfl) (by kernel_rfl) (by kernel_rfl) (by kernel_rfl) (by exact fun _ _ _ h => h) (Or.inl ⟨by rfl,?_⟩) (by assumption) ?_
 rotate_left
 ·intro w hSw
  try simp only [Cells,blk,List.cons_append,List.nil_append,and_true,Nat.reduceAdd,Nat.add_zero,Nat.zero_add] at hSw
  go_simp
  try with_reducible rfl
 simp only [Act.put,List.setIfInBounds_toArray,List.set_cons_zero,List.set_cons_succ]
 refine wpAnyH_take (i := 7) (oi := _) (v := ?_) (by rw [List.getElem?_toArray]; rfl) (by kernel_rfl) (by kernel_rfl) (by kernel_rfl) (by exact fun _ _ _ h => h) (Or.inl ⟨by rfl,?_⟩) (by assumption) ?_
 rotate_left
 ·intro w hSw
  try simp only [Cells,blk,List.cons_append,List.nil_append,and_true,Nat.reduceAdd,Nat.add_zero,Nat.zero_add] at hSw
  go_simp
  try with_reducible rfl
 simp only [Act.put,List.setIfInBounds_toArray,List.set_cons_zero,List.set_cons_succ]
 refine wpAnyH_take (i := 8) (oi := _) (v := ?_) (by rw [List.getElem?_toArray]; rfl) (by kernel_rfl) (by kernel_rfl) (by kernel_rfl) (by exact fun _ _ _ h => h) (Or.inl ⟨by rfl,?_⟩) (by assumption) ?_
 rotate_left
 ·intro w hSw
  try simp only [Cells,blk,List.cons_append,List.nil_append,and_true,Nat.reduceAdd,Nat.add_zero,Nat.zero_add] at hSw
  go_simp
  try with_reducible rfl
 simp only [Act.put,List.setIfInBounds_toArray,List.set_cons_zero,List.set_cons_succ]
 refine wpAnyH_take (i := 9) (oi := _) (v := ?_) (by rw [List.getElem?_toArray]; rfl) (by kernel_rfl) (by kernel_rfl) (by kernel_rfl) (by exact fun _ _ _ h => h) (Or.inl ⟨by rfl,?_⟩) (by assumption) ?_
 rotate_left
 ·intro w hSw
  try simp only [Cells,blk,List.cons_append,List.nil_append,and_true,Nat.reduceAdd,Nat.add_zero,Nat.zero_add] at hSw
  go_simp
  try with_reducible rfl
 simp only [Act.put,List.setIfInBounds_toArray,List.set_cons_zero,List.set_cons_succ]
 refine wpAnyH_ready (rs := [10]) (by kernel_rfl) (by simp) (AllReadyH.cons (o := _) (by rw [List.getElem?_toArray]; rfl) (fun K hK => ?_) AllReadyH.nil)
 go_simp
 go_at_call 60
 refine (HSH.out _).mono ?_
 rintro e w2 ⟨rfl,hB2⟩
 have hBX : Below X.heap.size X w2 := ((Below.refl _ X).drew).trans hB2
 have T2 := TB.keep hBX
 have b2 := bR.below hBX
 have hB3 := hB0.trans (hBX.mono hB0.size)
 have hOpen := T2
 simp only [Cells,blk,List.cons_append,List.nil_append,and_true,Nat.reduceAdd,Nat.add_zero,Nat.zero_add] at hOpen
 obtain ⟨c0,c1,c2,c3⟩ := hOpen
 have f0 := b2.frozen 0
 have f1 := b2.frozen 1
 have B2 := Lib.hid b2
 have HT2 := Lib.hid T2
 clear hB2 hBX b2 TB bR hB0
 clear hHeld
 refine hK.out _ _ (HTW.out.keep hB3) (fun hHeld => ?_)
 clear hK K
 try simp only [Act.put,List.setIfInBounds_toArray,List.set_cons_zero,List.set_cons_succ]
 refine wpAnyH_ready (rs := [11]) (by kernel_rfl) (by simp) (AllReadyH.cons (o := _) (by rw [List.getElem?_toArray]; rfl) (fun K hK => ?_) AllReadyH.nil)
 go_simp
 generalize hX3 : World.setCell _ _ _ = X3
 have b3 : Blk X3 w.heap.size 26 [.int .u64 M,.int .u64 L] := by
  rw [← hX3]
  exact (B2.out.setAt (j := 0) (.int .u64 M)).setAt (j := 1) (.int .u64 L)
 have hB4 : Below w.heap.size w X3 := by
  rw [← hX3]
  exact (hB3.setCell (p := ⟨w.heap.size,0,none⟩) (by simp) _).setCell (p := ⟨w.heap.size,1,none⟩) (by simp) _
 have B3 := Lib.hid b3
 clear hX3 b3 c0 c1 c2 c3 f0 f1 ho
 clear hHeld
 refine hK.out _ _ (HTW.out.keep hB4) (fun hHeld => ?_)
 clear hK K
 try simp only [Act.put,List.setIfInBounds_toArray,List.set_cons_zero,List.set_cons_succ]
 refine wpAnyH_take (i := 12) (oi := _) (v := ?_) (by rw [List.getElem?_toArray]; rfl) (by kernel_rfl) (by kernel_rfl) (by kernel_rfl) (by exact fun _ _ _ h => h) (Or.inl ⟨by rfl,?_⟩) (by assumption) ?_
 rotate_left
 ·intro w hSw
  try simp only [Cells,blk,List.cons_append,List.nil_append,and_true,Nat.reduceAdd,Nat.add_zero,Nat.zero_add] at hSw
  go_simp
  try with_reducible rfl
 simp only [Act.put,List.setIfInBounds_toArray,List.set_cons_zero,List.set_cons_succ]
 refine wpAnyH_done (by kernel_rfl) ?_ _
 go_wp2
 obtain ⟨r0,r1,_⟩ := B3.out.cells
 simp only [Nat.zero_add,Nat.add_zero] at r0 r1
 refine bodyPost_ret (v := .tuple #[.agg #[.int .u64 M,.int .u64 L],.int .i64 0]) (by simp [results,Tryz.results106,go_sem,r0,r1]) rfl ?_
 exact ⟨rfl,hB4⟩
end Go.Proofs.YtldcihjddebciaaGreat
