/- capture.Write. -/
import Derived.Test.YtccknpdnapoboaaDoorCpB
import Derived.Lib.SlBytesConst
namespace Go.Proofs.YtccknpdnapoboaaDoor
open Go.RowKit

theorem fdb_rec (T C F K : Nat) (bs : List Nat) : fdb [(8, T), (1, C), (1, F), (1, K), (2, bs.length)] ++ bs = recD ⟨(T : Int), (C : Int), (F : Int), (K : Int), bs⟩ := by
  simp [fdb, recD]
theorem cpE_get {l : List Cp} {k : Nat} (hk : k < l.length) : cpV l k = if cpE l[k] ≠ 0 then cpE l[k] else if 0 < k ∧ l[k].t < (l.getD (k - 1) default).t then 13 else 0 := by
  unfold cpV
  rw [List.getD_eq_getElem?_getD, List.getElem?_eq_getElem hk, Option.getD_some]
theorem cpW_rec (l : List Cp) (k j : Nat) (h : cpW l k = 0) (hk : k ≤ l.length) (hj : j < k) : cpE (l[j]'(by omega)) = 0 := by
  have h2 := cpW_zero l k (j + 1) h (by omega)
  have h3 := cpW_step l j (cpW_zero l k j h (by omega))
  rw [h2, cpE_get (by omega)] at h3
  by_cases e : cpE (l[j]'(by omega)) = 0
  · exact e
  · rw [if_pos e] at h3
    exact absurd h3.symm e
theorem wrB_len (l : List Cp) (k : Nat) (h : cpW l k = 0) (hk : k ≤ l.length) : (wrB l k).length ≤ 4 + 276 * k := by
  induction k with
  | zero => simp [wrB, mag]
  | succ k ih =>
    have h1 := ih (cpW_zero l (k + 1) k h (by omega)) (by omega)
    have h5 := (cpE_ok (cpW_rec l (k + 1) k h hk (by omega))).2.2.2.2
    rw [wrB_succ l k (by omega), List.length_append, recB_len]
    omega
theorem recD_lt (r : Cp) (h : ∀ x ∈ r.bs, x < 256) : ∀ x ∈ recD r, x < 256 := by
  intro x hx
  unfold recD at hx
  simp only [List.mem_append] at hx
  rcases hx with hx | hx | hx | hx | hx | hx
  · exact putB_lt _ _ x hx
  · exact putB_lt _ _ x hx
  · exact putB_lt _ _ x hx
  · exact putB_lt _ _ x hx
  · exact putB_lt _ _ x hx
  · exact h x hx
theorem recB_lt (r : Cp) (h : ∀ x ∈ r.bs, x < 256) : ∀ x ∈ recB r, x < 256 := by
  intro x hx
  rcases List.mem_append.1 hx with hx | hx
  · exact recD_lt r h x hx
  · exact putB_lt _ _ x hx
theorem wrB_lt (l : List Cp) (k : Nat) (h : ∀ r ∈ l, ∀ x ∈ r.bs, x < 256) : ∀ x ∈ wrB l k, x < 256 := by
  intro x hx
  rcases List.mem_append.1 hx with hx | hx
  · have : ∀ x ∈ mag, x < 256 := by decide
    exact this x hx
  · obtain ⟨r, hr, hx⟩ := List.mem_flatMap.1 hx
    exact recB_lt r (h r (List.mem_of_mem_take hr)) x hx
theorem Cps.lt {w : World} {v : Value} {l : List Cp} (h : Cps w v l) : ∀ r ∈ l, ∀ x ∈ r.bs, x < 256 := by
  intro r hr
  obtain ⟨k, hk, rfl⟩ := List.mem_iff_getElem.1 hr
  obtain ⟨_, ao, cap, rfl, hc⟩ := h
  obtain ⟨b, off, rfl, _, hx⟩ := hc (by omega)
  obtain ⟨_, _, _, _, _, _, _, hby⟩ := hx k hk
  exact hby.2.2
/-- append onto a full row that is only read -/
theorem wpList_append_over {P : Program} {w : World} {ops : Array Oper} {rest : List Oper} {o : Oper} {a : Act} {Q : Exit → Act → World → Prop} (hgd : o.guard = none) (s x : Operand) (t : TypeId)
    (ho : o.op = .call { callee := .builtin .append, args := #[s, x], argTypes := #[t, t] })
    (base : Nat) (e : TypeId) (i : TypeInfo) (z : Value) (size bytes : Nat) (ht : P.underlying t = some (.slice e)) (hi : P.info? e = some i) (hz : i.zero = some z)
    (hsize : i.size = size) (hby : i.bytes = bytes) (hzs : z.cells.size = size) (b : Addr) (n cap : Nat) (xs : List Value) (hs : a.eval s = .slice (some b) n cap) (hxl : xs.length = n * size) (hold : ∀ j v, xs[j]? = some v → w.cell? (b.add j) = some v)
    (ad : Addr) (m c : Nat) (news : List Value) (hx : a.eval x = .slice (some ad) m c) (hl : news.length = m * size) (hnews : ∀ j u, news[j]? = some u → w.cell? (ad.add j) = some u) (hfull : cap < n + m)
    (h63 : n + m ≤ maxLen) (hbytes : (n + m) * bytes ≤ 140737488355328) (hbase : base ≤ w.heap.size)
    (h : ∀ v' w', w'.ownsRow base e size v' (n + m) (xs ++ news) → Below w.heap.size w w' → wpList P ops Q rest (a.put o.dst v') w') : wpList P ops Q (o :: rest) a w := by
  subst hsize
  subst hby
  refine wpList_plain hgd fun K hK => ?_
  have hr := run_append_grow (P := P) w t o.type e i z ht hi hz b n cap xs hxl hold ad m c news hl hnews hfull (by unfold maxLen at h63; omega) (growslice_fits (by omega) (by simpa using hbytes))
  have hlen : (xs ++ news).length = (n + m) * i.size := by rw [List.length_append, hxl, hl, Nat.add_mul]
  have hge := grownCap_ge w (n + m) cap e
  have hcm : grownCap w (n + m) cap e ≤ maxLen := grownCap_le_maxLen w (n + m) cap e h63
  unfold Oper.wp execOp
  simp only [ho, resolve, invoke, builtin, Sem.run_bind, Sem.run_pure, Result.andThen_ok, List.map_toArray, List.map_cons, List.map_nil, hs, hx, hr]
  refine hK _ _ (h _ _ ⟨hlen, .inr ⟨w.heap.size, _, _, rfl, hbase, heap_alloc_new w.drew _, hge, hcm, ?_, ?_⟩⟩ (((Below.refl w.heap.size w).drew).alloc (Nat.le_refl _) _))
  · simp only [Array.size_append, List.size_toArray, size_zeroCells, hzs, hxl, hl, ← Nat.add_mul]
    congr 1
    omega
  · simp only [Array.toList_append, List.append_assoc]
    rw [← List.append_assoc, ← hlen]
    exact List.take_left
set_option maxRecDepth 100000 in
theorem put5_any (T C F K L : Nat) (hT : T < 18446744073709551616) (hC : C < 256) (hF : F < 256) (hK : K < 256) (hL : L < 65536) (X : World) :
    Calls Tryd.prog 29 #[.slice (some ⟨X.heap.size, 0, none⟩) 5 5] (X.alloc (.cells #[.int .i64 8, .int .u64 T, .int .i64 1, .int .u64 C, .int .i64 1, .int .u64 F, .int .i64 1, .int .u64 K, .int .i64 2, .int .u64 L] 61)) fun e w' => ∃ a' c', e = .returned (.tuple #[.slice a' 13 c', .int .i64 0]) ∧ BytesAt w' (.slice a' 13 c') (fdb [(8, T), (1, C), (1, F), (1, K), (2, L)]) ∧ Below X.heap.size X w' := by
  have bP := Blk.new X 61 [.int .i64 8, .int .u64 T, .int .i64 1, .int .u64 C, .int .i64 1, .int .u64 F, .int .i64 1, .int .u64 K, .int .i64 2, .int .u64 L]
  have hsr : SR (X.alloc (.cells #[.int .i64 8, .int .u64 T, .int .i64 1, .int .u64 C, .int .i64 1, .int .u64 F, .int .i64 1, .int .u64 K, .int .i64 2, .int .u64 L] 61)) (.slice (some ⟨X.heap.size, 0, none⟩) 5 5) 5 2 (fdc [(8, T), (1, C), (1, F), (1, K), (2, L)]) :=
    ⟨by unfold maxLen; omega, rfl, fdc_one _, some ⟨X.heap.size, 0, none⟩, 5, rfl, fun h => (by cases h), fun _ => ⟨X.heap.size, 0, rfl, bP.lt, fun j u hj => by rw [Nat.zero_add]; exact bP.cell hj⟩⟩
  refine (oput_any _ [(8, T), (1, C), (1, F), (1, K), (2, L)] _ hsr ?_ (by simp)).mono ?_
  · intro f hf
    simp only [List.mem_cons, List.not_mem_nil, or_false] at hf
    rcases hf with rfl | rfl | rfl | rfl | rfl <;> refine ⟨?_, ?_, ?_⟩ <;> simp only <;> omega
  · rintro e w' ⟨v', rfl, hown, hB⟩
    have hl : (fdb [(8, T), (1, C), (1, F), (1, K), (2, L)]).length = 13 := by simp [fdb, putB_len]
    have hby := bytesAt_of_own hown rfl (fun x hx => ?_) (by rw [hl]; omega)
    obtain ⟨a', c', rfl⟩ := hby.1.val
    rw [hl] at hby
    refine ⟨a', c', by rw [hl], hby, ((Below.refl X.heap.size X).alloc (Nat.le_refl _) _).trans (hB.mono (by simp))⟩
    simp only [fdb, List.flatMap_cons, List.flatMap_nil, List.append_nil, List.mem_append] at hx
    rcases hx with hx | hx | hx | hx | hx <;> exact putB_lt _ _ x hx
/-- what Write hands back -/
def WriteP (w : World) (l : List Cp) (n : Nat) (E : Int) (e : Ending) (w' : World) : Prop :=
  ∃ v : Value, e = .returned (.tuple #[v, .int .i64 E]) ∧ Below w.heap.size w w' ∧ (E = 0 → BytesC w' v (wrB l n)) ∧ (E ≠ 0 → v = .slice none 0 0)
theorem WriteP.err {w w' : World} {l : List Cp} {n : Nat} {E : Int} (hE : E ≠ 0) (hB : Below w.heap.size w w') : WriteP w l n E (.returned (.tuple #[.slice none 0 0, .int .i64 E])) w' :=
  ⟨_, rfl, hB, fun h => absurd h hE, fun _ => rfl⟩
/-- the file so far: the call's own row, or the first four bytes -/
def Out (B : Nat) (wr : World) (v : Value) (bs : List Nat) : Prop :=
  wr.ownsRow B 5 1 v bs.length (bcells bs) ∨ (bs = mag ∧ v = .slice (some ⟨B, 0, none⟩) 4 4 ∧ SR wr v 4 1 (bcells mag))
theorem Out.below {B : Nat} {w w' : World} {v : Value} {bs : List Nat} (h : Out B w v bs) (hb : Below w.heap.size w w') : Out B w' v bs := by
  rcases h with h | ⟨h1, h2, h3⟩
  · exact .inl (own_below h hb)
  · exact .inr ⟨h1, h2, h3.below hb⟩
theorem Out.bytes {B : Nat} {w : World} {v : Value} {bs : List Nat} (h : Out B w v bs) (hb : ∀ x ∈ bs, x < 256) (hm : bs.length ≤ 1000000) : BytesC w v bs := by
  rcases h with h | ⟨rfl, rfl, h3⟩
  · exact bytesC_of_own h rfl hb (by omega)
  · exact ⟨⟨h3, by unfold reachBytes; decide, hb⟩, _, _, rfl, by decide⟩
end Go.Proofs.YtccknpdnapoboaaDoor
