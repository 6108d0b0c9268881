/- M2. -/
import Derived.Test.YtpgfjadjhliohaaGreatV19M1
import Derived.Lib.ConvBytes
import Derived.Laws.BytesString
import Derived.IntWalk
import Derived.LoopN
import Derived.StillTail
import Derived.Lib.Overlaps
import Derived.ChangeKeysEq
namespace Go.Abs
def fillRows (z : Nat) (rows : List (List Value)) : List (Nat × Value) → Option (List (List Value))
  | [] => some rows
  | (i, v) :: rest => bif okv v && decide ((cellsL v).length = z) && decide (i < rows.length) then fillRows z (rows.set i (cellsL v)) rest else none
def vcBuildSlice (P : Program) (t : TypeId) (len : Nat) (parts : List (Nat × Value)) (st : St) (K : Value → St → Prop) : Prop :=
  match P.underlying t with
  | some (.slice e) => match szOf P e, zeroOf P e with
    | some z, some zv => bs (plain zv && decide ((cellsL zv).length = z) && decide (0 < z) && decide (len * z ≤ 16777216)) (match fillRows z (List.replicate len (cellsL zv)) parts with
      | some rows => K (.slice (some ⟨st.h.n, 0, some z⟩) len (len + 1)) { st with h := st.h.push ⟨rows, z, true⟩ }
      | none => False) False
    | _, _ => False
  | _ => False
def vcMake (P : Program) (t : TypeId) (l c : Value) (st : St) (K : Value → St → Prop) : Prop :=
  match l, c with
  | .int _ m, .int _ n => match P.underlying t with
    | some (.slice e) => match szOf P e, zeroOf P e with
      | some z, some zv => bs (plain zv && decide ((cellsL zv).length = z) && decide (0 < z) && decide (0 < bytesOf P e)) (0 ≤ m ∧ m ≤ n ∧ n * bytesOf P e ≤ 140737488355328 ∧
          K (.slice (some ⟨st.h.n, 0, some z⟩) m.toNat (n.toNat + 1)) { st with h := st.h.push ⟨List.replicate m.toNat (cellsL zv), z, true⟩ }) False
      | _, _ => False
    | _ => False
  | _, _ => False
def vcB2S (P : Program) (src dst : TypeId) (v : Value) (st : St) (K : Value → Prop) : Prop :=
  match v with
  | .slice a n c => match P.underlying src, P.underlying dst with
    | some (.slice e), some .string => (match P.underlying e with
      | some (.int .u8) => ∃ s, st.h.rowsOf (.slice a n c) = some (bytesRows s) ∧ K (.string s)
      | _ => False)
    | _, _ => False
  | _ => False
def vcS2B (P : Program) (src dst : TypeId) (v : Value) (st : St) (K : Value → St → Prop) : Prop :=
  match v with
  | .string s => match P.underlying src, P.underlying dst with
    | some _, some (.slice e) => (match P.underlying e with
      | some (.int .u8) => K (.slice (some ⟨st.h.n, 0, some 1⟩) s.size 0) { st with h := st.h.push ⟨bytesRows s, 1, true⟩ }
      | _ => False)
    | _, _ => False
  | _ => False
theorem flatten_set {z : Nat} : ∀ (rows : List (List Value)) (i : Nat) (vs : List Value), (∀ row ∈ rows, row.length = z) → vs.length = z → i < rows.length → (rows.set i vs).flatten = setRange rows.flatten (i * z) vs
  | [], i, vs, _, _, hi => by simp at hi
  | row :: rows, 0, vs, h, hv, _ => by
    have hr := h row (by simp)
    simp only [List.set_cons_zero, List.flatten_cons, setRange, Nat.zero_mul, List.take_zero, List.nil_append, Nat.zero_add]
    rw [List.drop_append_of_le_length (by omega), List.drop_of_length_le (by omega), List.nil_append]
  | row :: rows, i + 1, vs, h, hv, hi => by
    have hr := h row (by simp)
    have ih := flatten_set rows i vs (fun x hx => h x (by simp [hx])) hv (by simpa using hi)
    simp only [List.set_cons_succ, List.flatten_cons, ih, setRange]
    rw [show (i + 1) * z = row.length + i * z from by rw [Nat.succ_mul, hr]; omega, List.take_length_add_append, show row.length + i * z + vs.length = row.length + (i * z + vs.length) from by omega, List.drop_length_add_append]
    simp only [List.append_assoc]
theorem fillRows_fill {z : Nat} : ∀ (parts : List (Nat × Value)) (rows out : List (List Value)), (∀ row ∈ rows, row.length = z) → fillRows z rows parts = some out →
    fillL (fun i => some (i * z, z)) rows.flatten parts = some out.flatten ∧ (∀ row ∈ out, row.length = z) ∧ out.length = rows.length
  | [], rows, out, h, hf => by simp only [fillRows, Option.some.injEq] at hf; subst hf; exact ⟨rfl, h, rfl⟩
  | (i, v) :: rest, rows, out, h, hf => by
    unfold fillRows at hf
    cases hq : (okv v && decide ((cellsL v).length = z) && decide (i < rows.length)) with
    | false => rw [hq] at hf; cases hf
    | true =>
    rw [hq] at hf
    simp only [Bool.and_eq_true, decide_eq_true_eq] at hq
    obtain ⟨⟨hok, hz⟩, hi⟩ := hq
    have hlen := flat_length rows h
    have hfit : i * z + z ≤ rows.flatten.length := by
      rw [hlen, ← Nat.succ_mul]; exact Nat.mul_le_mul_right _ hi
    obtain ⟨a, b, c⟩ := fillRows_fill rest (rows.set i (cellsL v)) out (fun row hr => by
      rcases List.mem_or_eq_of_mem_set hr with h1 | h1
      · exact h row h1
      · rw [h1]; exact hz) hf
    refine ⟨?_, b, by rw [c, List.length_set]⟩
    unfold fillL
    simp only [hok, hz, hfit, decide_true, Bool.and_self, cond_true]
    rw [flatten_set rows i (cellsL v) h hz hi] at a
    exact a
theorem FRel.of_flat {L : Lay} {rows : List (List Value)} {z : Nat} {A : Array Value} (h : ∀ row ∈ rows, row.length = z) (hr : LRel L rows.flatten A) : ∀ (i : Nat) (row : List Value), rows[i]? = some row → ∀ (j : Nat) (v : Value), row[j]? = some v → ∃ V, A[i * z + j]? = some V ∧ VRel L v V := by
  intro i row hi j v hj
  have hl := h row (List.mem_of_getElem? hi)
  have hjz : j < z := by have := (List.getElem?_eq_some_iff.1 hj).1; omega
  exact hr.2 _ v (by rw [flat_get rows h i j hjz, hi]; exact hj)
theorem zeros_rel {L : Lay} {zl : List Value} {Z : Array Value} (h : LRel L zl Z) (hz : 0 < zl.length) (n : Nat) : LRel L (List.replicate n zl).flatten ((Array.range (n * zl.length)).map fun k => Z[k % Z.size]!) := by
  have hl : ∀ row ∈ List.replicate n zl, row.length = zl.length := fun row hr => by rw [List.eq_of_mem_replicate hr]
  refine ⟨by rw [flat_length _ hl]; simp, fun k v hk => ?_⟩
  have hk1 : k < n * zl.length := by have := (List.getElem?_eq_some_iff.1 hk).1; rw [flat_length _ hl] at this; simpa using this
  have hd : k / zl.length < n := by rw [Nat.div_lt_iff_lt_mul hz]; exact hk1
  have hm : k % zl.length < zl.length := Nat.mod_lt _ hz
  have e : k / zl.length * zl.length + k % zl.length = k := by rw [Nat.mul_comm]; exact Nat.div_add_mod k _
  have g := flat_get _ hl (k / zl.length) (k % zl.length) hm
  rw [e, hk, List.getElem?_replicate, if_pos hd] at g
  obtain ⟨V, a, b⟩ := h.2 _ v g.symm
  refine ⟨V, ?_, b⟩
  rw [Array.getElem?_map, Array.getElem?_range, if_pos hk1]
  simp only [Option.map_some]
  rw [← h.1, getElem!_def, a]
section
variable {P : Program} {nt : Nat} {o : Oper} {st : St}
def NewSem (P : Program) (o : Oper) (t : Nat → Value) (v : Value) (l : Nat) (ob : AObj) : Prop :=
  ob.rw = true ∧ (∀ (i : Nat) (row : List Value), ob.rows[i]? = some row → row.length = ob.esz) ∧ ∀ (L : Lay) (lam : List Nat) (a : Act), Known L lam t a.tmps → ∃ (cs : Array Value) (ty : TypeId) (V : Nat → Value),
    (∀ (i : Nat) (row : List Value), ob.rows[i]? = some row → ∀ (j : Nat) (v : Value), row[j]? = some v → ∃ V, cs[i * ob.esz + j]? = some V ∧ VRel L v V) ∧
    (∀ (L' : Lay) (b : Nat), L' l = some ⟨b, 0, ob.esz, cs.size, true⟩ → VRel L' v (V b)) ∧
    ∀ w, (execOp a.eval o).run P w = .ok (.value (V w.heap.size)) (w.alloc (.cells cs ty))
theorem newSlice_sem {t : Nat → Value} {l : Nat} {rows : List (List Value)} {z len cp : Nat} {n c : Nat} (hn : n ≤ cp) (hc : c = 0 ∨ c = cp + 1) (hlen : ∀ row ∈ rows, row.length = z) (hl : len = cp)
    (run : ∀ (L : Lay) (lam : List Nat) (a : Act), Known L lam t a.tmps → ∃ (cs : Array Value) (ty : TypeId), cs.size = cp * z ∧ (∀ (i : Nat) (row : List Value), rows[i]? = some row → ∀ (j : Nat) (v : Value), row[j]? = some v → ∃ V, cs[i * z + j]? = some V ∧ VRel L v V) ∧
      ∀ w, (execOp a.eval o).run P w = .ok (.value (.slice (some ⟨w.heap.size, 0, none⟩) n cp)) (w.alloc (.cells cs ty))) : NewSem P o t (.slice (some ⟨l, 0, some z⟩) n c) l ⟨rows, z, true⟩ := by
  subst hl
  refine ⟨rfl, fun i row h => hlen row (List.mem_of_getElem? h), fun L lam a kn => ?_⟩
  obtain ⟨cs, ty, hsz, hr, hrun⟩ := run L lam a kn
  refine ⟨cs, ty, fun b => .slice (some ⟨b, 0, none⟩) n len, hr, fun L' b hb => ?_, hrun⟩
  refine VRel.slice (s := ⟨b, 0, z, cs.size, true⟩) hb rfl hn (.inr (by simp)) (fun _ => ?_) hc
  show 0 + (0 + len) * z ≤ cs.size
  rw [hsz, Nat.zero_add, Nat.zero_add]; exact Nat.le_refl _
theorem newSlice_sound {K : Value → St → Prop} {rows : List (List Value)} {z len cp : Nat} {n c : Nat} (hK : K (.slice (some ⟨st.h.n, 0, some z⟩) n c) { st with h := st.h.push ⟨rows, z, true⟩ }) (hn : n ≤ cp) (hc : c = 0 ∨ c = cp + 1) (hlen : ∀ row ∈ rows, row.length = z) (hl : len = cp)
    (run : ∀ (L : Lay) (lam : List Nat) (a : Act), Known L lam st.t a.tmps → ∃ (cs : Array Value) (ty : TypeId), cs.size = cp * z ∧ (∀ (i : Nat) (row : List Value), rows[i]? = some row → ∀ (j : Nat) (v : Value), row[j]? = some v → ∃ V, cs[i * z + j]? = some V ∧ VRel L v V) ∧
      ∀ w, (execOp a.eval o).run P w = .ok (.value (.slice (some ⟨w.heap.size, 0, none⟩) n cp)) (w.alloc (.cells cs ty))) : ∃ v st', K v st' ∧ OpSem P nt o st v st' := by
  subst hl
  refine ⟨_, _, hK, rfl, fun L F R w0 w lam a r _ next Q hnx => ?_⟩
  obtain ⟨cs, ty, hsz, hr, hrun⟩ := run L lam a r.known
  have key := r.heap (o := ⟨rows, z, true⟩) (cs := cs) ty (0, 0) (.inl (Nat.le_refl _)) rfl (fun i row hi => hlen row (List.mem_of_getElem? hi)) hr
  unfold Oper.wp
  rw [hrun w, Oper.upon_value]
  refine hnx _ _ _ lam (.inr (.of (VRel.slice (s := ⟨w.heap.size, 0, z, cs.size, true⟩) (if_pos rfl) rfl hn (.inr (by simp)) (fun _ => ?_) hc))) key.2 (List.prefix_refl _) key.1
  show 0 + (0 + len) * z ≤ cs.size
  rw [hsz, Nat.zero_add, Nat.zero_add]; exact Nat.le_refl _
theorem buildSlice_sound {t : TypeId} {len : Nat} {ps : Array (Nat × Operand)} {K : Value → St → Prop} (ho : o.op = .buildSlice t len ps) (h : vcBuildSlice P t len (ps.map fun x => (x.1, ev st.t x.2)).toList st K) : ∃ v st', K v st' ∧ OpSem P nt o st v st' := by
  unfold vcBuildSlice at h
  split at h
  case h_2 => exact h.elim
  rename_i e hu
  split at h
  case h_2 => exact h.elim
  rename_i z zv hz hzv
  obtain ⟨hq, h⟩ := bs_false h
  simp only [Bool.and_eq_true, decide_eq_true_eq] at hq
  obtain ⟨⟨⟨hp, hzl⟩, hz0⟩, hbig⟩ := hq
  split at h
  case h_2 => exact h.elim
  rename_i rows hf
  have hrep : ∀ row ∈ List.replicate len (cellsL zv), row.length = z := fun row hr => by rw [List.eq_of_mem_replicate hr]; exact hzl
  obtain ⟨hfl, hlen, hrl⟩ := fillRows_fill _ _ _ hrep hf
  refine newSlice_sound (cp := len) (len := len) h (Nat.le_refl _) (.inr rfl) hlen rfl fun L lam a kn => ?_
  have hzc := cells_rel (VRel.plain (L := L) hp) (plain_nj hp)
  have hZ : LRel L (cellsL zv) zv.cells := .of hzc.1 hzc.2
  have hbase := zeros_rel hZ (by omega) len
  rw [hzl] at hbase
  obtain ⟨B, hB, hR⟩ := fill_rel (L := L) _ _ _ _ rows.flatten hfl hbase (parts_rel kn ps).1 (parts_rel kn ps).2
  refine ⟨B, e, ?_, FRel.of_flat hlen hR, fun w => ?_⟩
  · rw [← hR.1, flat_length rows hlen, hrl]; simp
  · have h1 : ¬ len * z > 2 ^ 24 := by omega
    unfold execOp; rw [ho]
    by_cases h0 : len * z = 0
    · have hl0 : len = 0 := by rcases Nat.mul_eq_zero.1 h0 with h2 | h2; exact h2; omega
      subst hl0
      have hr0 : Array.range 0 = #[] := rfl
      simp only [Nat.zero_mul, hr0, Array.map_empty] at hB
      simp [Instr.buildSlice, run_underlying hu, size_run hz, hr0] at hB ⊢
      rw [hB]; simp [run_newRow']
    · have h0' : ¬ (len = 0 ∨ z = 0) := fun h2 => h0 (Nat.mul_eq_zero.2 h2)
      simp [Instr.buildSlice, run_underlying hu, size_run hz, zero_run hzv, h1] at hB ⊢
      rw [hB]; simp [run_newRow']
      intro h2; exact absurd (Nat.mul_eq_zero.1 h2) h0'
theorem buildSlice_new {t : TypeId} {len : Nat} {ps : Array (Nat × Operand)} {K : Value → St → Prop} (ho : o.op = .buildSlice t len ps) (h : vcBuildSlice P t len (ps.map fun x => (x.1, ev st.t x.2)).toList st K) : ∃ rows z n c, K (.slice (some ⟨st.h.n, 0, some z⟩) n c) { st with h := st.h.push ⟨rows, z, true⟩ } ∧ NewSem P o st.t (.slice (some ⟨st.h.n, 0, some z⟩) n c) st.h.n ⟨rows, z, true⟩ := by
  unfold vcBuildSlice at h
  split at h
  case h_2 => exact h.elim
  rename_i e hu
  split at h
  case h_2 => exact h.elim
  rename_i z zv hz hzv
  obtain ⟨hq, h⟩ := bs_false h
  simp only [Bool.and_eq_true, decide_eq_true_eq] at hq
  obtain ⟨⟨⟨hp, hzl⟩, hz0⟩, hbig⟩ := hq
  split at h
  case h_2 => exact h.elim
  rename_i rows hf
  have hrep : ∀ row ∈ List.replicate len (cellsL zv), row.length = z := fun row hr => by rw [List.eq_of_mem_replicate hr]; exact hzl
  obtain ⟨hfl, hlen, hrl⟩ := fillRows_fill _ _ _ hrep hf
  refine ⟨_, _, _, _, h, newSlice_sem (cp := len) (len := len) (Nat.le_refl _) (.inr rfl) hlen rfl fun L lam a kn => ?_⟩
  have hzc := cells_rel (VRel.plain (L := L) hp) (plain_nj hp)
  have hZ : LRel L (cellsL zv) zv.cells := .of hzc.1 hzc.2
  have hbase := zeros_rel hZ (by omega) len
  rw [hzl] at hbase
  obtain ⟨B, hB, hR⟩ := fill_rel (L := L) _ _ _ _ rows.flatten hfl hbase (parts_rel kn ps).1 (parts_rel kn ps).2
  refine ⟨B, e, ?_, FRel.of_flat hlen hR, fun w => ?_⟩
  · rw [← hR.1, flat_length rows hlen, hrl]; simp
  · have h1 : ¬ len * z > 2 ^ 24 := by omega
    unfold execOp; rw [ho]
    by_cases h0 : len * z = 0
    · have hl0 : len = 0 := by rcases Nat.mul_eq_zero.1 h0 with h2 | h2; exact h2; omega
      subst hl0
      have hr0 : Array.range 0 = #[] := rfl
      simp only [Nat.zero_mul, hr0, Array.map_empty] at hB
      simp [Instr.buildSlice, run_underlying hu, size_run hz, hr0] at hB ⊢
      rw [hB]; simp [run_newRow']
    · have h0' : ¬ (len = 0 ∨ z = 0) := fun h2 => h0 (Nat.mul_eq_zero.2 h2)
      simp [Instr.buildSlice, run_underlying hu, size_run hz, zero_run hzv, h1] at hB ⊢
      rw [hB]; simp [run_newRow']
      intro h2; exact absurd (Nat.mul_eq_zero.1 h2) h0'
theorem make_sound {t : TypeId} {x y : Operand} {K : Value → St → Prop} (ho : o.op = .makeSlice t x y) (h : vcMake P t (ev st.t x) (ev st.t y) st K) : ∃ v st', K v st' ∧ OpSem P nt o st v st' := by
  unfold vcMake at h
  split at h
  case h_2 => exact h.elim
  rename_i k1 m k2 n hx hy
  split at h
  case h_2 => exact h.elim
  rename_i e hu
  split at h
  case h_2 => exact h.elim
  rename_i z zv hz hzv
  obtain ⟨hq, h0, h1, h2, h⟩ := bs_false h
  simp only [Bool.and_eq_true, decide_eq_true_eq] at hq
  obtain ⟨⟨⟨hp, hzl⟩, hz0⟩, hb0⟩ := hq
  have hrep : ∀ row ∈ List.replicate m.toNat (cellsL zv), row.length = z := fun row hr => by rw [List.eq_of_mem_replicate hr]; exact hzl
  refine newSlice_sound (cp := n.toNat) (len := n.toNat) h (by omega) (.inr rfl) hrep rfl fun L lam a kn => ?_
  have hzc := cells_rel (VRel.plain (L := L) hp) (plain_nj hp)
  have hZ : LRel L (cellsL zv) zv.cells := .of hzc.1 hzc.2
  have hbase := zeros_rel hZ (by omega) n.toNat
  rw [hzl] at hbase
  have hrepn : ∀ row ∈ List.replicate n.toNat (cellsL zv), row.length = z := fun row hr => by rw [List.eq_of_mem_replicate hr]; exact hzl
  refine ⟨(Array.range (n.toNat * z)).map fun k => zv.cells[k % zv.cells.size]!, e, by simp, fun i row hi j v hj => ?_, fun w => ?_⟩
  · have him : i < m.toNat := by have := (List.getElem?_eq_some_iff.1 hi).1; simpa using this
    refine FRel.of_flat hrepn hbase i row ?_ j v hj
    rw [List.getElem?_replicate, if_pos him] at hi
    rw [List.getElem?_replicate, if_pos (by omega)]; exact hi
  · obtain ⟨ti, hti, hbt⟩ : ∃ ti, P.info? e = some ti ∧ ti.bytes = bytesOf P e := by
      unfold szOf at hz
      cases hi : P.info? e with
      | none => rw [hi] at hz; cases hz
      | some ti => exact ⟨ti, rfl, by simp [bytesOf, hi]⟩
    have hn47 : n ≤ 140737488355328 := by
      have : n * 1 ≤ n * (bytesOf P e : Int) := Int.mul_le_mul_of_nonneg_left (by omega) (by omega)
      omega
    have wn : IntKind.i64.wrap n = n := IntWalk.i64_in _ (by omega)
    have wm : IntKind.i64.wrap m = m := IntWalk.i64_in _ (by omega)
    have hbn : ¬ ((bytesOf P e : Int) * n > 2 ^ 48) := by rw [Int.mul_comm]; omega
    have hbn' : ¬ (281474976710656 < (bytesOf P e : Int) * n) := by rw [Int.mul_comm]; omega
    have ask : ∀ (b : Nat) (w : World), (askRoom b).run P w = .ok () w := by
      intro b w; unfold askRoom; split <;> rfl
    have hn0 : ¬ n < 0 := by omega
    have hm0 : ¬ m < 0 := by omega
    have hmn : ¬ m > n := by omega
    have hcond : ¬ (((decide (n < 0) || decide ((ti.bytes : Int) * n > 2 ^ 48)) || decide (m < 0)) || decide (m > n)) = true := by
      rw [hbt]; simp only [Bool.or_eq_true, decide_eq_true_eq]; omega
    unfold execOp; rw [ho]
    by_cases hn : n.toNat * z = 0
    · have this : n.toNat = 0 := by rcases Nat.mul_eq_zero.1 hn with h3 | h3; exact h3; omega
      have hr0 : ∀ (f : Nat → Value), Array.map f (Array.range 0) = #[] := fun f => by simp
      simp [hr0, Instr.makeSlice, run_underlying hu, kn.int hx, kn.int hy, asInt, asIntOf, typeInfo, hti, wn, wm, hbt, hbn', hn0, hm0, hmn, ask, size_run hz, hn, this, run_newRow']
    · simp [Instr.makeSlice, run_underlying hu, kn.int hx, kn.int hy, asInt, asIntOf, typeInfo, hti, wn, wm, hbt, hbn', hn0, hm0, hmn, ask, size_run hz, hn, zero_run hzv, run_newRow']
theorem make_new {t : TypeId} {x y : Operand} {K : Value → St → Prop} (ho : o.op = .makeSlice t x y) (h : vcMake P t (ev st.t x) (ev st.t y) st K) : ∃ rows z n c, K (.slice (some ⟨st.h.n, 0, some z⟩) n c) { st with h := st.h.push ⟨rows, z, true⟩ } ∧ NewSem P o st.t (.slice (some ⟨st.h.n, 0, some z⟩) n c) st.h.n ⟨rows, z, true⟩ := by
  unfold vcMake at h
  split at h
  case h_2 => exact h.elim
  rename_i k1 m k2 n hx hy
  split at h
  case h_2 => exact h.elim
  rename_i e hu
  split at h
  case h_2 => exact h.elim
  rename_i z zv hz hzv
  obtain ⟨hq, h0, h1, h2, h⟩ := bs_false h
  simp only [Bool.and_eq_true, decide_eq_true_eq] at hq
  obtain ⟨⟨⟨hp, hzl⟩, hz0⟩, hb0⟩ := hq
  have hrep : ∀ row ∈ List.replicate m.toNat (cellsL zv), row.length = z := fun row hr => by rw [List.eq_of_mem_replicate hr]; exact hzl
  refine ⟨_, _, _, _, h, newSlice_sem (cp := n.toNat) (len := n.toNat) (by omega) (.inr rfl) hrep rfl fun L lam a kn => ?_⟩
  have hzc := cells_rel (VRel.plain (L := L) hp) (plain_nj hp)
  have hZ : LRel L (cellsL zv) zv.cells := .of hzc.1 hzc.2
  have hbase := zeros_rel hZ (by omega) n.toNat
  rw [hzl] at hbase
  have hrepn : ∀ row ∈ List.replicate n.toNat (cellsL zv), row.length = z := fun row hr => by rw [List.eq_of_mem_replicate hr]; exact hzl
  refine ⟨(Array.range (n.toNat * z)).map fun k => zv.cells[k % zv.cells.size]!, e, by simp, fun i row hi j v hj => ?_, fun w => ?_⟩
  · have him : i < m.toNat := by have := (List.getElem?_eq_some_iff.1 hi).1; simpa using this
    refine FRel.of_flat hrepn hbase i row ?_ j v hj
    rw [List.getElem?_replicate, if_pos him] at hi
    rw [List.getElem?_replicate, if_pos (by omega)]; exact hi
  · obtain ⟨ti, hti, hbt⟩ : ∃ ti, P.info? e = some ti ∧ ti.bytes = bytesOf P e := by
      unfold szOf at hz
      cases hi : P.info? e with
      | none => rw [hi] at hz; cases hz
      | some ti => exact ⟨ti, rfl, by simp [bytesOf, hi]⟩
    have hn47 : n ≤ 140737488355328 := by
      have : n * 1 ≤ n * (bytesOf P e : Int) := Int.mul_le_mul_of_nonneg_left (by omega) (by omega)
      omega
    have wn : IntKind.i64.wrap n = n := IntWalk.i64_in _ (by omega)
    have wm : IntKind.i64.wrap m = m := IntWalk.i64_in _ (by omega)
    have hbn : ¬ ((bytesOf P e : Int) * n > 2 ^ 48) := by rw [Int.mul_comm]; omega
    have hbn' : ¬ (281474976710656 < (bytesOf P e : Int) * n) := by rw [Int.mul_comm]; omega
    have ask : ∀ (b : Nat) (w : World), (askRoom b).run P w = .ok () w := by
      intro b w; unfold askRoom; split <;> rfl
    have hn0 : ¬ n < 0 := by omega
    have hm0 : ¬ m < 0 := by omega
    have hmn : ¬ m > n := by omega
    have hcond : ¬ (((decide (n < 0) || decide ((ti.bytes : Int) * n > 2 ^ 48)) || decide (m < 0)) || decide (m > n)) = true := by
      rw [hbt]; simp only [Bool.or_eq_true, decide_eq_true_eq]; omega
    unfold execOp; rw [ho]
    by_cases hn : n.toNat * z = 0
    · have this : n.toNat = 0 := by rcases Nat.mul_eq_zero.1 hn with h3 | h3; exact h3; omega
      have hr0 : ∀ (f : Nat → Value), Array.map f (Array.range 0) = #[] := fun f => by simp
      simp [hr0, Instr.makeSlice, run_underlying hu, kn.int hx, kn.int hy, asInt, asIntOf, typeInfo, hti, wn, wm, hbt, hbn', hn0, hm0, hmn, ask, size_run hz, hn, this, run_newRow']
    · simp [Instr.makeSlice, run_underlying hu, kn.int hx, kn.int hy, asInt, asIntOf, typeInfo, hti, wn, wm, hbt, hbn', hn0, hm0, hmn, ask, size_run hz, hn, zero_run hzv, run_newRow']
theorem bytes_fold (l : List UInt8) : ∀ (r : ByteArray), ((l.map fun b => ((b.toNat : Nat) : Int)).foldl (fun (r : ByteArray) (n : Int) => r.push (UInt8.ofNat n.toNat)) r).data.toList = r.data.toList ++ l := by
  induction l with
  | nil => intro r; simp
  | cons b l ih =>
    intro r
    simp only [List.map_cons, List.foldl_cons, ih]
    simp [ByteArray.push]
theorem exec_conv {src dst : TypeId} {x : Operand} (ho : o.op = .convert src dst x) {a : Act} {w w' : World} {V : Value} (h : (convert src dst (a.eval x)).run P w = .ok V w') : (execOp a.eval o).run P w = .ok (.value V) w' := by
  unfold execOp; rw [ho]; simp [h]
theorem b2s_sound {src dst : TypeId} {x : Operand} {K : Value → Prop} (ho : o.op = .convert src dst x) (h : vcB2S P src dst (ev st.t x) st K) : ∃ v, K v ∧ OpSem P nt o st v st := by
  unfold vcB2S at h
  split at h
  case h_2 => exact h.elim
  rename_i ad n c hx
  split at h
  case h_2 => exact h.elim
  rename_i e hs hd
  split at h
  case h_2 => exact h.elim
  rename_i he
  obtain ⟨s, hr, h⟩ := h
  refine ⟨_, h, .reads fun L F R w0 w lam a r => ⟨_, .inr (.of (.string s)), ?_⟩⟩
  have rl : VRel L (.slice ad n c) (a.eval x) := r.known.of hx (by simp [undef])
  refine exec_conv ho ?_
  generalize a.eval x = X at rl ⊢
  cases rl with
  | sliceN =>
    have hs0 : s = ByteArray.empty := by
      have e0 : bytesRows s = [] := (Option.some.inj hr).symm
      have e1 : s.data.toList = [] := List.map_eq_nil_iff.1 e0
      cases s with | mk d => congr 1; exact Array.toList_inj.1 e1
    subst hs0
    simp [convert, run_underlying hs, run_underlying hd, run_underlying he, Conv.bytesToString]
  | slice hl hez hnC hA room hc =>
    rename_i l i e' C q A
    obtain ⟨hes, hlen, cs, hF, hcell⟩ := r.rel.rows hr hl
    have hn : n = s.data.toList.length := by rw [← hlen]; simp [bytesRows]
    have hcs : cs = s.data.toList.map fun b => .int .u8 b.toNat := by
      by_cases h0 : n = 0
      · have e1 : s.data.toList = [] := List.eq_nil_of_length_eq_zero (by omega)
        have e2 : cs = [] := List.eq_nil_of_length_eq_zero (by rw [hF.2.1, hlen, h0]; simp)
        rw [e2, e1]; rfl
      · have e1 : e' = 1 := by
          have hlt : 0 < s.data.toList.length := by omega
          have := hF.1 [.int .u8 (s.data.toList[0]).toNat] (by simp only [bytesRows, List.mem_map]; exact ⟨_, List.getElem_mem hlt, rfl⟩)
          simpa using this.symm
        subst e1
        apply List.ext_getElem?
        intro k
        by_cases hk : k < n
        · have hk' : k < s.data.toList.length := by omega
          have hrow : (bytesRows s)[k]? = some [.int .u8 (s.data.toList[k]).toNat] := by
            simp only [bytesRows, List.getElem?_map, List.getElem?_eq_getElem hk', Option.map_some]
          obtain ⟨V, a1, a2⟩ := hF.2.2 k _ hrow 0 _ rfl
          rw [Nat.mul_one, Nat.add_zero] at a1
          cases a2
          rw [a1, List.getElem?_map, List.getElem?_eq_getElem hk']; rfl
        · rw [List.getElem?_eq_none (by rw [hF.2.1, hlen]; omega), List.getElem?_eq_none (by rw [List.length_map]; omega)]
    have hload : (loadCells A n).run P w = .ok (cs.toArray) w := by
      have hl' : cs.length = n := by rw [hcs, List.length_map]; exact hn.symm
      by_cases h0 : n = 0
      · have : cs = [] := List.eq_nil_of_length_eq_zero (by omega)
        subst this; subst h0
        simpa using run_loadCells_list (P := P) w A [] (by simp)
      · have e1 : e' = 1 := by
          have := hF.2.1
          rw [hl', hlen] at this
          have h2 : n * e' = n * 1 := by omega
          exact Nat.eq_of_mul_eq_mul_left (by omega) h2
        have := run_loadCells_list (P := P) w A cs (fun j v hj => by
          rw [hA.resolve_left (by omega), add_addr]
          exact hcell j v hj)
        rw [hl'] at this; exact this
    have hcs' : cs = (s.data.toList.map fun b => ((b.toNat : Nat) : Int)).map (Value.int .u8) := by rw [hcs, List.map_map]; rfl
    rw [hcs'] at hload
    have hrun := run_bytesToString (P := P) w A n C _ hload
    have e3 : ((s.data.toList.map fun b => ((b.toNat : Nat) : Int)).foldl (fun (r : ByteArray) (n : Int) => r.push (UInt8.ofNat n.toNat)) ByteArray.empty) = s := by
      have := bytes_fold s.data.toList ByteArray.empty
      cases hq : ((s.data.toList.map fun b => ((b.toNat : Nat) : Int)).foldl (fun (r : ByteArray) (n : Int) => r.push (UInt8.ofNat n.toNat)) ByteArray.empty) with
      | mk d =>
        rw [hq] at this
        have h5 : ByteArray.empty.data.toList = [] := rfl
        rw [h5, List.nil_append] at this
        cases s with
        | mk d' => congr 1; exact Array.toList_inj.1 this
    rw [e3] at hrun
    simp [run_convert_bytes_string w src dst e (some A) n C hs he hd, hrun]
theorem s2b_sound {src dst : TypeId} {x : Operand} {K : Value → St → Prop} (ho : o.op = .convert src dst x) (h : vcS2B P src dst (ev st.t x) st K) : ∃ v st', K v st' ∧ OpSem P nt o st v st' := by
  unfold vcS2B at h
  split at h
  case h_2 => exact h.elim
  rename_i s hx
  split at h
  case h_2 => exact h.elim
  rename_i u e hs hd
  split at h
  case h_2 => exact h.elim
  rename_i he
  refine ⟨_, _, h, rfl, fun L F R w0 w lam a r _ next Q hn => ?_⟩
  have hrun := Lib.run_convert_string_bytes (P := P) w src dst e s hs hd he
  have hw : Lib.bytesWorld w e s = w.drew.alloc (.cells (Lib.bytesCells w e s) e ((Lib.bytesCells w e s).size, (Lib.bytesCells w e s).size + 1)) := by
    unfold Lib.bytesWorld World.freeze World.alloc
    rw [if_neg (by omega)]
    congr 1
    apply Array.ext
    · simp
    · intro i h1 h2
      simp only [Array.getElem_modify, Array.getElem_push]
      have hs' : w.drew.heap.size = w.heap.size := rfl
      by_cases hi : w.heap.size = i
      · subst hi; simp
      · rw [if_neg hi]
        have h3 : i < w.drew.heap.size := by rw [Array.size_push] at h2; omega
        rw [dif_pos h3, dif_pos h3]
  have hsz : (Lib.bytesCells w e s).size = grownCap w s.size 0 e := by
    have := grownCap_ge w s.size 0 e
    simp only [Lib.bytesCells, Array.size_append, Array.size_map, Array.size_replicate]
    have h6 : s.data.size = s.size := rfl
    omega
  have rd : StRel L F R w0 w.drew lam nt st a.tmps := ⟨r.rel.drew _, r.tsz, r.llen, r.lnd, r.lF, r.lrw, r.lblk, r.slots⟩
  have key := rd.heap (o := ⟨bytesRows s, 1, true⟩) (cs := Lib.bytesCells w e s) e ((Lib.bytesCells w e s).size, (Lib.bytesCells w e s).size + 1) (.inr ⟨rfl, Nat.le_refl _⟩) rfl
    (fun i row hi => by
      simp only [bytesRows, List.getElem?_map, Option.map_eq_some_iff] at hi
      obtain ⟨b, _, rfl⟩ := hi; rfl)
    (fun i row hi j v hj => by
      simp only [bytesRows, List.getElem?_map, Option.map_eq_some_iff] at hi
      obtain ⟨b, hb, rfl⟩ := hi
      cases j with
      | zero =>
        simp at hj; subst hj
        refine ⟨_, ?_, .int _ _⟩
        have hlt : i < s.data.size := by have := (List.getElem?_eq_some_iff.1 hb).1; simpa using this
        rw [Nat.mul_one, Nat.add_zero]
        unfold Lib.bytesCells
        rw [Array.getElem?_append_left (by simpa using hlt), Array.getElem?_map]
        rw [Array.getElem?_toList] at hb
        rw [hb]; rfl
      | succ j => simp at hj)
  unfold Oper.wp
  have hex : (execOp a.eval o).run P w = .ok (.value (.slice (some ⟨w.heap.size, 0, none⟩) s.size (grownCap w s.size 0 e))) (Lib.bytesWorld w e s) := by
    refine exec_conv ho ?_
    rw [r.known.string hx]; exact hrun
  rw [hex, Oper.upon_value, hw]
  refine hn _ _ _ lam (.inr (.of (VRel.slice (s := ⟨w.heap.size, 0, 1, (Lib.bytesCells w e s).size, true⟩) (if_pos rfl) rfl (grownCap_ge w s.size 0 e) (.inr (by simp)) (fun _ => ?_) (.inl rfl)))) key.2 (List.prefix_refl _) key.1
  show 0 + (0 + grownCap w s.size 0 e) * 1 ≤ (Lib.bytesCells w e s).size
  rw [hsz]; omega
end
end Go.Abs
namespace Go.Abs
def vcAppendZ (P : Program) (t : TypeId) (s x : Value) (st : St) (K : Value → St → Prop) : Prop :=
  match P.underlying t with
  | some (.slice e) => match szOf P e, zeroOf P e with
    | some z, some zv => match s, x with
      | .slice (some ⟨l, r, some e'⟩) n c, .int _ m => bs (decide (0 < z) && decide (0 < bytesOf P e) && plain zv && decide ((cellsL zv).length = z) && e' == z)
          (0 ≤ m ∧ c ≠ 0 ∧ c ≤ n + m.toNat ∧ (n + m.toNat) * bytesOf P e ≤ 140737488355328 ∧ ∃ ss, st.h.rowsOf (.slice (some ⟨l, r, some e'⟩) n c) = some ss ∧ K (.slice (some ⟨st.h.n, 0, some z⟩) (n + m.toNat) 0) { st with h := st.h.push ⟨ss ++ List.replicate m.toNat (cellsL zv), z, true⟩ }) False
      | _, _ => False
    | _, _ => False
  | _ => False
def srcLen : Value → Nat
  | .slice _ n _ => n
  | .string s => s.size
  | _ => 0
def srcTake (k : Nat) : Value → Value
  | .slice a _ c => .slice a k c
  | .string s => .string (s.extract 0 k)
  | v => v
def AHeap.cpy (h : AHeap) (a : Option Addr) (z : Nat) (xs : List (List Value)) : Option AHeap :=
  match xs with
  | [] => some h
  | x :: xs => match a with
    | some ⟨l, r, some e⟩ => bif e == z then h.wrs l r z (x :: xs) else none
    | _ => none
def vcCopy (P : Program) (t : TypeId) (d x : Value) (st : St) (K : Value → St → Prop) : Prop :=
  match P.underlying t with
  | some (.slice e) => match szOf P e with
    | some z => match d with
      | .slice a n _ => bs (decide (0 < z)) (∃ xs, rowsV st.h (srcTake (min (srcLen x) n) x) = some xs ∧ (xs.all fun row => decide (row.length = z) && row.all oneLeaf) = true ∧
          ∃ h', st.h.cpy a z xs = some h' ∧ K (.int .i64 (min (srcLen x) n : Nat)) { st with h := h' }) False
      | _ => False
    | none => False
  | _ => False
def vcClear (P : Program) (t : TypeId) (d : Value) (st : St) (K : Value → St → Prop) : Prop :=
  match P.underlying t with
  | some (.slice e) => match szOf P e, zeroOf P e with
    | some z, some zv => match d with
      | .slice a n _ => bs (decide (0 < z) && plain zv && decide ((cellsL zv).length = z) && (cellsL zv).all oneLeaf) (∃ h', st.h.cpy a z (List.replicate n (cellsL zv)) = some h' ∧ K undef { st with h := h' }) False
      | _ => False
    | _, _ => False
  | _ => False
section
variable {P : Program} {nt : Nat} {o : Oper} {st : St}
theorem FRel.zeros {L : Lay} {zv : Value} {z : Nat} (hp : plain zv = true) (hl : (cellsL zv).length = z) (hz : 0 < z) (m : Nat) : FRel L (List.replicate m (cellsL zv)) z (Builtin.zeroCells zv.cells m).toList := by
  have c := cells_rel (VRel.plain (L := L) hp) (plain_nj hp)
  have zr := zeros_rel (LRel.of c.1 c.2) (by omega) m
  have hlen : ∀ row ∈ List.replicate m (cellsL zv), row.length = z := fun row hr => by rw [List.eq_of_mem_replicate hr]; exact hl
  have ez : zv.cells.size = z := by rw [← c.1]; exact hl
  have e : Builtin.zeroCells zv.cells m = (Array.range (m * (cellsL zv).length)).map fun k => zv.cells[k % zv.cells.size]! := by
    unfold Builtin.zeroCells; rw [c.1]
  refine ⟨hlen, ?_, fun i row hi j v hj => ?_⟩
  · rw [e, Array.length_toList]; simp [hl]
  · obtain ⟨V, a, b⟩ := FRel.of_flat hlen zr i row hi j v hj
    exact ⟨V, by rw [e, Array.getElem?_toList]; exact a, b⟩
set_option maxHeartbeats 1000000 in
theorem run_append_zeros {t t' e ty : TypeId} {k k2 : IntKind} {w : World} {z n m C : Nat} {B : Option Addr} {zv : Value} {ds : Array Value} {mi : Int} (ht : P.underlying t = some (.slice e)) (ht' : P.underlying t' = some (.int k)) (hz : szOf P e = some z)
    (hzv : zeroOf P e = some zv) (hb0 : 0 < bytesOf P e) (hm : mi = (m : Int)) (hds : (Builtin.firstCells z n (.slice B n C)).run P w.drew = .ok ds w.drew)
    (hroom : ¬ n + m ≤ C) (hby : (n + m) * bytesOf P e ≤ 140737488355328) :
    ∃ q, n + m ≤ q ∧ (Builtin.append_ #[t, t'] ty #[.slice B n C, .int k2 mi]).run P w = .ok (.slice (some ⟨w.heap.size, 0, none⟩) (n + m) q) (w.drew.alloc (.cells (ds ++ (if m * z = 0 then #[] else Builtin.zeroCells zv.cells m) ++ Builtin.zeroCells zv.cells (q - (n + m))) e)) := by
  subst hm
  have hbig : n + m ≤ 140737488355328 := Nat.le_trans (Nat.le_mul_of_pos_right _ hb0) hby
  have hg := growslice_fits (need := n + m) (old := C) (bytes := bytesOf P e) (by omega) hby
  obtain ⟨ti, hti, hbt⟩ : ∃ ti, P.info? e = some ti ∧ ti.bytes = bytesOf P e := by
    unfold szOf at hz
    cases hi : P.info? e with
    | none => rw [hi] at hz; cases hz
    | some ti => exact ⟨ti, rfl, by simp [bytesOf, hi]⟩
  refine ⟨n + m + w.tape w.drawn (.appendCap (n + m) C e) % (2 ^ 63 - (n + m)), Nat.le_add_right _ _, ?_⟩
  have h2 : ¬ Builtin.nextslicecap (n + m) C * ti.bytes > 2 ^ 48 := by rw [hbt]; omega
  have h3 : ti.bytes ≠ 0 := by omega
  have ask : ∀ (b : Nat) (w : World), (askRoom b).run P w = .ok () w := by
    intro b w; unfold askRoom; split <;> rfl
  have hw : IntKind.i64.wrap (m : Int) = m := by
    have e : IntKind.i64.wrap (m : Int) = if (true && decide ((m : Int) % 18446744073709551616 ≥ 9223372036854775808)) = true then (m : Int) % 18446744073709551616 - 18446744073709551616 else (m : Int) % 18446744073709551616 := rfl
    rw [e, if_neg (by simp; omega)]; omega
  have h4 : ¬ ((m : Int) < 0) := by omega
  have h5 : m * ti.bytes ≤ 140737488355328 := by
    rw [hbt]; refine Nat.le_trans (Nat.mul_le_mul_right _ (by omega)) hby
  have h6 : ¬ (281474976710656 < (m : Int) * (ti.bytes : Int)) := by
    have : (m : Int) * (ti.bytes : Int) = ((m * ti.bytes : Nat) : Int) := by simp
    rw [this]; omega
  have h7 : ¬ (9223372036854775807 < (n : Int) + (m : Int)) := by omega
  have h8 : IntKind.i64.max = 9223372036854775807 := by decide
  by_cases hm0 : m * z = 0
  · simp [Builtin.append_, run_underlying ht, run_underlying ht', size_run hz, asInt, asIntOf, hw, h4, h6, h8, hroom, typeInfo, hti, h2, h3, h7, Question.forced, Question.cut, ask, hds, zero_run hzv, run_newRow', hm0]
  · simp [Builtin.append_, run_underlying ht, run_underlying ht', size_run hz, asInt, asIntOf, hw, h4, h6, h8, hroom, typeInfo, hti, h2, h3, h7, Question.forced, Question.cut, ask, hds, zero_run hzv, run_newRow', hm0]
theorem appendZ_sound {c : Call} {x y : Operand} {t t' : TypeId} {k : IntKind} {K : Value → St → Prop} (ho : o.op = .call c) (hc : c.callee = .builtin .append) (ha : c.args = #[x, y]) (ht : c.argTypes = #[t, t']) (hi : P.underlying t' = some (.int k))
    (h : vcAppendZ P t (ev st.t x) (ev st.t y) st K) : ∃ v st', K v st' ∧ OpSem P nt o st v st' := by
  have exec : ∀ (a : Act) (w w' : World) (V : Value), (Builtin.append_ #[t, t'] o.type #[a.eval x, a.eval y]).run P w = .ok V w' → (execOp a.eval o).run P w = .ok (.value V) w' := by
    intro a w w' V hr
    unfold execOp; rw [ho]
    simp [resolve, hc, ha, ht, invoke, builtin, hr]
  unfold vcAppendZ at h
  split at h
  case h_2 => exact h.elim
  rename_i e hu
  split at h
  case h_2 => exact h.elim
  rename_i z zv hz hzv
  split at h
  case h_2 => exact h.elim
  rename_i l i e' n cc k2 m hx hy
  obtain ⟨hq, hm0, hc0, hcm, hby, ss, hss, hK⟩ := bs_false h
  simp only [Bool.and_eq_true, decide_eq_true_eq, beq_iff_eq] at hq
  obtain ⟨⟨⟨⟨hz0, hb0⟩, hpz⟩, hzl⟩, rfl⟩ := hq
  refine ⟨_, _, hK, rfl, fun L F R w0 w lam a r _ next Q hn => ?_⟩
  have hXs : VRel L (.slice (some ⟨l, i, some e'⟩) n cc) (a.eval x) := r.known.of hx (by simp [undef])
  have hY : a.eval y = .int k2 m := r.known.int hy
  generalize hX : a.eval x = X at hXs
  cases hXs with
  | slice hl he hnC hA room hc' =>
  rename_i C s A
  have hcC : cc = C + 1 := hc'.resolve_left hc0
  obtain ⟨hes, hssl, ds, hD, hdc⟩ := r.rel.rows hss hl
  have hfirst' : (Builtin.firstCells e' n (.slice (some A) n C)).run P w.drew = .ok ds.toArray w.drew := by
    by_cases hC : C = 0
    · have hn0 : n = 0 := by omega
      have hds0 : ds = [] := List.eq_nil_of_length_eq_zero (by rw [hD.2.1, hssl, hn0]; simp)
      subst hds0; subst hn0
      exact run_firstCells_some (P := P) w.drew e' 0 A 0 C [] (by simp) (by simp)
    · refine run_firstCells_some (P := P) w.drew e' n A n C ds (by rw [hD.2.1, hssl]) fun j v hj => ?_
      rw [hA.resolve_left hC, add_addr]
      exact hdc j v hj
  obtain ⟨q, hq, hrun⟩ := run_append_zeros (P := P) (w := w) (ty := o.type) (k2 := k2) (n := n) (m := m.toNat) (C := C) (B := some A) (mi := m) hu hi hz hzv hb0 (by omega) hfirst' (by omega) hby
  have hZ := FRel.zeros (L := L) hpz hzl hz0 m.toNat
  have hFD := hD.append hZ
  have ez : zv.cells.size = e' := by have c := cells_rel (VRel.plain (L := L) hpz) (plain_nj hpz); rw [← c.1]; exact hzl
  have e0 : (if m.toNat * e' = 0 then #[] else Builtin.zeroCells zv.cells m.toNat) = Builtin.zeroCells zv.cells m.toNat := by
    split
    · rename_i h0
      have : m.toNat = 0 := by rcases Nat.mul_eq_zero.1 h0 with h1 | h1 <;> omega
      rw [this]; simp [Builtin.zeroCells]
    · rfl
  rw [e0] at hrun
  unfold Oper.wp
  rw [exec a w _ _ (by rw [hX, hY]; exact hrun), Oper.upon_value]
  have hlen : (ss ++ List.replicate m.toNat (cellsL zv)).length = n + m.toNat := by rw [List.length_append, hssl, List.length_replicate]
  obtain ⟨L', g1, g2, g3⟩ := grown_rel r (e := e) (zc := zv.cells.toList) hFD (by rw [Array.length_toList]; exact ez) (by rw [hlen]; exact hq)
  have ea : (ds ++ (Builtin.zeroCells zv.cells m.toNat).toList).toArray = ds.toArray ++ Builtin.zeroCells zv.cells m.toNat := by apply Array.ext'; simp
  simp only [Array.toArray_toList, hlen, ea] at g1 g3
  exact hn _ _ L' lam (.inr (.of g1)) g2 (List.prefix_refl _) g3
theorem StRel.cpy {L : Lay} {F R : Nat → Prop} {w0 w : World} {lam : List Nat} {T : Array Value} (r : StRel L F R w0 w lam nt st T) {a : Option Addr} {n cc z C : Nat} {A : Option Addr} {xs : List (List Value)} {h' : AHeap} (hz : 0 < z)
    (hd : VRel L (.slice a n cc) (.slice A n C)) (hw : st.h.cpy a z xs = some h') (hn : xs.length ≤ n) {cs : List Value} (hF : FRel L xs z cs) (hx : ∀ row ∈ xs, ∀ v ∈ row, oneLeaf v = true) :
    (xs = [] ∧ cs = [] ∧ h' = st.h) ∨ ∃ B w', A = some B ∧ (storeCells B cs 0).run P w = .ok () w' ∧ StRel L F R w0 w' lam nt { st with h := h' } T := by
  cases xs with
  | nil => exact .inl ⟨rfl, List.eq_nil_of_length_eq_zero (by rw [hF.2.1]; simp), (Option.some.inj hw).symm⟩
  | cons x xs =>
    right
    unfold AHeap.cpy at hw
    dsimp only at hw
    split at hw
    case h_2 => cases hw
    rename_i l i e
    cases hee : (e == z) with
    | false => rw [hee] at hw; cases hw
    | true =>
    rw [hee] at hw
    have hee' : e = z := by simpa using hee
    subst hee'
    cases hd with
    | slice hl he hnC hA room hc' =>
    rename_i s A
    have hC : C ≠ 0 := by simp at hn; omega
    obtain ⟨hes, w', hrun, g⟩ := StRel.wrs P r hw hl hF hz (by simp) (hF.one hx)
    exact ⟨A, w', rfl, by rw [hA.resolve_left hC]; exact hrun, g⟩
theorem AHeap.wrs_n {h h' : AHeap} {l r e : Nat} {xs : List (List Value)} (hw : h.wrs l r e xs = some h') : h'.n = h.n := by
  unfold AHeap.wrs at hw
  split at hw
  · rename_i o _
    cases hq : (o.rw && (o.esz == e && decide (r + xs.length ≤ o.rows.length))) with
    | false => rw [hq] at hw; cases hw
    | true => rw [hq] at hw; rw [← Option.some.inj hw]; rfl
  · cases hw
theorem AHeap.cpy_n {h h' : AHeap} {a : Option Addr} {z : Nat} {xs : List (List Value)} (hw : h.cpy a z xs = some h') : h'.n = h.n := by
  unfold AHeap.cpy at hw
  split at hw
  · rw [← Option.some.inj hw]
  · split at hw
    · rename_i e2
      cases hee : (e2 == z) with
      | false => rw [hee] at hw; cases hw
      | true => rw [hee] at hw; exact AHeap.wrs_n hw
    · cases hw
theorem srcTake_rel {L : Lay} {x X : Value} {k : Nat} {xs : List (List Value)} {h : AHeap} (hx : VRel L x X) (hk : k ≤ srcLen x) (hr : rowsV h (srcTake k x) = some xs) : xs.length = k ∧ ∃ Y, VRel L (srcTake k x) Y ∧ (∀ w, (Builtin.lenOf X).run P w = .ok (srcLen x) w) ∧ ∀ (z : Nat) (w : World), (Builtin.firstCells z k X).run P w = (Builtin.firstCells z k Y).run P w := by
  cases hx with
  | string s =>
    have hk : k ≤ s.size := hk
    refine ⟨?_, _, .string _, fun w => by simp [Builtin.lenOf, srcLen], fun z w => ?_⟩
    · obtain rfl := Option.some.inj hr
      simp only [bytesRows, List.length_map, Array.length_toList]
      show (s.extract 0 k).size = k
      rw [ByteArray.size_extract]; omega
    · have : (s.extract 0 k).extract 0 k = s.extract 0 k := by
        cases s
        simp [ByteArray.extract_extract]
      simp only [srcTake, Builtin.firstCells, this]
  | sliceN =>
    have : k = 0 := by simpa [srcLen] using hk
    subst this
    exact ⟨by rw [← Option.some.inj hr]; rfl, _, .sliceN, fun w => by simp [Builtin.lenOf, srcLen], fun z w => by simp [Builtin.firstCells]⟩
  | slice hl he hnC hA room hc' =>
    have hk : k ≤ _ := hk
    refine ⟨?_, _, .slice hl he (Nat.le_trans hk hnC) hA room hc', fun w => by simp [Builtin.lenOf, srcLen], fun z w => rfl⟩
    unfold srcTake rowsV AHeap.rowsOf at hr
    dsimp only at hr
    split at hr
    case h_2 => cases hr
    rename_i l r e n c C s A hns o ho
    cases hq : (o.esz == r && decide (l + k ≤ o.rows.length)) with
    | false => rw [hq] at hr; cases hr
    | true =>
      rw [hq] at hr
      simp only [Bool.and_eq_true, decide_eq_true_eq] at hq
      obtain rfl := Option.some.inj hr
      rw [List.length_take, List.length_drop]; omega
  | _ => simp [rowsV, srcTake, AHeap.rowsOf] at hr
theorem copy_sound {c : Call} {x y : Operand} {t t' : TypeId} {K : Value → St → Prop} (ho : o.op = .call c) (hc : c.callee = .builtin .copy) (ha : c.args = #[x, y]) (ht : c.argTypes = #[t, t'])
    (h : vcCopy P t (ev st.t x) (ev st.t y) st K) : ∃ v st', K v st' ∧ OpSem P nt o st v st' := by
  have exec : ∀ (a : Act) (w w' : World) (V : Value), (Builtin.copy_ #[t, t'] o.type #[a.eval x, a.eval y]).run P w = .ok V w' → (execOp a.eval o).run P w = .ok (.value V) w' := by
    intro a w w' V hr
    unfold execOp; rw [ho]
    simp [resolve, hc, ha, ht, invoke, builtin, hr]
  unfold vcCopy at h
  split at h
  case h_2 => exact h.elim
  rename_i e hu
  split at h
  case h_2 => exact h.elim
  rename_i z hz
  split at h
  case h_2 => exact h.elim
  rename_i ad n cc hx
  obtain ⟨hq, xs, hxs, hall, h', hcp, hK⟩ := bs_false h
  have hz0 := of_decide_eq_true hq
  simp only [List.all_eq_true, Bool.and_eq_true, decide_eq_true_eq] at hall
  have hlen : ∀ row ∈ xs, row.length = z := fun row hr => (hall row hr).1
  have hone : ∀ row ∈ xs, ∀ v ∈ row, oneLeaf v = true := fun row hr v hv => (hall row hr).2 v hv
  have hyv : ev st.t y ≠ undef := by intro e0; rw [e0] at hxs; simp [rowsV, srcTake, undef, AHeap.rowsOf] at hxs
  have hyok : ∀ (L : Lay) (lam : List Nat) (a : Act), Known L lam st.t a.tmps → VRel L (ev st.t y) (a.eval y) := by
    intro L lam a kn
    refine (kn.of rfl hyv).ok ?_
    revert hxs; cases ev st.t y <;> intro hxs <;> first | rfl | (simp [rowsV, srcTake, AHeap.rowsOf] at hxs)
  refine ⟨_, _, hK, rfl, fun L F R w0 w lam a r _ next Q hn => ?_⟩
  have hY := hyok L lam a r.known
  obtain ⟨hxl, Y, hY2, hL, hC⟩ := srcTake_rel (P := P) hY (Nat.min_le_left _ _) hxs
  obtain ⟨cs, hF, hL2, hC2⟩ := rowsV_run (P := P) r.rel hY2 hxs hlen
  have hcs : (Builtin.firstCells z (min (srcLen (ev st.t y)) n) (a.eval y)).run P w = .ok cs.toArray w := by
    rw [hC, ← hxl]; exact hC2 w.drawn
  have hXs : VRel L (.slice ad n cc) (a.eval x) := r.known.of hx (by simp [undef])
  generalize hX : a.eval x = X at hXs
  obtain ⟨A, C, rfl⟩ : ∃ A C, X = .slice A n C := by cases hXs <;> exact ⟨_, _, rfl⟩
  have hxn : xs.length ≤ n := by rw [hxl]; exact Nat.min_le_right _ _
  unfold Oper.wp
  rcases r.cpy (P := P) hz0 hXs hcp hxn hF hone with ⟨rfl, rfl, rfl⟩ | ⟨B, w', rfl, hrun, g⟩
  · have run : (Builtin.copy_ #[t, t'] o.type #[.slice A n C, a.eval y]).run P w = .ok (.int .i64 (min (srcLen (ev st.t y)) n : Nat)) w := by
      have hm : Nat.min (srcLen (ev st.t y)) n = min (srcLen (ev st.t y)) n := rfl
      cases A <;> simp [Builtin.copy_, run_underlying hu, size_run hz, hL, hm, hcs, storeCells, goInt]
    rw [exec a w w _ (by rw [hX]; exact run), Oper.upon_value]
    exact hn _ _ L lam (.inr (.of (.int _ _))) (Ext.refl _ _) (List.prefix_refl _) r
  · have run : (Builtin.copy_ #[t, t'] o.type #[.slice (some B) n C, a.eval y]).run P w = .ok (.int .i64 (min (srcLen (ev st.t y)) n : Nat)) w' := by
      have hm : Nat.min (srcLen (ev st.t y)) n = min (srcLen (ev st.t y)) n := rfl
      simp [Builtin.copy_, run_underlying hu, size_run hz, hL, hm, hcs, hrun, goInt]
    have hn' := AHeap.cpy_n hcp
    rw [exec a w w' _ (by rw [hX]; exact run), Oper.upon_value]
    exact hn _ _ L lam (.inr (.of (.int _ _))) ⟨Nat.le_of_eq hn'.symm, fun _ _ => rfl⟩ (List.prefix_refl _) g
theorem clear_sound {c : Call} {x : Operand} {t : TypeId} {K : Value → St → Prop} (ho : o.op = .call c) (hc : c.callee = .builtin .clear) (ha : c.args = #[x]) (ht : c.argTypes = #[t])
    (h : vcClear P t (ev st.t x) st K) : ∃ v st', K v st' ∧ OpSem P nt o st v st' := by
  have exec : ∀ (a : Act) (w w' : World) (V : Value), (Builtin.clear_ #[t] o.type #[a.eval x]).run P w = .ok V w' → (execOp a.eval o).run P w = .ok (.value V) w' := by
    intro a w w' V hr
    unfold execOp; rw [ho]
    simp [resolve, hc, ha, ht, invoke, builtin, hr]
  unfold vcClear at h
  split at h
  case h_2 => exact h.elim
  rename_i e hu
  split at h
  case h_2 => exact h.elim
  rename_i z zv hz hzv
  split at h
  case h_2 => exact h.elim
  rename_i ad n cc hx
  obtain ⟨hq, h', hcp, hK⟩ := bs_false h
  simp only [Bool.and_eq_true, decide_eq_true_eq, List.all_eq_true] at hq
  obtain ⟨⟨⟨hz0, hpz⟩, hzl⟩, hzo⟩ := hq
  refine ⟨_, _, hK, rfl, fun L F R w0 w lam a r _ next Q hn => ?_⟩
  have hXs : VRel L (.slice ad n cc) (a.eval x) := r.known.of hx (by simp [undef])
  generalize hX : a.eval x = X at hXs
  obtain ⟨A, C, rfl⟩ : ∃ A C, X = .slice A n C := by cases hXs <;> exact ⟨_, _, rfl⟩
  unfold Oper.wp
  rcases r.cpy (P := P) hz0 hXs hcp (by simp) (FRel.zeros hpz hzl hz0 n) (fun row hr v hv => by rw [List.eq_of_mem_replicate hr] at hv; exact hzo v hv) with ⟨h1, h2, rfl⟩ | ⟨B, w', rfl, hrun, g⟩
  · have hn0 : n = 0 := by simpa using h1
    subst hn0
    have run : (Builtin.clear_ #[t] o.type #[.slice A 0 C]).run P w = .ok (.tuple #[]) w := by
      cases A <;> simp [Builtin.clear_, run_underlying hu]
    rw [exec a w w _ (by rw [hX]; exact run), Oper.upon_value]
    exact hn _ _ L lam (.inl rfl) (Ext.refl _ _) (List.prefix_refl _) r
  · have run : (Builtin.clear_ #[t] o.type #[.slice (some B) n C]).run P w = .ok (.tuple #[]) w' := by
      cases n with
      | zero =>
        have h0 : (Builtin.zeroCells zv.cells 0).toList = [] := by simp [Builtin.zeroCells]
        rw [h0] at hrun
        have e0 : w' = w := by simpa [storeCells] using hrun.symm
        subst e0
        simp [Builtin.clear_, run_underlying hu]
      | succ n => simp [Builtin.clear_, run_underlying hu, zero_run hzv, hrun]
    rw [exec a w w' _ (by rw [hX]; exact run), Oper.upon_value]
    exact hn _ _ L lam (.inl rfl) ⟨Nat.le_of_eq (AHeap.cpy_n hcp).symm, fun _ _ => rfl⟩ (List.prefix_refl _) g
end
def ACall (P : Program) (f : FuncId) (args : List Value) (h : AHeap) (v : Value) (h' : AHeap) : Prop :=
  ∀ (L : Lay) (F R : Nat → Prop) (w0 w : World) (ARGS : Array Value), Rel L F R w0 w h → ARel L args.toArray ARGS →
    Calls P f ARGS w fun e W => ∃ V L', e = .returned V ∧ Ext L h L' h' ∧ VRel L' v V ∧ Rel L' F R w0 W h'
def exT (P : Program) (t : TypeId) (K : Value → Prop) : Prop :=
  match aggOf P t with
  | some ag => exL (leafs P 8 t) fun vs => K (mkV ag vs)
  | none => False
def exTs (P : Program) : List TypeId → (List Value → Prop) → Prop
  | [], K => K []
  | t :: ts, K => exT P t fun v => exTs P ts fun vs => K (v :: vs)
def exR (P : Program) (t : TypeId) (K : Value → Prop) : Prop :=
  match P.underlying t with
  | some (.tuple ts) => exTs P ts.toList fun vs => K (.tuple vs.toArray)
  | some _ => exT P t K
  | none => False
theorem exT_some {P : Program} {t : TypeId} {K : Value → Prop} (h : exT P t K) : ∃ v, K v := by
  unfold exT at h; split at h
  · obtain ⟨vs, h⟩ := exL_some h; exact ⟨_, h⟩
  · exact h.elim
theorem exTs_some {P : Program} : ∀ {ts : List TypeId} {K : List Value → Prop}, exTs P ts K → ∃ vs, K vs
  | [], _, h => ⟨_, h⟩
  | _ :: _, _, h => let ⟨_, h⟩ := exT_some h; let ⟨_, h⟩ := exTs_some h; ⟨_, h⟩
theorem exR_some {P : Program} {t : TypeId} {K : Value → Prop} (h : exR P t K) : ∃ v, K v := by
  unfold exR at h; split at h
  · obtain ⟨vs, h⟩ := exTs_some h; exact ⟨_, h⟩
  · exact exT_some h
  · exact h.elim
def callable (P : Program) (g : FuncId) : Bool :=
  match P.funcs[g]? with
  | some fn => fn.body.isSome && !(fn.name == "runtime.NumGoroutine")
  | none => false
def IsOverlaps (P : Program) (g : FuncId) : Prop := ∃ (fn : Func) (t e r : TypeId) (i : TypeInfo), P.funcs[g]? = some fn ∧ (fn.name == "runtime.NumGoroutine") = false ∧ fn.body.isNone = true ∧ Extern.findNext fn = none ∧
  Extern.find fn = some (Extern.SlicesOverlaps.overlaps #[t, t] #[r]) ∧ P.underlying t = some (.slice e) ∧ P.info? e = some i
def AHeap.Two (h : AHeap) (a b : Addr) : Prop := ∃ o1 o2, h.get a.block = some o1 ∧ h.get b.block = some o2 ∧ o1.rw = true ∧ o2.rw = true ∧ 2 ≤ o1.esz ∧ 2 ≤ o2.esz ∧ a.block ≠ b.block
def vcCall (P : Program) (f : Operand) (args : Array Operand) (t : TypeId) (st : St) (K : Value → St → Prop) : Prop :=
  match ev st.t f with
  | .func (.func g) first cap => bs (callable P g && args.toList.all fun x => okv (ev st.t x))
      (exR P t fun v => ∃ h', ACall P g (first.toList ++ (args.toList.map (ev st.t)) ++ cap.toList) st.h v h' ∧ K v { st with h := h' })
      (match first.toList, cap.toList, args.toList.map (ev st.t) with
        | [], [], [.slice (some a) n _, .slice (some b) k _] => IsOverlaps P g ∧ 0 < n ∧ 0 < k ∧ st.h.Two a b ∧ K (.bool false) st
        | _, _, _ => False)
  | _ => False
def vcOp (P : Program) (E : Tmp → Bool) (o : Oper) (st : St) (K : Value → St → Prop) : Prop :=
  match o.op with
  | .move x => K (ev st.t x) st
  | .assign x => K (ev st.t x) st
  | .pick c x y => match ev st.t c with
    | .bool q => bs q (K (ev st.t x) st) (K (ev st.t y) st)
    | _ => False
  | .alloc t => vcAlloc P (match o.dst with | some d => E d | none => true) t st K
  | .box _ x => vcBox (match o.dst with | some d => E d | none => true) (ev st.t x) st K
  | .build t ps => vcBuild P t (ps.toList.map fun x => (x.1, ev st.t x.2)) fun v => K v st
  | .buildSlice t n ps => vcBuildSlice P t n (ps.toList.map fun x => (x.1, ev st.t x.2)) st K
  | .load t x => vcLoad P t (ev st.t x) st fun v => K v st
  | .store t x y => vcStore P t (ev st.t x) (ev st.t y) st K
  | .nilCheck x => vcNil (ev st.t x) fun v => K v st
  | .binOp op t x y _ => vcBin P op t x y (ev st.t x) (ev st.t y) fun v => K v st
  | .unOp op _ x => vcUn op (ev st.t x) fun v => K v st
  | .convert s d x => match ev st.t x with
    | .slice a n c => vcB2S P s d (.slice a n c) st fun v => K v st
    | .string q => match P.underlying d with
      | some (.slice _) => vcS2B P s d (.string q) st K
      | _ => vcConv P s d (.string q) fun v => K v st
    | v => vcConv P s d v fun v => K v st
  | .makeInterface t x => match P.underlying t with
    | some (.interface _) => False
    | some _ => bs (okv (ev st.t x)) (K (.iface t (ev st.t x)) st) False
    | none => False
  | .makeFunc fn xs ys => bs ((xs.toList.all fun x => okv (ev st.t x)) && ys.toList.all fun x => okv (ev st.t x)) (K (.func fn (xs.toList.map (ev st.t)).toArray (ys.toList.map (ev st.t)).toArray) st) False
  | .makeSlice t l c => vcMake P t (ev st.t l) (ev st.t c) st K
  | .slice t x lo hi mx => vcSlice P t (ev st.t x) (lo.map (ev st.t)) (hi.map (ev st.t)) (mx.map (ev st.t)) fun v => K v st
  | .fieldAddr s x f => vcFieldAddr P s (ev st.t x) f fun v => K v st
  | .field s x f => vcField P s (ev st.t x) f fun v => K v st
  | .indexAddr t x i => vcIndexAddr P t (ev st.t x) (ev st.t i) fun v => K v st
  | .index t x i => vcIndex P t (ev st.t x) (ev st.t i) fun v => K v st
  | .extract x i => vcExtract (ev st.t x) i fun v => K v st
  | .call c => match c.callee with
    | .value f => vcCall P f c.args o.type st K
    | .builtin .len => match c.args.toList, c.argTypes.toList with
      | [x], t :: _ => vcLen P t (ev st.t x) fun v => K v st
      | _, _ => False
    | .builtin .cap => match c.args.toList, c.argTypes.toList with
      | [x], t :: _ => vcCap P t (ev st.t x) fun v => K v st
      | _, _ => False
    | .builtin .min => match c.args.toList with
      | [x, y] => vcMin (ev st.t x) (ev st.t y) fun v => K v st
      | _ => False
    | .builtin .max => match c.args.toList with
      | [x, y] => vcMax (ev st.t x) (ev st.t y) fun v => K v st
      | _ => False
    | .builtin .append => match c.args.toList, c.argTypes.toList with
      | [x, y], [t, t'] => match P.underlying t' with
        | some (.int _) => vcAppendZ P t (ev st.t x) (ev st.t y) st K
        | _ => vcAppend P t t' (ev st.t x) (ev st.t y) st K
      | _, _ => False
    | .builtin .copy => match c.args.toList, c.argTypes.toList with
      | [x, y], [t, _] => vcCopy P t (ev st.t x) (ev st.t y) st K
      | _, _ => False
    | .builtin .clear => match c.args.toList, c.argTypes.toList with
      | [x], [t] => vcClear P t (ev st.t x) st K
      | _, _ => False
    | _ => False
  | _ => False
section
variable {P : Program} {nt : Nat} {o : Oper} {st : St}
theorem StRel.callee {L : Lay} {F R : Nat → Prop} {w0 w : World} {lam : List Nat} {T : Array Value} (r : StRel L F R w0 w lam nt st T) : Rel L (fun b => F b ∨ b ∈ lam) R w w st.h :=
  ⟨Keeps.refl _ _, fun b hb => hb.elim (fun h => Nat.lt_of_lt_of_le (r.rel.inF b h) r.rel.keeps.size) (fun h => r.lam_lt h), fun b hb => .inl (r.rel.inR b hb), r.rel.fresh, r.rel.unl, r.rel.obj,
   fun l o s h1 h2 h3 h4 => h4.elim (r.rel.free l o s h1 h2 h3) (r.lrw l o s h1 h2 h3), r.rel.ro, r.rel.apart⟩
theorem StRel.back {L L' : Lay} {F R : Nat → Prop} {w0 w W : World} {lam : List Nat} {T : Array Value} (r : StRel L F R w0 w lam nt st T) {h' : AHeap} (e : Ext L st.h L' h') (q : Rel L' (fun b => F b ∨ b ∈ lam) R w W h') : StRel L' F R w0 W lam nt { st with h := h' } T := by
  have hle := e.le r.rel.unl
  refine ⟨⟨r.rel.keeps.trans q.keeps fun _ h => .inl h, r.rel.inF, r.rel.inR, q.fresh, q.unl, q.obj, fun l o s h1 h2 h3 h4 => q.free l o s h1 h2 h3 (.inl h4), q.ro, q.apart⟩, r.tsz, r.llen, r.lnd, r.lF, fun l o s h1 h2 h3 h4 => q.free l o s h1 h2 h3 (.inr h4), ?_, fun i => (r.slots i).mono hle (List.prefix_refl _)⟩
  intro i b row h1 h2
  obtain ⟨c, t, a, d, f⟩ := r.lblk i b row h1 h2
  exact ⟨c, t, (q.keeps.block b (.inr (List.mem_of_getElem? h1))).trans a, d, fun j v hv => let ⟨V, x, y⟩ := f j v hv; ⟨V, x, y.mono hle⟩⟩
theorem over_run {t e r : TypeId} {i : TypeInfo} (w : World) (ht : P.underlying t = some (.slice e)) (hi : P.info? e = some i) {A B : Addr} {n1 n2 C1 C2 : Nat}
    (h : A.block ≠ B.block ∧ (∃ c1 t1 f1, w.heap[A.block]? = some (.cells c1 t1 f1) ∧ f1.2 ≤ f1.1) ∧ ∃ c2 t2 f2, w.heap[B.block]? = some (.cells c2 t2 f2) ∧ f2.2 ≤ f2.1 ∧ c2.size ≠ 0) :
    (Extern.SlicesOverlaps.overlaps #[t, t] #[r] #[.slice (some A) n1 C1, .slice (some B) n2 C2]).run P w = .ok (.bool false) w := by
  have hz : ∀ w, (Go.sizeOf e).run P w = .ok (P.cellsOf e) w := fun w => run_sizeOf w hi
  obtain ⟨hne, ⟨c1, t1, f1, g1, k1⟩, c2, t2, f2, g2, k2, k3⟩ := h
  have nofr : ∀ o, w.frozen? ⟨A.block, o, none⟩ = false := fun o => by
    unfold World.frozen?
    dsimp only
    rw [g1]
    simp only [Bool.and_eq_false_iff, decide_eq_false_iff_not]
    omega
  have nofrA : w.frozen? A = false := by
    unfold World.frozen?
    rw [g1]
    simp only [Bool.and_eq_false_iff, decide_eq_false_iff_not]
    omega
  exact Go.Lib.run_overlaps_apart w t r e ht _ hz A B n1 C1 n2 C2 hne t1 t2 c1.size c2.size (by unfold World.shape?; rw [g1]) (by unfold World.shape?; rw [g2]) k3 nofrA (nofr _)
theorem over_sound {f : Operand} {args : Array Operand} {c : Call} {K : Value → St → Prop} {g : FuncId} {first cap : Array Value} {a b : Addr} {n1 c1 n2 c2 : Nat} (ho : o.op = .call c) (hc : c.callee = .value f) (ha : c.args = args) (hf : ev st.t f = .func (.func g) first cap)
    (e1 : first.toList = []) (e2 : cap.toList = []) (e3 : args.toList.map (ev st.t) = [.slice (some a) n1 c1, .slice (some b) n2 c2]) (hi : IsOverlaps P g) (hn1 : 0 < n1) (hn2 : 0 < n2) (h2 : st.h.Two a b) (hK : K (.bool false) st) : ∃ v st', K v st' ∧ OpSem P nt o st v st' := by
  refine ⟨_, _, hK, rfl, fun L F R w0 w lam act r _ next Q hn => ?_⟩
  obtain ⟨o1, o2, g1, g2, rw1, rw2, z1, z2, hne⟩ := h2
  obtain ⟨fn, t, e, rr, i, i1, i2, i3, i4, i5, i6, i7⟩ := hi
  have hF : VRel L (.func (.func g) first cap) (act.eval f) := r.known.of hf (by simp [undef])
  obtain ⟨fst, cp, ef, h1, h2⟩ : ∃ fst cp, act.eval f = .func (.func g) fst cp ∧ fst = #[] ∧ cp = #[] := by
    have f0 : first.size = 0 := by rw [← Array.length_toList, e1]; rfl
    have c0 : cap.size = 0 := by rw [← Array.length_toList, e2]; rfl
    generalize act.eval f = X at hF
    cases hF with | fn _ hs hv hs2 hv2 => exact ⟨_, _, rfl, Array.eq_empty_of_size_eq_zero (by omega), Array.eq_empty_of_size_eq_zero (by omega)⟩
  subst h1; subst h2
  obtain ⟨xs⟩ := args
  obtain ⟨x, y, rfl⟩ : ∃ x y, xs = [x, y] := by
    have hl : xs.length = 2 := by simpa using congrArg List.length e3
    match xs, hl with
    | [x, y], _ => exact ⟨x, y, rfl⟩
  simp only [List.map_cons, List.map_nil, List.cons.injEq, and_true] at e3
  have hx : VRel L (.slice (some a) n1 c1) (act.eval x) := r.known.of e3.1 (by simp [undef])
  have hy : VRel L (.slice (some b) n2 c2) (act.eval y) := r.known.of e3.2 (by simp [undef])
  obtain ⟨A, B, C1, C2, ex, ey, hap⟩ : ∃ A B C1 C2, act.eval x = .slice (some A) n1 C1 ∧ act.eval y = .slice (some B) n2 C2 ∧ (A.block ≠ B.block ∧ (∃ c1 t1 f1, w.heap[A.block]? = some (.cells c1 t1 f1) ∧ f1.2 ≤ f1.1) ∧ ∃ c2 t2 f2, w.heap[B.block]? = some (.cells c2 t2 f2) ∧ f2.2 ≤ f2.1 ∧ c2.size ≠ 0) := by
    generalize act.eval x = X at hx
    generalize act.eval y = Y at hy
    cases hx with
    | @slice l1 r1 q1 _ _ C1 s1 A he1 hL1 hn1 ha1 room1 hc1 =>
    cases hy with
    | @slice l2 r2 q2 _ _ C2 s2 B he2 hL2 hn2 ha2 room2 hc2 =>
      refine ⟨A, B, C1, C2, rfl, rfl, ?_⟩
      have eA := ha1.resolve_left (by omega)
      have eB := ha2.resolve_left (by omega)
      subst eA; subst eB
      have ob1 := r.rel.obj _ o1 _ g1 (by assumption)
      have ob2 := r.rel.obj _ o2 _ g2 (by assumption)
      obtain ⟨cs1, T1, fr1, w1, b1, x1⟩ := ob1.own rw1
      obtain ⟨cs2, T2, fr2, w2, b2, x2⟩ := ob2.own rw2
      have u1 := ob1.esz
      have u2 := ob2.esz
      have hroom := room2 (by rw [ob2.rw]; exact rw2)
      refine ⟨r.rel.apart _ _ o1 o2 _ _ g1 g2 (by assumption) (by assumption) rw1 hne, ⟨cs1, T1, fr1, w1, x1.resolve_right fun h => by omega⟩, cs2, T2, fr2, w2, x2.resolve_right fun h => by omega, ?_⟩
      have : 1 * q2 ≤ (r2 + C2) * q2 := Nat.mul_le_mul_right _ (by omega)
      omega
  have hrun : (execOp act.eval o).run P w = .ok (.value (.bool false)) w := by
    unfold execOp; rw [ho]
    have := run_callFunc_extern i1 i2 i3 i4 i5 #[.slice (some A) n1 C1, .slice (some B) n2 C2] w
    rw [over_run w i6 i7 hap] at this
    simp [resolve, hc, ha, ef, Deferred.ofValue, invoke, ex, ey, this, Result.andThen]
  unfold Oper.wp
  rw [hrun, Oper.upon_value]
  exact hn _ w L lam (.inr (.of (.bool false))) (Ext.refl _ _) (List.prefix_refl _) r
theorem call_sound {f : Operand} {args : Array Operand} {c : Call} {K : Value → St → Prop} (ho : o.op = .call c) (hc : c.callee = .value f) (ha : c.args = args) (h : vcCall P f args o.type st K) : ∃ v st', K v st' ∧ OpSem P nt o st v st' := by
  unfold vcCall at h
  split at h
  case h_2 => exact h.elim
  rename_i g first cap hf
  cases hcb : (callable P g && args.toList.all fun x => okv (ev st.t x)) with
  | false =>
    rw [hcb] at h
    replace h : (match first.toList, cap.toList, args.toList.map (ev st.t) with
        | [], [], [.slice (some a) n _, .slice (some b) k _] => IsOverlaps P g ∧ 0 < n ∧ 0 < k ∧ st.h.Two a b ∧ K (.bool false) st
        | _, _, _ => False) := h
    split at h
    case h_2 => exact h.elim
    rename_i ax n1 c1 bx n2 c2 e1 e2 e3
    exact over_sound ho hc ha hf e1 e2 e3 h.1 h.2.1 h.2.2.1 h.2.2.2.1 h.2.2.2.2
  | true =>
  rw [hcb] at h
  replace h := (bs_cases h).elim And.right fun h => by cases h.1
  have hq := hcb
  simp only [Bool.and_eq_true] at hq
  obtain ⟨hcall, hok⟩ := hq
  obtain ⟨v, h', hA, hK⟩ := exR_some h
  refine ⟨v, _, hK, rfl, fun L F R w0 w lam a r _ next Q hn => ?_⟩
  have hF : VRel L (.func (.func g) first cap) (a.eval f) := r.known.of hf (by simp [undef])
  obtain ⟨fst, cp, ef, h1, h2⟩ : ∃ fst cp, a.eval f = .func (.func g) fst cp ∧ ARel L first fst ∧ ARel L cap cp := by
    generalize a.eval f = X at hF
    cases hF with | fn _ hs hv hs2 hv2 => exact ⟨_, _, rfl, ⟨hs, hv⟩, ⟨hs2, hv2⟩⟩
  have h3 := args_rel r.known args hok
  have hargs : ARel L (first.toList ++ (args.toList.map (ev st.t)) ++ cap.toList).toArray (fst ++ args.map a.eval ++ cp) := by
    have cat : ∀ {a b a' b' : Array Value}, ARel L a a' → ARel L b b' → ARel L (a ++ b) (a' ++ b') := by
      intro a b a' b' p q
      refine ⟨by simp [p.1, q.1], fun i v V hv hV => ?_⟩
      by_cases hi : i < a.size
      · rw [Array.getElem?_append_left hi] at hv
        rw [Array.getElem?_append_left (by rw [← p.1]; exact hi)] at hV
        exact p.2 i v V hv hV
      · rw [Array.getElem?_append_right (by omega)] at hv
        rw [Array.getElem?_append_right (by rw [← p.1]; omega), ← p.1] at hV
        exact q.2 _ v V hv hV
    have := cat (cat h1 h3) h2
    have e : (first.toList ++ (args.toList.map (ev st.t)) ++ cap.toList).toArray = first ++ args.map (ev st.t) ++ cap := by
      apply Array.ext'
      simp
    rw [e]; exact this
  have hrun : (execOp a.eval o).run P w = .ok (.enter g (fst ++ args.map a.eval ++ cp)) w := by
    unfold execOp; rw [ho]
    unfold callable at hcall
    split at hcall
    · rename_i fn hfn
      simp only [Bool.and_eq_true, Bool.not_eq_true'] at hcall
      obtain ⟨hb, hnm⟩ := hcall
      obtain ⟨body, hb⟩ := Option.isSome_iff_exists.1 hb
      have hnm' : ¬ fn.name = "runtime.NumGoroutine" := by simpa using hnm
      simp [resolve, hc, ha, ef, Deferred.ofValue, invoke, callFunc, hfn, hnm', hb]
    · cases hcall
  unfold Oper.wp
  rw [hrun, Oper.upon_enter]
  refine (hA L _ R w w _ r.callee hargs).mono ?_
  rintro e W ⟨V, L', rfl, hext, hv, hrel⟩
  exact hn V W L' lam (.inr (.of hv)) hext (List.prefix_refl _) (r.back hext hrel)
theorem lift1 {K : Value → St → Prop} (h : ∃ v, K v st ∧ OpSem P nt o st v st) : ∃ v st', K v st' ∧ OpSem P nt o st v st' := let ⟨v, a, b⟩ := h; ⟨v, st, a, b⟩
theorem liftP {K : Value → St → Prop} (h : ∃ v, K v st ∧ PSem P o st.t v) : ∃ v st', K v st' ∧ OpSem P nt o st v st' := let ⟨v, a, b⟩ := h; ⟨v, st, a, b.op⟩
theorem op_sound {E : Tmp → Bool} {K : Value → St → Prop} (h : vcOp P E o st K) : ∃ v st', K v st' ∧ OpSem P nt o st v st' := by
  unfold vcOp at h
  split at h
  · rename_i ho; exact liftP (move_sound (K := fun v => K v st) (.inl ho) h)
  · rename_i ho; exact liftP (move_sound (K := fun v => K v st) (.inr ho) h)
  · rename_i ho
    split at h
    · rename_i hq; exact liftP (pick_sound (K := fun v => K v st) ho hq h)
    · exact h.elim
  · rename_i ho; exact alloc_sound ho h
  · rename_i ho; exact box_sound ho h
  · rename_i ho; exact liftP (build_sound (K := fun v => K v st) ho (by rw [Array.toList_map]; exact h))
  · rename_i ho; exact buildSlice_sound ho (by rw [Array.toList_map]; exact h)
  · rename_i ho; exact lift1 (load_sound (K := fun v => K v st) ho h)
  · rename_i ho; exact store_sound ho h
  · rename_i ho; exact liftP (nil_sound (K := fun v => K v st) ho h)
  · rename_i ho; exact liftP (bin_sound (K := fun v => K v st) ho h)
  · rename_i ho; exact liftP (un_sound (K := fun v => K v st) ho h)
  · rename_i ho
    split at h
    · rename_i hx; exact lift1 (b2s_sound (K := fun v => K v st) ho (by rw [hx]; exact h))
    · rename_i hx
      split at h
      · exact s2b_sound ho (by rw [hx]; exact h)
      · exact liftP (conv_sound (K := fun v => K v st) ho (by rw [hx]; exact h))
    · exact liftP (conv_sound (K := fun v => K v st) ho h)
  · rename_i t x ho
    cases hd : P.underlying t with
    | none => rw [hd] at h; exact h.elim
    | some d =>
      rw [hd] at h
      cases d <;> first
        | exact h.elim
        | (obtain ⟨h1, h⟩ := bs_false h
           exact liftP (makeIface_sound (K := fun v => K v st) ho hd (by intro ms; simp) h1 h))
  · rename_i ho
    obtain ⟨h1, h⟩ := bs_false h
    simp only [Bool.and_eq_true] at h1
    have e : ∀ xs : Array Operand, (xs.toList.map (ev st.t)).toArray = xs.map (ev st.t) := fun xs => by apply Array.ext'; simp
    rw [e, e] at h
    exact liftP (makeFunc_sound (K := fun v => K v st) ho h1.1 h1.2 h)
  · rename_i ho; exact make_sound ho h
  · rename_i ho; exact liftP (slice_sound (K := fun v => K v st) ho h)
  · rename_i ho; exact liftP (fieldAddr_sound (K := fun v => K v st) ho h)
  · rename_i ho; exact liftP (field_sound (K := fun v => K v st) ho h)
  · rename_i ho; exact liftP (indexAddr_sound (K := fun v => K v st) ho h)
  · rename_i ho; exact liftP (index_sound (K := fun v => K v st) ho h)
  · rename_i ho; exact liftP (extract_sound (K := fun v => K v st) ho h)
  · rename_i c ho
    have arr : ∀ {α : Type} {A : Array α} {l : List α}, A.toList = l → A = l.toArray := fun h => by rw [← h]
    split at h
    · rename_i f hc; exact call_sound ho hc rfl h
    · rename_i hc
      split at h
      · rename_i x t ts h1 h2; exact liftP (len_sound (K := fun v => K v st) ho hc (arr h1) (by rw [arr h2]; rfl) h)
      · exact h.elim
    · rename_i hc
      split at h
      · rename_i x t ts h1 h2; exact liftP (cap_sound (K := fun v => K v st) ho hc (arr h1) (by rw [arr h2]; rfl) h)
      · exact h.elim
    · rename_i hc
      split at h
      · rename_i x y h1; exact liftP (min_sound (K := fun v => K v st) ho hc (arr h1) h)
      · exact h.elim
    · rename_i hc
      split at h
      · rename_i x y h1; exact liftP (max_sound (K := fun v => K v st) ho hc (arr h1) h)
      · exact h.elim
    · rename_i hc
      split at h
      · rename_i x y t t' h1 h2
        split at h
        · rename_i hi; exact appendZ_sound ho hc (arr h1) (arr h2) hi h
        · exact append_sound ho hc (arr h1) (arr h2) h
      · exact h.elim
    · rename_i hc
      split at h
      · rename_i x y t t' h1 h2; exact copy_sound ho hc (arr h1) (arr h2) h
      · exact h.elim
    · rename_i hc
      split at h
      · rename_i x t h1 h2; exact clear_sound ho hc (arr h1) (arr h2) h
      · exact h.elim
    · exact h.elim
  · exact h.elim
end
end Go.Abs
namespace Go.Abs
def dOk (nt : Nat) (dst : Option Tmp) : Bool := match dst with | some d => decide (d < nt) | none => true
theorem dOk_lt {nt : Nat} {dst : Option Tmp} (h : dOk nt dst = true) : ∀ d, dst = some d → d < nt := by
  rintro d rfl; exact of_decide_eq_true h
def vcGuard (ops : Array Oper) (o : Oper) (st : St) (k : St → Bool → Prop) : Prop :=
  match o.guard with
  | none => k st true
  | some (j, w) => match (ops[j]?).bind (·.dst) with
    | some d => match st.t d with
      | .bool q => bs q (k { st with t := upd st.t d (.bool true) } (w == true)) (k { st with t := upd st.t d (.bool false) } (w == false))
      | .complex .f64 _ _ => k st false
      | _ => False
    | none => False
def vcOps (P : Program) (nt : Nat) (E : Tmp → Bool) (ops : Array Oper) : List Oper → St → (St → Prop) → Prop
  | [], st, K => K st
  | o :: rest, st, K => vcGuard ops o st fun st w => bs (dOk nt o.dst) (match w with
    | true => vcOp P E o st fun v st' => vcOps P nt E ops rest { st' with t := putD st'.t o.dst v } K
    | false => vcOps P nt E ops rest { st with t := putD st.t o.dst skipV } K) False
section
variable {P : Program} {nt : Nat} {E : Tmp → Bool} {ops : Array Oper}
theorem StRel.same {L : Lay} {F R : Nat → Prop} {w0 w : World} {lam : List Nat} {st : St} {T : Array Value} (r : StRel L F R w0 w lam nt st T) {t : Nat → Value} (h : ∀ i, t i = st.t i) : StRel L F R w0 w lam nt { st with t := t } T := by
  have : t = st.t := funext h
  subst this; exact r
theorem upd_same {t : Nat → Value} {d : Nat} {v : Value} (h : t d = v) : ∀ i, upd t d v i = t i := by
  intro i
  by_cases e : i = d
  · subst e; simp [upd, h]
  · show (bif i == d then v else t i) = t i
    rw [show (i == d) = false from beq_eq_false_iff_ne.2 e]; rfl
def OpsRun (P : Program) (nt : Nat) (ops : Array Oper) (i : Nat) (l : List Oper) (st st' : St) : Prop :=
  ∀ (L : Lay) (F R : Nat → Prop) (w0 w : World) (lam : List Nat) (a : Act), StRel L F R w0 w lam nt st a.tmps → a.defers = [] → ∀ (Q : Exit → Act → World → Prop),
    (∀ A W L' lam', A.defers = [] → Ext L st.h L' st'.h → StRel L' F R w0 W lam' nt st' A.tmps → Q .normal A W) → wpOps P ops Q (List.range' i l.length) a w
theorem put_defers (a : Act) (d : Option Tmp) (v : Value) : (a.put d v).defers = a.defers := by cases d <;> rfl
theorem guard_sound {o : Oper} {st : St} {k : St → Bool → Prop} (h : vcGuard ops o st k) : ∃ t' w, (∀ i, t' i = st.t i) ∧ k { st with t := t' } w ∧ ∀ (L : Lay) (lam : List Nat) (a : Act), Known L lam st.t a.tmps → Region.wanted o (yielded ops a.tmps) = w := by
  unfold vcGuard at h
  split at h
  · rename_i hg
    exact ⟨st.t, true, fun _ => rfl, h, fun L lam a _ => by simp [Region.wanted, hg]⟩
  · rename_i j w hg
    split at h
    case h_2 => exact h.elim
    rename_i d hd
    split at h
    · rename_i q hq
      have key : ∀ (L : Lay) (lam : List Nat) (a : Act), Known L lam st.t a.tmps → Region.wanted o (yielded ops a.tmps) = (w == q) := by
        intro L lam a kn
        have e : a.tmps[d]? = some (.bool q) := by
          rcases kn.slots d with h1 | ⟨X, h1, h2⟩
          · rw [hq] at h1; cases h1
          · rw [hq] at h2; rw [h1, h2.bool]
        simp only [Region.wanted, hg, yielded, hd, Option.bind_some, e]
        cases w <;> cases q <;> rfl
      rcases bs_cases h with ⟨rfl, h⟩ | ⟨rfl, h⟩
      · exact ⟨_, _, upd_same hq, h, key⟩
      · exact ⟨_, _, upd_same hq, h, key⟩
    · rename_i x y hq
      refine ⟨st.t, false, fun _ => rfl, h, fun L lam a kn => ?_⟩
      have e : a.tmps[d]? = some undef := by
        rcases kn.slots d with h1 | ⟨X, h1, h2⟩
        · rw [hq] at h1; cases h1
        · rw [hq] at h2; rw [h1]; exact congrArg some h2
      simp only [Region.wanted, hg, yielded, hd, Option.bind_some, e, undef]
      rfl
    · exact h.elim
theorem ops_sound : ∀ (l : List Oper) (i : Nat) (st : St) (K : St → Prop), (∀ j, l[j]? = ops[i + j]?) → vcOps P nt E ops l st K → ∃ st', K st' ∧ OpsRun P nt ops i l st st'
  | [], i, st, K, _, h => ⟨st, h, fun L F R w0 w lam a r hd Q hQ => hQ a w L lam hd (Ext.refl _ _) r⟩
  | o :: rest, i, st, K, hl, h => by
    unfold vcOps at h
    obtain ⟨t', w, ht, h, hw⟩ := guard_sound h
    obtain ⟨hdst, h⟩ := bs_false h
    have hlt := dOk_lt hdst
    have hi : ops[i]? = some o := by have := hl 0; simpa using this.symm
    have hl' : ∀ j, rest[j]? = ops[i + 1 + j]? := fun j => by have := hl (j + 1); rw [List.getElem?_cons_succ] at this; rw [this]; congr 1; omega
    cases w with
    | true =>
      obtain ⟨v, st1, h, hsem⟩ := op_sound (nt := nt) h
      obtain ⟨st2, hK, hrun⟩ := ops_sound rest (i + 1) _ K hl' h
      refine ⟨st2, hK, fun L F R w0 w lam a r hd Q hQ => ?_⟩
      rw [List.length_cons, List.range'_succ]
      simp only [wpOps, hi, hw L lam a r.known, if_true]
      refine .inl (hsem.2 L F R w0 w lam a (r.same ht) hd _ _ fun V W L' lam' hv hext _ hr => ?_)
      refine hrun L' F R w0 W lam' _ ?_ (by rw [put_defers]; exact hd) Q fun A W' L2 lam2 h1 h2 h3 => hQ A W' L2 lam2 h1 (hext.trans h2) h3
      exact hr.put hlt hv
    | false =>
      obtain ⟨st2, hK, hrun⟩ := ops_sound rest (i + 1) _ K hl' h
      refine ⟨st2, hK, fun L F R w0 w lam a r hd Q hQ => ?_⟩
      rw [List.length_cons, List.range'_succ]
      simp only [wpOps, hi, hw L lam a r.known, Bool.false_eq_true, if_false]
      refine hrun L F R w0 w lam _ ?_ (by rw [put_defers]; exact hd) Q fun A W' L2 lam2 h1 h2 h3 => hQ A W' L2 lam2 h1 h2 h3
      exact (r.same ht).put hlt (.inr rfl)
end
def CRun (P : Program) (nt : Nat) (c : Code) (st : St) (e : Exit) (st' : St) : Prop :=
  ∀ (L : Lay) (F R : Nat → Prop) (w0 w : World) (lam : List Nat) (a : Act), StRel L F R w0 w lam nt st a.tmps → a.defers = [] →
    c.wp P (fun e' A W => e' = e ∧ ∃ L' lam', A.defers = [] ∧ Ext L st.h L' st'.h ∧ StRel L' F R w0 W lam' nt st' A.tmps) a w
def Ends (N : St → Prop) (X : Exit → St → Prop) (e : Exit) (st : St) : Prop := match e with | .normal => N st | e => X e st
def CSem (P : Program) (nt : Nat) (c : Code) (st : St) (N : St → Prop) (X : Exit → St → Prop) : Prop := ∃ e st', Ends N X e st' ∧ CRun P nt c st e st'
def inBlk (id : Nat) (N : St → Prop) (X : Exit → St → Prop) (e : Exit) (st : St) : Prop :=
  match e with
  | .exit i => bs (i == id) (N st) (X (.exit i) st)
  | e => X e st
section
variable {P : Program} {nt : Nat}
theorem CRun.seq {x y : Code} {st st1 st2 : St} {e : Exit} (h : CRun P nt x st .normal st1) (k : CRun P nt y st1 e st2) : CRun P nt (.seq x y) st e st2 := by
  intro L F R w0 w lam a r hd
  refine wp_seq (wp_mono (h L F R w0 w lam a r hd) ?_)
  rintro _ A W ⟨rfl, L1, lam1, hA, hx, hr⟩
  refine wp_mono (k L1 F R w0 W lam1 A hr hA) ?_
  rintro e' A' W' ⟨rfl, L2, lam2, h1, h2, h3⟩
  exact ⟨rfl, L2, lam2, h1, hx.trans h2, h3⟩
theorem CRun.seqX {x y : Code} {st st1 : St} {e : Exit} (he : e ≠ .normal) (h : CRun P nt x st e st1) : CRun P nt (.seq x y) st e st1 := by
  intro L F R w0 w lam a r hd
  refine wp_seq (wp_mono (h L F R w0 w lam a r hd) ?_)
  rintro e' A W ⟨rfl, rest⟩
  cases e' <;> first | exact absurd rfl he | exact ⟨rfl, rest⟩
theorem CSem.seq {x y : Code} {st : St} {N : St → Prop} {X : Exit → St → Prop} (h : CSem P nt x st (fun st1 => CSem P nt y st1 N X) X) : CSem P nt (.seq x y) st N X := by
  obtain ⟨e, st1, hE, hr⟩ := h
  by_cases he : e = .normal
  · subst he
    obtain ⟨e2, st2, hE2, hr2⟩ := hE
    exact ⟨e2, st2, hE2, hr.seq hr2⟩
  · refine ⟨e, st1, ?_, hr.seqX he⟩
    cases e <;> first | exact absurd rfl he | exact hE
theorem CSem.mono {c : Code} {st : St} {N N' : St → Prop} {X X' : Exit → St → Prop} (h : CSem P nt c st N X) (hN : ∀ st, N st → N' st) (hX : ∀ e st, X e st → X' e st) : CSem P nt c st N' X' := by
  obtain ⟨e, st', hE, hr⟩ := h
  refine ⟨e, st', ?_, hr⟩
  cases e <;> first | exact hN _ hE | exact hX _ _ hE
theorem CSem.block {id : Nat} {c : Code} {st : St} {N : St → Prop} {X : Exit → St → Prop} (h : CSem P nt c st N (inBlk id N X)) : CSem P nt (.block id c) st N X := by
  obtain ⟨e, st', hE, hr⟩ := h
  have go : ∀ e' : Exit, (e = .exit id → e' = .normal) → (e ≠ .exit id → e' = e) → CRun P nt (.block id c) st e' st' := by
    intro e' h1 h2 L F R w0 w lam a r hd
    refine wp_block (wp_mono (hr L F R w0 w lam a r hd) ?_)
    rintro e0 A W ⟨rfl, rest⟩
    cases e0 <;> try exact ⟨(h2 (by simp)).symm, rest⟩
    rename_i i
    show if i = id then _ else _
    by_cases hi : i = id
    · subst hi
      rw [if_pos rfl]; exact ⟨(h1 rfl).symm, rest⟩
    · rw [if_neg hi]; exact ⟨(h2 (by simpa using hi)).symm, rest⟩
  by_cases he : e = .exit id
  · subst he
    refine ⟨.normal, st', ?_, go .normal (fun _ => rfl) (fun h => absurd rfl h)⟩
    have : bs (id == id) (N st') (X (.exit id) st') := hE
    rw [beq_self_eq_true] at this
    exact this
  · refine ⟨e, st', ?_, go e (fun h => absurd h he) (fun _ => rfl)⟩
    cases e <;> try exact hE
    rename_i i
    have hi : (i == id) = false := by simpa using he
    have : bs (i == id) (N st') (X (.exit i) st') := hE
    rw [hi] at this; exact this
structure Sub (s st : St) : Prop where
  t : ∀ i, s.t i = undef ∨ s.t i = st.t i
  S : s.S <+: st.S
  h : s.h = st.h
  loc : ∀ i j c, s.t i = .complex .f32 j c → j < s.S.length
theorem Sub.rel {s st : St} (u : Sub s st) {L : Lay} {F R : Nat → Prop} {w0 w : World} {lam : List Nat} {T : Array Value} (r : StRel L F R w0 w lam nt st T) : StRel L F R w0 w (lam.take s.S.length) nt s T := by
  have hlen : s.S.length ≤ st.S.length := u.S.length_le
  have hsub : ∀ b, b ∈ lam.take s.S.length → b ∈ lam := fun b hb => List.mem_of_mem_take hb
  refine ⟨by rw [u.h]; exact r.rel, r.tsz, by rw [List.length_take, r.llen]; omega, r.lnd.sublist (List.take_sublist _ _), fun b hb => r.lF b (hsub b hb), fun l o q h1 h2 h3 h4 => r.lrw l o q (by rw [← u.h]; exact h1) h2 h3 (hsub _ h4), ?_, ?_⟩
  · intro i b row h1 h2
    obtain ⟨x, hx⟩ := u.S
    refine r.lblk i b row ?_ ?_
    · rw [List.getElem?_take] at h1; split at h1; exact h1; cases h1
    · rw [← hx, List.getElem?_append_left (List.getElem?_eq_some_iff.1 h2).1]; exact h2
  · intro i
    rcases u.t i with h | h
    · exact .inl h
    · rcases r.slots i with k | ⟨X, e, k⟩
      · exact .inl (h.trans k)
      · refine .inr ⟨X, e, ?_⟩
        have hv : s.t i = st.t i := h
        generalize hs : s.t i = v at *
        rw [← hv] at k
        unfold SVRel at k ⊢
        split at k
        · obtain ⟨b, hb, e⟩ := k
          exact ⟨b, by rw [List.getElem?_take, if_pos (u.loc _ _ _ hs)]; exact hb, e⟩
        · exact k
        · exact k
theorem CRun.weak {c : Code} {s st st' : St} {e : Exit} (u : Sub s st) (h : CRun P nt c s e st') : CRun P nt c st e st' := by
  intro L F R w0 w lam a r hd
  refine wp_mono (h L F R w0 w _ a (u.rel r) hd) ?_
  rintro e' A W ⟨he, L', lam', h1, h2, h3⟩
  exact ⟨he, L', lam', h1, by rw [← u.h]; exact h2, h3⟩
theorem CSem.weak {c : Code} {s st : St} {N : St → Prop} {X : Exit → St → Prop} (u : Sub s st) (h : CSem P nt c s N X) : CSem P nt c st N X := let ⟨e, st', a, b⟩ := h; ⟨e, st', a, b.weak u⟩
def RRun (P : Program) (nt : Nat) (c : Code) (n : Nat) (st : St) (e : Exit) (st' : St) : Prop :=
  ∀ (L : Lay) (F R : Nat → Prop) (w0 w : World) (lam : List Nat) (a : Act), StRel L F R w0 w lam nt st a.tmps → a.defers = [] →
    ∀ Q : Exit → Act → World → Prop, (∀ A W, (∃ L' lam', A.defers = [] ∧ Ext L st.h L' st'.h ∧ StRel L' F R w0 W lam' nt st' A.tmps) → Q e A W) → Code.rounds P c Q n a w
theorem RRun.weak {c : Code} {n : Nat} {s st st' : St} {e : Exit} (u : Sub s st) (h : RRun P nt c n s e st') : RRun P nt c n st e st' := by
  intro L F R w0 w lam a r hd Q hQ
  refine h L F R w0 w _ a (u.rel r) hd Q ?_
  rintro A W ⟨L', lam', h1, h2, h3⟩
  exact hQ A W ⟨L', lam', h1, by rw [← u.h]; exact h2, h3⟩
theorem RRun.next {c : Code} {n : Nat} {st st1 st' : St} {e : Exit} (h : CRun P nt c st .normal st1) (k : RRun P nt c n st1 e st') : RRun P nt c (n + 1) st e st' := by
  intro L F R w0 w lam a r hd Q hQ
  rw [rounds_succ]
  refine wp_mono (h L F R w0 w lam a r hd) ?_
  rintro _ A W ⟨rfl, L1, lam1, hA, hx, hr⟩
  refine k L1 F R w0 W lam1 A hr hA Q ?_
  rintro A' W' ⟨L2, lam2, h1, h2, h3⟩
  exact hQ A' W' ⟨L2, lam2, h1, hx.trans h2, h3⟩
theorem RRun.last {c : Code} {st st1 : St} {e : Exit} (he : e ≠ .normal) (h : CRun P nt c st e st1) : RRun P nt c 1 st e st1 := by
  intro L F R w0 w lam a r hd Q hQ
  rw [rounds_succ]
  refine wp_mono (h L F R w0 w lam a r hd) ?_
  rintro e' A W ⟨rfl, rest⟩
  cases e' <;> first | exact absurd rfl he | exact hQ A W rest
theorem RRun.loop {c : Code} {n : Nat} {st st' : St} {e : Exit} (h : RRun P nt c n st e st') : CRun P nt (.loop c) st e st' :=
  fun L F R w0 w lam a r hd => wp_loop_rounds n (h L F R w0 w lam a r hd _ fun A W h => ⟨rfl, h⟩)
theorem loop_at {ι : Type} (head : ι → St) (I : ι → Prop) (μ : ι → Nat) {c : Code} {st : St} {N : St → Prop} {X : Exit → St → Prop} (i0 : ι) (h0 : I i0) (hs : Sub (head i0) st)
    (step : ∀ i, I i → CSem P nt c (head i) (fun st' => ∃ j, I j ∧ μ j < μ i ∧ Sub (head j) st') X) : CSem P nt (.loop c) st N X := by
  have key : ∀ m i, μ i = m → I i → ∃ n e st', e ≠ .normal ∧ X e st' ∧ RRun P nt c n (head i) e st' := by
    intro m
    induction m using Nat.strongRecOn with
    | _ m ih =>
      intro i hm hI
      obtain ⟨e, st1, hE, hr⟩ := step i hI
      by_cases he : e = .normal
      · subst he
        obtain ⟨j, hj, hlt, hsub⟩ := hE
        obtain ⟨n, e, st', h1, h2, h3⟩ := ih (μ j) (by omega) j rfl hj
        exact ⟨n + 1, e, st', h1, h2, .next hr (h3.weak hsub)⟩
      · refine ⟨1, e, st1, he, ?_, .last he hr⟩
        cases e <;> first | exact absurd rfl he | exact hE
  obtain ⟨n, e, st', h1, h2, h3⟩ := key _ i0 rfl h0
  refine ⟨e, st', ?_, (h3.weak hs).loop⟩
  cases e <;> first | exact absurd rfl h1 | exact h2
end
end Go.Abs
namespace Go.Abs
def pureNow (o : Oper) (t : Nat → Value) : Bool :=
  match o.op with
  | .move _ | .assign _ | .build _ _ | .nilCheck _ | .binOp _ _ _ _ _ | .unOp _ _ _ | .makeInterface _ _ | .makeFunc _ _ _ | .slice _ _ _ _ _ | .fieldAddr _ _ _ | .field _ _ _ | .indexAddr _ _ _ | .index _ _ _ | .extract _ _ | .pick _ _ _ => true
  | .convert _ _ x => match ev t x with
    | .int _ _ => true
    | _ => false
  | .call c => match c.callee with
    | .builtin .len | .builtin .cap | .builtin .min | .builtin .max => true
    | _ => false
  | _ => false
section
variable {P : Program} {nt : Nat} {o : Oper} {st : St}
theorem pure_sound {E : Tmp → Bool} {K : Value → St → Prop} (hp : pureNow o st.t = true) (h : vcOp P E o st K) : ∃ v, K v st ∧ PSem P o st.t v := by
  unfold vcOp at h
  unfold pureNow at hp
  split at h
  · rename_i ho; exact move_sound (K := fun v => K v st) (.inl ho) h
  · rename_i ho; exact move_sound (K := fun v => K v st) (.inr ho) h
  · rename_i ho
    split at h
    · rename_i hq; exact pick_sound (K := fun v => K v st) ho hq h
    · exact h.elim
  · rename_i ho; rw [ho] at hp; cases hp
  · rename_i ho; rw [ho] at hp; cases hp
  · rename_i ho; exact build_sound (K := fun v => K v st) ho (by rw [Array.toList_map]; exact h)
  · rename_i ho; rw [ho] at hp; cases hp
  · rename_i ho; rw [ho] at hp; cases hp
  · rename_i ho; rw [ho] at hp; cases hp
  · rename_i ho; exact nil_sound (K := fun v => K v st) ho h
  · rename_i ho; exact bin_sound (K := fun v => K v st) ho h
  · rename_i ho; exact un_sound (K := fun v => K v st) ho h
  · rename_i ho
    rw [ho] at hp
    dsimp only at hp
    split at h
    · rename_i hx; rw [hx] at hp; cases hp
    · rename_i hx; rw [hx] at hp; cases hp
    · exact conv_sound (K := fun v => K v st) ho h
  · rename_i t x ho
    cases hd : P.underlying t with
    | none => rw [hd] at h; exact h.elim
    | some d =>
      rw [hd] at h
      cases d <;> first
        | exact h.elim
        | (obtain ⟨h1, h⟩ := bs_false h
           exact makeIface_sound (K := fun v => K v st) ho hd (by intro ms; simp) h1 h)
  · rename_i ho
    obtain ⟨h1, h⟩ := bs_false h
    simp only [Bool.and_eq_true] at h1
    have e : ∀ xs : Array Operand, (xs.toList.map (ev st.t)).toArray = xs.map (ev st.t) := fun xs => by apply Array.ext'; simp
    rw [e, e] at h
    exact makeFunc_sound (K := fun v => K v st) ho h1.1 h1.2 h
  · rename_i ho; rw [ho] at hp; cases hp
  · rename_i ho; exact slice_sound (K := fun v => K v st) ho h
  · rename_i ho; exact fieldAddr_sound (K := fun v => K v st) ho h
  · rename_i ho; exact field_sound (K := fun v => K v st) ho h
  · rename_i ho; exact indexAddr_sound (K := fun v => K v st) ho h
  · rename_i ho; exact index_sound (K := fun v => K v st) ho h
  · rename_i ho; exact extract_sound (K := fun v => K v st) ho h
  · rename_i c ho
    rw [ho] at hp
    dsimp only at hp
    have arr : ∀ {α : Type} {A : Array α} {l : List α}, A.toList = l → A = l.toArray := fun h => by rw [← h]
    split at h
    · rename_i f hc; rw [hc] at hp; cases hp
    · rename_i hc
      split at h
      · rename_i x t ts h1 h2; exact len_sound (K := fun v => K v st) ho hc (arr h1) (by rw [arr h2]; rfl) h
      · exact h.elim
    · rename_i hc
      split at h
      · rename_i x t ts h1 h2; exact cap_sound (K := fun v => K v st) ho hc (arr h1) (by rw [arr h2]; rfl) h
      · exact h.elim
    · rename_i hc
      split at h
      · rename_i x y h1; exact min_sound (K := fun v => K v st) ho hc (arr h1) h
      · exact h.elim
    · rename_i hc
      split at h
      · rename_i x y h1; exact max_sound (K := fun v => K v st) ho hc (arr h1) h
      · exact h.elim
    · rename_i hc; rw [hc] at hp; cases hp
    · rename_i hc; rw [hc] at hp; cases hp
    · rename_i hc; rw [hc] at hp; cases hp
    · exact h.elim
  · exact h.elim
def readNow (o : Oper) (t : Nat → Value) : Bool :=
  match o.op with
  | .load _ _ => true
  | .convert _ _ x => match ev t x with
    | .slice _ _ _ => true
    | _ => false
  | _ => false
theorem read_sound {E : Tmp → Bool} {K : Value → St → Prop} (hp : readNow o st.t = true) (h : vcOp P E o st K) : ∃ v, K v st ∧ OpSem P nt o st v st := by
  unfold vcOp at h
  unfold readNow at hp
  split at hp
  · rename_i ho; rw [ho] at h; exact load_sound (K := fun v => K v st) ho h
  · rename_i ho
    rw [ho] at h
    dsimp only at h
    split at hp
    · rename_i hx; rw [hx] at h; exact b2s_sound (K := fun v => K v st) ho (by rw [hx]; exact h)
    · cases hp
  · cases hp
theorem vcOp_congr {E : Tmp → Bool} {t t' : Nat → Value} {S : List (List Value)} {hp : AHeap} (h : ∀ x ∈ o.op.operands, ev t' x = ev t x) {C : Value → List (List Value) → AHeap → Prop}
    (k : vcOp P E o ⟨t, S, hp⟩ fun v st => C v st.S st.h) : vcOp P E o ⟨t', S, hp⟩ fun v st => C v st.S st.h := by
  obtain ⟨dst, op, type, pos, after, guard⟩ := o
  have pairs : ∀ ps : Array (Nat × Operand), (∀ x ∈ (ps.toList.map (·.2)).toArray, ev t' x = ev t x) →
      (ps.toList.map fun x => (x.1, ev t' x.2)) = (ps.toList.map fun x => (x.1, ev t x.2)) := fun ps hps =>
    List.map_congr_left fun p hm => by
      obtain ⟨i, x⟩ := p
      simp only [hps x (by simpa using ⟨i, Array.mem_toList_iff.1 hm⟩)]
  have maps : ∀ ps : Array Operand, (∀ x ∈ ps, ev t' x = ev t x) → ps.map (ev t') = ps.map (ev t) := fun ps hps => Array.map_congr_left fun x hx => hps x hx
  have mapsL : ∀ ps : Array Operand, (∀ x ∈ ps, ev t' x = ev t x) → ps.toList.map (ev t') = ps.toList.map (ev t) := fun ps hps => List.map_congr_left fun x hx => hps x (by simpa using hx)
  have oks : ∀ ps : Array Operand, (∀ x ∈ ps, ev t' x = ev t x) → (ps.toList.all fun x => okv (ev t' x)) = (ps.toList.all fun x => okv (ev t x)) := fun ps hps => by
    apply Bool.eq_iff_iff.2
    simp only [List.all_eq_true, Array.mem_toList_iff]
    exact ⟨fun h x hx => by rw [← hps x hx]; exact h x hx, fun h x hx => by rw [hps x hx]; exact h x hx⟩
  cases op <;> simp only [Op.operands] at h <;> simp only [vcOp] at k ⊢
  case build t0 ps => rw [pairs ps h]; exact k
  case buildSlice t0 n ps => rw [pairs ps h]; exact k
  case makeFunc fn xs ys =>
    have h1 : ∀ x ∈ xs, ev t' x = ev t x := fun x hx => h x (by simp [hx])
    have h2 : ∀ x ∈ ys, ev t' x = ev t x := fun x hx => h x (by simp [hx])
    rw [oks xs h1, oks ys h2, mapsL xs h1, mapsL ys h2]; exact k
  case slice t0 x lo hi mx =>
    have e : ∀ y : Option Operand, (∀ z ∈ y.toArray, ev t' z = ev t z) → y.map (ev t') = y.map (ev t) := fun y hy => by
      cases y with
      | none => rfl
      | some z => simp only [Option.map_some]; rw [hy z (by simp)]
    rw [h x (by simp), e lo fun z hz => h z (by simp at hz ⊢; simp [hz]), e hi fun z hz => h z (by simp at hz ⊢; simp [hz]), e mx fun z hz => h z (by simp at hz ⊢; simp [hz])]
    exact k
  case call c =>
    obtain ⟨callee, args, argTypes⟩ := c
    simp only [Call.operands] at h
    have ha : ∀ x ∈ args, ev t' x = ev t x := fun x hx => h x (by simp [hx])
    dsimp only at k ⊢
    split at k
    · rename_i f
      unfold vcCall at k ⊢
      rw [h f (by simp), mapsL args ha, oks args ha]; exact k
    all_goals
      obtain ⟨l⟩ := args
      first
        | exact k
        | (obtain ⟨ts⟩ := argTypes
           rcases l with _ | ⟨x, _ | ⟨y, _ | ⟨z, l⟩⟩⟩ <;> rcases ts with _ | ⟨t1, _ | ⟨t2, _ | ⟨t3, ts⟩⟩⟩ <;> dsimp only at k ⊢ <;> first
            | exact k
            | (rw [ha x (by simp)]; exact k)
            | (rw [ha x (by simp), ha y (by simp)]; exact k))
  all_goals first
    | exact k
    | (rw [h _ (by simp)]; exact k)
    | (rw [h _ (by simp), h _ (by simp)]; exact k)
    | (simp_all; done)
end
end Go.Abs
namespace Go.Abs
abbrev Stp := Nat × Nat × List Nat
def waits (ops : Array Oper) (j i : Nat) : Bool := match ops[j]? with | some o => o.after.any fun e => Region.binds .any e && e.on == i | none => false
def looks (ops : Array Oper) (i : Nat) : List Tmp := match ops[i]? with | some o => o.looksAt ops | none => []
def dstAt (ops : Array Oper) (i : Nat) : Option Tmp := match ops[i]? with | some o => o.dst | none => none
def only (ls : List Nat) (t : Nat → Value) : Nat → Value := fun i => bif ls.contains i then t i else undef
def hide (ops : Array Oper) (owed : List Stp) (t : Nat → Value) : Nat → Value := fun i => bif owed.any (fun x => dstAt ops x.1 == some i) then undef else t i
def closure (ops : Array Oper) : List Stp → List Nat → List Nat
  | [], set => set
  | x :: d, set => closure ops d (bif set.any (fun z => waits ops z x.1) then x.1 :: set else set)
def chk1 (nt : Nat) (ops : Array Oper) (done : List Stp) (s : Stp) (rest : List Stp) : Bool :=
  match ops[s.1]? with
  | none => false
  | some o => dOk nt o.dst && !(done.any fun x => x.1 == s.1) && (o.after.all fun e => !Region.binds .any e || done.any fun x => x.1 == e.on) &&
      (match o.dst with
       | some d => !(o.looksAt ops).contains d && done.all fun x => (!(looks ops x.1).contains d || (s.2.1 != 0 && s.2.1 != 1 && s.2.1 != 2 && o.guard.isNone && waits ops s.1 x.1)) && dstAt ops x.1 != some d
       | none => true) &&
      (done.all fun x => match dstAt ops x.1 with
       | some d => !(o.looksAt ops).contains d || waits ops s.1 x.1
       | none => true) &&
      (match s.2.1 with
       | 0 => true
       | 1 => true
       | 2 => done.all fun x => (x.2.1 != 1 && x.2.1 != 2) || s.2.2.contains x.1
       | _ => (rest.all fun r => match ops[r.1]? with
                | some q => q.after.any fun e => Region.binds .any e && !(done.any fun x => x.1 == e.on)
                | none => false) &&
              done.all fun x => (x.2.1 != 1 && x.2.1 != 2) || s.2.2.contains x.1 || (closure ops done [s.1]).contains x.1)
def chk (nt : Nat) (ops : Array Oper) : List Stp → List Stp → Bool
  | done, [] => done.length == ops.size && (List.range ops.size).all fun i => done.any fun x => x.1 == i
  | done, s :: rest => chk1 nt ops done s rest && chk nt ops (s :: done) rest
def kindOk (E : Tmp → Bool) (k : Nat) (o : Oper) (t : Nat → Value) : Bool :=
  match k with
  | 0 => pureNow o t
  | 1 => readNow o t
  | 2 => match o.op, o.dst with
    | .alloc _, some d => E d
    | .buildSlice _ _ _, some _ => true
    | .makeSlice _ _ _, some _ => true
    | _, _ => false
  | _ => true
def reOk (P : Program) (E : Tmp → Bool) (ops : Array Oper) (x : Stp) (st st' : St) : Prop :=
  match ops[x.1]? with
  | none => True
  | some o => vcGuard ops o st' fun _ w => match w with
    | false => True
    | true => match x.2.1 with
      | 1 => bs (readNow o st'.t) (vcOp P E o st' fun v _ => match o.dst with
        | some d => v = st'.t d
        | none => True) False
      | 2 => match o.dst with
        | some d => match st'.t d with
          | .pointer (some ⟨l, _, _⟩) => st'.h.get l = st.h.get l ∧ st.h.n ≤ st'.h.n
          | .slice (some ⟨l, _, _⟩) _ _ => st'.h.get l = st.h.get l ∧ st.h.n ≤ st'.h.n
          | _ => False
        | none => False
      | _ => True
def reAll (P : Program) (E : Tmp → Bool) (ops : Array Oper) (st st' : St) (K : Prop) : List Stp → Prop
  | [] => K
  | x :: l => reOk P E ops x st st' ∧ reAll P E ops st st' K l
def vcSched (P : Program) (E : Tmp → Bool) (ops : Array Oper) : List Stp → List Stp → St → (St → Prop) → Prop
  | _, [], st, K => K st
  | done, s :: rest, st, K => match ops[s.1]? with
    | none => False
    | some o => vcGuard ops o st fun st w => match w with
      | false => vcSched P E ops (s :: done) rest ⟨putD st.t o.dst skipV, st.S, st.h⟩ K
      | true => bs (kindOk E s.2.1 o st.t) (vcOp P E o st fun v st' =>
          reAll P E ops st ⟨putD st.t o.dst v, st'.S, st'.h⟩ (vcSched P E ops (s :: done) rest ⟨putD st.t o.dst v, st'.S, st'.h⟩ K) (done.filter fun x => s.2.2.contains x.1)) False
section
variable {P : Program} {nt : Nat} {ops : Array Oper} {E : Tmp → Bool}
theorem waits_iff {j i : Nat} : waits ops j i = true ↔ ∃ o, ops[j]? = some o ∧ ∃ e ∈ o.after, Region.binds .any e = true ∧ e.on = i := by
  unfold waits
  cases ho : ops[j]? with
  | some o =>
    dsimp only
    rw [Array.any_eq_true']
    constructor
    · rintro ⟨e, he, h⟩
      simp only [Bool.and_eq_true, beq_iff_eq] at h
      exact ⟨o, rfl, e, he, h⟩
    · rintro ⟨o', h1, e, he, h⟩
      obtain rfl := Option.some.inj h1
      exact ⟨e, he, by simp only [Bool.and_eq_true, beq_iff_eq]; exact h⟩
  | none => simp
structure Dn (nt : Nat) (ops : Array Oper) (done : List Stp) : Prop where
  ex : ∀ x ∈ done, ∃ o, ops[x.1]? = some o ∧ dOk nt o.dst = true ∧ ∀ d, o.dst = some d → d ∉ o.looksAt ops
  inj : ∀ x ∈ done, ∀ y ∈ done, x.1 = y.1 → x = y
  pre : ∀ x ∈ done, ∀ z, waits ops x.1 z = true → ∃ y ∈ done, y.1 = z
  dat : ∀ x ∈ done, ∀ y ∈ done, x.1 ≠ y.1 → ∀ d, dstAt ops x.1 = some d → d ∈ looks ops y.1 → waits ops y.1 x.1 = true ∨ (x.2.1 ≠ 0 ∧ x.2.1 ≠ 1 ∧ x.2.1 ≠ 2 ∧ ∃ o, ops[x.1]? = some o ∧ o.guard = none)
  dst : ∀ x ∈ done, ∀ y ∈ done, x.1 ≠ y.1 → ∀ d, dstAt ops x.1 = some d → dstAt ops y.1 ≠ some d
def Ord (ops : Array Oper) : List Stp → Prop
  | [] => True
  | s :: d => (∀ z, waits ops s.1 z = true → ∃ y ∈ d, y.1 = z) ∧ Ord ops d
structure Chk1 (nt : Nat) (ops : Array Oper) (done : List Stp) (s : Stp) (rest : List Stp) (o : Oper) : Prop where
  at' : ops[s.1]? = some o
  d : dOk nt o.dst = true
  new : ∀ x ∈ done, x.1 ≠ s.1
  pre : ∀ z, waits ops s.1 z = true → ∃ y ∈ done, y.1 = z
  self : ∀ d, o.dst = some d → d ∉ o.looksAt ops
  dst : ∀ d, o.dst = some d → ∀ x ∈ done, (d ∉ looks ops x.1 ∨ (s.2.1 ≠ 0 ∧ s.2.1 ≠ 1 ∧ s.2.1 ≠ 2 ∧ o.guard = none ∧ waits ops s.1 x.1 = true)) ∧ dstAt ops x.1 ≠ some d
  dat : ∀ x ∈ done, ∀ d, dstAt ops x.1 = some d → d ∈ o.looksAt ops → waits ops s.1 x.1 = true
  two : s.2.1 = 2 → ∀ x ∈ done, (x.2.1 = 1 ∨ x.2.1 = 2) → s.2.2.contains x.1 = true
  eff : s.2.1 ≠ 0 → s.2.1 ≠ 1 → s.2.1 ≠ 2 → ∀ r ∈ rest, ∃ z, waits ops r.1 z = true ∧ ∀ x ∈ done, x.1 ≠ z
  re : s.2.1 ≠ 0 → s.2.1 ≠ 1 → s.2.1 ≠ 2 → ∀ x ∈ done, (x.2.1 = 1 ∨ x.2.1 = 2) → s.2.2.contains x.1 = true ∨ x.1 ∈ closure ops done [s.1]
theorem chk1_spec {done : List Stp} {s : Stp} {rest : List Stp} (h : chk1 nt ops done s rest = true) : ∃ o, Chk1 nt ops done s rest o := by
  unfold chk1 at h
  split at h
  · cases h
  rename_i o ho
  simp only [Bool.and_eq_true] at h
  obtain ⟨⟨⟨⟨⟨h1, h2⟩, h3⟩, h4⟩, h5⟩, h6⟩ := h
  have h2' : ∀ x ∈ done, x.1 ≠ s.1 := fun x hx e => by
    simp only [Bool.not_eq_true', List.any_eq_false] at h2
    exact h2 x hx (by simpa using e)
  have h3' : ∀ z, waits ops s.1 z = true → ∃ y ∈ done, y.1 = z := fun z hz => by
    obtain ⟨o', ho', e, he, hb, hon⟩ := waits_iff.1 hz
    obtain rfl := Option.some.inj (ho.symm.trans ho')
    have := Array.all_eq_true_iff_forall_mem.1 h3 e he
    rw [hb] at this
    simp only [Bool.not_true, Bool.false_or, List.any_eq_true, beq_iff_eq] at this
    obtain ⟨y, hy, hyz⟩ := this
    exact ⟨y, hy, hyz.trans hon⟩
  have h4' : ∀ d, o.dst = some d → d ∉ o.looksAt ops ∧ ∀ x ∈ done, (d ∉ looks ops x.1 ∨ (s.2.1 ≠ 0 ∧ s.2.1 ≠ 1 ∧ s.2.1 ≠ 2 ∧ o.guard = none ∧ waits ops s.1 x.1 = true)) ∧ dstAt ops x.1 ≠ some d := fun d hd => by
    rw [hd] at h4
    simp only [Bool.and_eq_true, Bool.or_eq_true, Bool.not_eq_true', List.all_eq_true, bne_iff_ne, ne_eq, Option.isNone_iff_eq_none] at h4
    refine ⟨fun hm => ?_, fun x hx => ⟨?_, (h4.2 x hx).2⟩⟩
    · have := h4.1; rw [List.contains_iff_mem.2 hm] at this; cases this
    · rcases (h4.2 x hx).1 with h | h
      · exact .inl fun hm => by rw [List.contains_iff_mem.2 hm] at h; cases h
      · exact .inr ⟨h.1.1.1.1, h.1.1.1.2, h.1.1.2, h.1.2, h.2⟩
  have h5' : ∀ x ∈ done, ∀ d, dstAt ops x.1 = some d → d ∈ o.looksAt ops → waits ops s.1 x.1 = true := fun x hx d hd hm => by
    have := List.all_eq_true.1 h5 x hx
    rw [hd] at this
    simp only [Bool.or_eq_true, Bool.not_eq_true'] at this
    rcases this with h | h
    · rw [List.contains_iff_mem.2 hm] at h; cases h
    · exact h
  have kind : ∀ {k : Nat} {c r : Bool}, ((k != 1 && k != 2) || c || r) = true → (k = 1 ∨ k = 2) → c = true ∨ r = true := fun h hk => by
    simp only [Bool.or_eq_true, Bool.and_eq_true, bne_iff_ne, ne_eq] at h
    rcases h with (h | h) | h
    · rcases hk with e | e
      · exact absurd e h.1
      · exact absurd e h.2
    · exact .inl h
    · exact .inr h
  refine ⟨o, ho, h1, h2', h3', fun d hd => (h4' d hd).1, fun d hd => (h4' d hd).2, h5', ?_, ?_, ?_⟩
  · intro hk x hx hxk
    rw [hk] at h6
    have := List.all_eq_true.1 h6 x hx
    rcases kind (r := false) (by rw [Bool.or_false]; exact this) hxk with h | h
    · exact h
    · cases h
  · intro k0 k1 k2 r hr
    split at h6
    · rename_i e; exact absurd e k0
    · rename_i e; exact absurd e k1
    · rename_i e; exact absurd e k2
    simp only [Bool.and_eq_true] at h6
    have := List.all_eq_true.1 h6.1 r hr
    split at this
    · rename_i q hq
      obtain ⟨e, he, hb⟩ := Array.any_eq_true'.1 this
      simp only [Bool.and_eq_true, Bool.not_eq_true', List.any_eq_false, beq_iff_eq] at hb
      exact ⟨e.on, waits_iff.2 ⟨q, hq, e, he, hb.1, rfl⟩, fun x hx => hb.2 x hx⟩
    · cases this
  · intro k0 k1 k2 x hx hxk
    split at h6
    · rename_i e; exact absurd e k0
    · rename_i e; exact absurd e k1
    · rename_i e; exact absurd e k2
    simp only [Bool.and_eq_true] at h6
    rcases kind (List.all_eq_true.1 h6.2 x hx) hxk with h | h
    · exact .inl h
    · exact .inr (List.contains_iff_mem.1 h)
theorem looks_eq {i : Nat} {o : Oper} (h : ops[i]? = some o) : looks ops i = o.looksAt ops := by unfold looks; rw [h]
theorem dstAt_eq {i : Nat} {o : Oper} (h : ops[i]? = some o) : dstAt ops i = o.dst := by unfold dstAt; rw [h]
theorem Dn.cons  {done : List Stp} {s : Stp} {rest : List Stp} {o : Oper} (h : Dn nt ops done) (c : Chk1 nt ops done s rest o) : Dn nt ops (s :: done) := by
  refine ⟨?_, ?_, ?_, ?_, ?_⟩
  · intro x hx
    rcases List.mem_cons.1 hx with rfl | hx
    · exact ⟨o, c.at', c.d, c.self⟩
    · exact h.ex x hx
  · intro x hx y hy e
    rcases List.mem_cons.1 hx with e1 | hx' <;> rcases List.mem_cons.1 hy with e2 | hy'
    · rw [e1, e2]
    · rw [e1] at e; exact absurd e.symm (c.new y hy')
    · rw [e2] at e; exact absurd e (c.new x hx')
    · exact h.inj x hx' y hy' e
  · intro x hx z hz
    rcases List.mem_cons.1 hx with rfl | hx
    · obtain ⟨y, hy, e⟩ := c.pre z hz; exact ⟨y, List.mem_cons_of_mem _ hy, e⟩
    · obtain ⟨y, hy, e⟩ := h.pre x hx z hz; exact ⟨y, List.mem_cons_of_mem _ hy, e⟩
  · intro x hx y hy ne d hd hm
    rcases List.mem_cons.1 hx with e1 | hx' <;> rcases List.mem_cons.1 hy with e2 | hy'
    · rw [e1, e2] at ne; exact absurd rfl ne
    · rw [e1, dstAt_eq c.at'] at hd
      rcases (c.dst d hd y hy').1 with h1 | h1
      · exact absurd hm h1
      · rw [e1]; exact .inr ⟨h1.1, h1.2.1, h1.2.2.1, o, c.at', h1.2.2.2.1⟩
    · rw [e2, looks_eq c.at'] at hm; rw [e2]; exact .inl (c.dat x hx' d hd hm)
    · exact h.dat x hx' y hy' ne d hd hm
  · intro x hx y hy ne d hd
    rcases List.mem_cons.1 hx with e1 | hx' <;> rcases List.mem_cons.1 hy with e2 | hy'
    · rw [e1, e2] at ne; exact absurd rfl ne
    · rw [e1, dstAt_eq c.at'] at hd; exact (c.dst d hd y hy').2
    · rw [e2, dstAt_eq c.at']; intro hd'; exact (c.dst d hd' x hx').2 hd
    · exact h.dst x hx' y hy' ne d hd
theorem closure_listed {Lp : Nat → Prop} (hd : ∀ z x, Lp z → waits ops z x = true → Lp x) : ∀ (d : List Stp) (set : List Nat), (∀ z ∈ set, ∀ x, waits ops z x = true → Lp x) → ∀ z ∈ closure ops d set, z ∈ set ∨ Lp z
  | [], set, _, z, hz => .inl hz
  | x :: d, set, hs, z, hz => by
    unfold closure at hz
    cases e : set.any (fun z => waits ops z x.1) with
    | false => rw [e] at hz; exact closure_listed hd d set hs z hz
    | true =>
      rw [e] at hz
      obtain ⟨y, hy, hw⟩ := List.any_eq_true.1 e
      have hx : Lp x.1 := hs y hy _ hw
      rcases closure_listed hd d (x.1 :: set) (fun z hz => by
        rcases List.mem_cons.1 hz with rfl | hz
        · exact fun x' hx' => hd _ _ hx hx'
        · exact hs z hz) z hz with h | h
      · rcases List.mem_cons.1 h with rfl | h
        · exact .inr hx
        · exact .inl h
      · exact .inr h
end
end Go.Abs
namespace Go.Abs
theorem Rel.ghost {L : Lay} {F R : Nat → Prop} {w0 w : World} {h : AHeap} (r : Rel L F R w0 w h) (o : AObj) : Rel L F R w0 w (h.push o) := by
  have key : ∀ {x y s}, (h.push o).get x = some y → L x = some s → h.get x = some y := fun {x y s} h1 h2 => by
    by_cases e : x = h.n
    · subst e; rw [r.unl h.n (Nat.le_refl _)] at h2; cases h2
    · rw [AHeap.get_push_ne e] at h1; exact h1
  refine ⟨r.keeps, r.inF, r.inR, fun l hl => ?_, fun l hl => r.unl l (Nat.le_of_succ_le hl), fun l o s a b => r.obj l o s (key a b) b, fun l o s a b => r.free l o s (key a b) b, fun l o s a b => r.ro l o s (key a b) b, fun l l' o o' s s' a a' b b' => r.apart l l' o o' s s' (key a b) (key a' b') b b'⟩
  have hl' : h.n + 1 ≤ l := hl
  rw [AHeap.get_push_ne (by omega)]; exact r.fresh l (by omega)
theorem Rel.born {L : Lay} {F R : Nat → Prop} {w0 w : World} {h : AHeap} (r : Rel L F R w0 w h) {l : Nat} {o : AObj} {cs : Array Value} {T : TypeId} (hl : h.get l = some o) (hL : L l = none) (hn : l < h.n) (hrw : o.rw = true)
    (hlen : ∀ (i : Nat) (row : List Value), o.rows[i]? = some row → row.length = o.esz)
    (hcell : ∀ (i : Nat) (row : List Value), o.rows[i]? = some row → ∀ (j : Nat) (v : Value), row[j]? = some v → ∃ V, cs[i * o.esz + j]? = some V ∧ VRel L v V) :
    Rel (L.set l ⟨w.heap.size, 0, o.esz, cs.size, o.rw⟩) F R w0 (w.alloc (.cells cs T (0, 0))) h := by
  have hle := Lay.le_set (L := L) hL ⟨w.heap.size, 0, o.esz, cs.size, o.rw⟩
  have hnew : (w.alloc (.cells cs T (0, 0))).heap[w.heap.size]? = some (.cells cs T (0, 0)) := alloc_new w _
  have hsz : (w.alloc (.cells cs T (0, 0))).heap.size = w.heap.size + 1 := alloc_size w _
  have key : ∀ x y q, h.get x = some y → (L.set l ⟨w.heap.size, 0, o.esz, cs.size, o.rw⟩) x = some q →
      (x = l ∧ y = o ∧ q = ⟨w.heap.size, 0, o.esz, cs.size, o.rw⟩) ∨ (x ≠ l ∧ L x = some q) := by
    intro x y q h1 h2
    unfold Lay.set at h2
    by_cases e : x = l
    · subst e; rw [if_pos rfl] at h2; left; exact ⟨rfl, Option.some.inj (h1.symm.trans hl), (Option.some.inj h2).symm⟩
    · rw [if_neg e] at h2; right; exact ⟨e, h2⟩
  refine ⟨r.keeps.alloc r.inF _, r.inF, r.inR, r.fresh, ?_, ?_, ?_, ?_, ?_⟩
  · intro x hx
    show (if x = l then _ else L x) = none
    rw [if_neg (by omega)]; exact r.unl x hx
  · intro x y q h1 h2
    rcases key x y q h1 h2 with ⟨rfl, rfl, rfl⟩ | ⟨_, b⟩
    · refine ⟨rfl, rfl, by rw [hsz]; exact Nat.lt_succ_self _, hlen, ?_, fun _ => ⟨cs, T, (0, 0), hnew, rfl, .inl (Nat.le_refl _)⟩⟩
      intro i row hi j v hv
      obtain ⟨V, c, d⟩ := hcell i row hi j v hv
      refine ⟨V, ?_, d.mono hle⟩
      show (w.alloc (.cells cs T (0, 0))).cell? ⟨w.heap.size, 0 + i * y.esz + j, none⟩ = some V
      rw [Nat.zero_add]
      unfold World.cell?; rw [hnew]; simpa using c
    · exact ((r.obj x y q h1 b).mono hle).world (by rw [hsz]; omega) (alloc_old w _ (r.obj x y q h1 b).lt)
  · intro x y q h1 h2 hx hf
    rcases key x y q h1 h2 with ⟨rfl, rfl, rfl⟩ | ⟨_, b⟩
    · have h3 := r.inF _ hf
      have h4 := r.keeps.size
      dsimp only at h3; omega
    · exact r.free x y q h1 b hx hf
  · intro x y q h1 h2 hx
    rcases key x y q h1 h2 with ⟨rfl, rfl, rfl⟩ | ⟨_, b⟩
    · rw [hrw] at hx; cases hx
    · exact r.ro x y q h1 b hx
  · intro x x' y y' q q' h1 h1' h2 h2' hx hne he
    rcases key x y q h1 h2 with ⟨rfl, rfl, rfl⟩ | ⟨_, b⟩
    · rcases key x' y' q' h1' h2' with ⟨rfl, rfl, rfl⟩ | ⟨_, b'⟩
      · exact hne rfl
      · have := (r.obj x' y' q' h1' b').lt; dsimp only at he; omega
    · rcases key x' y' q' h1' h2' with ⟨rfl, rfl, rfl⟩ | ⟨_, b'⟩
      · have := (r.obj x y q h1 b).lt; dsimp only at he; omega
      · exact r.apart x x' y y' q q' h1 h1' b b' hx hne he
theorem StRel.reslot {L : Lay} {F R : Nat → Prop} {w0 w : World} {lam : List Nat} {nt : Nat} {t1 t2 : Nat → Value} {S : List (List Value)} {h : AHeap} {T : Array Value} (r : StRel L F R w0 w lam nt ⟨t1, S, h⟩ T) (hs : ∀ i, SlotRel L lam (t2 i) T[i]?) : StRel L F R w0 w lam nt ⟨t2, S, h⟩ T :=
  ⟨r.rel, r.tsz, r.llen, r.lnd, r.lF, r.lrw, r.lblk, hs⟩
theorem StRel.ghost {L : Lay} {F R : Nat → Prop} {w0 w : World} {lam : List Nat} {nt : Nat} {t : Nat → Value} {S : List (List Value)} {h : AHeap} {T : Array Value} (r : StRel L F R w0 w lam nt ⟨t, S, h⟩ T) (o : AObj) : StRel L F R w0 w lam nt ⟨t, S, h.push o⟩ T :=
  ⟨r.rel.ghost o, r.tsz, r.llen, r.lnd, r.lF, fun l x s h1 h2 h3 => r.lrw l x s (by
    by_cases e : l = h.n
    · subst e; rw [r.rel.unl h.n (Nat.le_refl _)] at h2; cases h2
    · exact (AHeap.get_push_ne e).symm.trans h1) h2 h3, r.lblk, r.slots⟩
theorem StRel.born {L : Lay} {F R : Nat → Prop} {w0 w : World} {lam : List Nat} {nt : Nat} {st : St} {T : Array Value} (r : StRel L F R w0 w lam nt st T) {l : Nat} {o : AObj} {cs : Array Value} (ty : TypeId) (hl : st.h.get l = some o) (hL : L l = none) (hn : l < st.h.n) (hrw : o.rw = true)
    (hlen : ∀ (i : Nat) (row : List Value), o.rows[i]? = some row → row.length = o.esz)
    (hcell : ∀ (i : Nat) (row : List Value), o.rows[i]? = some row → ∀ (j : Nat) (v : Value), row[j]? = some v → ∃ V, cs[i * o.esz + j]? = some V ∧ VRel L v V) :
    StRel (L.set l ⟨w.heap.size, 0, o.esz, cs.size, o.rw⟩) F R w0 (w.alloc (.cells cs ty (0, 0))) lam nt st T := by
  have hle := Lay.le_set (L := L) hL ⟨w.heap.size, 0, o.esz, cs.size, o.rw⟩
  have s := r.skip (.cells cs ty (0, 0))
  refine ⟨r.rel.born hl hL hn hrw hlen hcell, r.tsz, r.llen, r.lnd, r.lF, ?_, ?_, fun i => (r.slots i).mono hle (List.prefix_refl _)⟩
  · intro x y q h1 h2 h3 hm
    by_cases e : x = l
    · subst e
      obtain rfl := Option.some.inj ((if_pos rfl).symm.trans h2)
      exact Nat.lt_irrefl _ (r.lam_lt hm)
    · exact r.lrw x y q h1 ((if_neg e).symm.trans h2) h3 hm
  · intro i b row h1 h2
    obtain ⟨c, t, a, d, f⟩ := s.lblk i b row h1 h2
    exact ⟨c, t, a, d, fun j v hv => let ⟨V, x, y⟩ := f j v hv; ⟨V, x, y.mono hle⟩⟩
def GuardIs (ops : Array Oper) (o : Oper) (t : Nat → Value) (w : Bool) : Prop :=
  match o.guard with
  | none => w = true
  | some (j, want) => match (ops[j]?).bind (·.dst) with
    | some d => match t d with
      | .bool q => w = (want == q)
      | .complex .f64 _ _ => w = false
      | _ => False
    | none => False
theorem GuardIs.none {ops : Array Oper} {o : Oper} {t : Nat → Value} {w : Bool} (h : GuardIs ops o t w) (hg : o.guard = .none) : w = true := by
  unfold GuardIs at h
  rw [hg] at h
  exact h
theorem guard_is {ops : Array Oper} {o : Oper} {st : St} {k : St → Bool → Prop} (h : vcGuard ops o st k) : ∃ w, GuardIs ops o st.t w ∧ k st w := by
  unfold vcGuard at h
  unfold GuardIs
  split at h
  · rename_i hg; exact ⟨true, by simp [hg], h⟩
  · rename_i j w hg
    split at h
    case h_2 => exact h.elim
    rename_i d hd
    split at h
    · rename_i q hq
      have e : ∀ v, st.t d = v → { st with t := upd st.t d v } = st := fun v hv => by
        have : upd st.t d v = st.t := funext (upd_same hv)
        rw [this]
      rcases bs_cases h with ⟨rfl, h⟩ | ⟨rfl, h⟩
      · rw [e _ hq] at h; exact ⟨w == true, by simp [hg, hd, hq], h⟩
      · rw [e _ hq] at h; exact ⟨w == false, by simp [hg, hd, hq], h⟩
    · rename_i x y hq; exact ⟨false, by simp [hg, hd, hq], h⟩
    · exact h.elim
theorem guard_looks {ops : Array Oper} {o : Oper} {j : Nat} {want : Bool} {d : Nat} (hg : o.guard = some (j, want)) (hd : (ops[j]?).bind (·.dst) = some d) : d ∈ o.looksAt ops := by
  unfold Oper.looksAt; rw [hg]; dsimp only; rw [hd]; simp
theorem GuardIs.wanted {ops : Array Oper} {o : Oper} {t : Nat → Value} {w : Bool} (h : GuardIs ops o t w) {L : Lay} {lam : List Nat} {a : Act} (kn : ∀ d ∈ o.looksAt ops, SlotRel L lam (t d) a.tmps[d]?) : Region.wanted o (yielded ops a.tmps) = w := by
  unfold GuardIs at h
  split at h
  · rename_i hg; subst h; simp [Region.wanted, hg]
  · rename_i j want hg
    split at h
    case h_2 => exact h.elim
    rename_i d hd
    have k := kn d (guard_looks hg hd)
    split at h
    · rename_i q hq
      have e : a.tmps[d]? = some (.bool q) := by
        rcases k with h1 | ⟨X, h1, h2⟩
        · rw [hq] at h1; cases h1
        · rw [hq] at h2; rw [h1, h2.bool]
      simp only [Region.wanted, hg, yielded, hd, Option.bind_some, e]
      subst h
      cases want <;> cases q <;> rfl
    · rename_i x y hq
      have e : a.tmps[d]? = some undef := by
        rcases k with h1 | ⟨X, h1, h2⟩
        · rw [hq] at h1; cases h1
        · rw [hq] at h2; rw [h1]; exact congrArg some h2
      simp only [Region.wanted, hg, yielded, hd, Option.bind_some, e, undef]
      exact h.symm
    · exact h.elim
theorem GuardIs.congr {ops : Array Oper} {o : Oper} {t t' : Nat → Value} {w : Bool} (h : GuardIs ops o t w) (e : ∀ d ∈ o.looksAt ops, t' d = t d) : GuardIs ops o t' w := by
  unfold GuardIs at *
  split at h
  · exact h
  · rename_i j want hg
    split at h
    case h_2 => exact h.elim
    rename_i d hd
    rw [e d (guard_looks hg hd)]; exact h
theorem GuardIs.det {ops : Array Oper} {o : Oper} {t : Nat → Value} {w w' : Bool} (h : GuardIs ops o t w) (h' : GuardIs ops o t w') : w = w' := by
  unfold GuardIs at *
  split at h
  · rename_i hg; rw [hg] at h'; exact h.trans h'.symm
  · rename_i j want hg
    rw [hg] at h'
    dsimp only at h'
    split at h
    case h_2 => exact h.elim
    rename_i d hd
    rw [hd] at h'
    dsimp only at h'
    split at h
    · rename_i hq; rw [hq] at h'; exact h.trans h'.symm
    · rename_i hq; rw [hq] at h'; exact h.trans h'.symm
    · exact h.elim
def blk : Value → Option Nat
  | .pointer (some ⟨l, 0, some 0⟩) => some l
  | .slice (some ⟨l, 0, some _⟩) _ _ => some l
  | _ => none
theorem blk_cases {v : Value} {l : Nat} (h : blk v = some l) : v = .pointer (some ⟨l, 0, some 0⟩) ∨ ∃ z n c, v = .slice (some ⟨l, 0, some z⟩) n c := by
  unfold blk at h
  split at h
  · cases h; exact .inl rfl
  · cases h; exact .inr ⟨_, _, _, rfl⟩
  · cases h
def Owes (P : Program) (nt : Nat) (ops : Array Oper) (n0 : Nat) (x : Stp) (st : St) : Prop :=
  ∃ o w, ops[x.1]? = some o ∧ GuardIs ops o st.t w ∧
    (w = false → ∀ d, o.dst = some d → st.t d = skipV) ∧
    (w = true → ∃ v, (∀ d, o.dst = some d → st.t d = v) ∧
      ((x.2.1 = 0 ∧ PSem P o (only (o.looksAt ops) st.t) v) ∨
       (x.2.1 = 1 ∧ OpSem P nt o ⟨only (o.looksAt ops) st.t, st.S, st.h⟩ v ⟨only (o.looksAt ops) st.t, st.S, st.h⟩) ∨
       (x.2.1 = 2 ∧ ∃ l ob d, o.dst = some d ∧ blk v = some l ∧ NewSem P o (only (o.looksAt ops) st.t) v l ob ∧ st.h.get l = some ob ∧ n0 ≤ l ∧ l < st.h.n)))
structure J (P : Program) (nt : Nat) (ops : Array Oper) (n0 : Nat) (L0 : Lay) (F R : Nat → Prop) (w0 : World) (done owed : List Stp) (st : St) (listed : Array Bool) (L : Lay) (lam : List Nat) (a : Act) (w : World) : Prop where
  own : ∀ x ∈ owed, x ∈ done
  nd : owed.Nodup
  li : ∀ x ∈ done, x ∉ owed → listed.getD x.1 false = true
  il : ∀ i, listed.getD i false = true → ∃ x ∈ done, x ∉ owed ∧ x.1 = i
  sz : listed.size = ops.size
  dc : ∀ z x, listed.getD z false = true → waits ops z x = true → listed.getD x false = true
  ow : ∀ x ∈ owed, Owes P nt ops n0 x st
  gh : ∀ x ∈ owed, x.2.1 = 2 → ∀ d l, dstAt ops x.1 = some d → blk (st.t d) = some l → L l = none
  gd : ∀ x ∈ owed, ∀ y ∈ owed, x.1 ≠ y.1 → x.2.1 = 2 → y.2.1 = 2 → ∀ d d' l, dstAt ops x.1 = some d → dstAt ops y.1 = some d' → blk (st.t d) = some l → blk (st.t d') ≠ some l
  rel : StRel L F R w0 w lam nt ⟨hide ops owed st.t, st.S, st.h⟩ a.tmps
  df : a.defers = []
  base : ∀ l, l < n0 → L l = L0 l
  n : n0 ≤ st.h.n
section
variable {P : Program} {nt : Nat} {ops : Array Oper} {n0 : Nat} {L0 : Lay} {F R : Nat → Prop} {w0 : World} {done owed : List Stp} {st : St} {listed : Array Bool} {L : Lay} {lam : List Nat} {a : Act} {w : World}
theorem hide_no {t : Nat → Value} {i : Nat} (h : ∀ y ∈ owed, dstAt ops y.1 ≠ some i) : hide ops owed t i = t i := by
  unfold hide
  rw [show owed.any (fun x => dstAt ops x.1 == some i) = false from List.any_eq_false.2 fun y hy => by simpa using h y hy]; rfl
theorem hide_yes {t : Nat → Value} {i : Nat} {y : Stp} (hy : y ∈ owed) (h : dstAt ops y.1 = some i) : hide ops owed t i = undef := by
  unfold hide
  rw [show owed.any (fun x => dstAt ops x.1 == some i) = true from List.any_eq_true.2 ⟨y, hy, by simpa using h⟩]; rfl
theorem J.notListed (j : J P nt ops n0 L0 F R w0 done owed st listed L lam a w) (dn : Dn nt ops done) {x : Stp} (hx : x ∈ owed) : ¬ listed.getD x.1 false = true := fun h => by
  obtain ⟨y, hy, hn, e⟩ := j.il _ h
  exact hn (dn.inj y hy x (j.own x hx) e ▸ hx)
theorem J.sees (j : J P nt ops n0 L0 F R w0 done owed st listed L lam a w) (dn : Dn nt ops done) {ls : List Nat} (hls : ∀ y ∈ owed, ∀ d, dstAt ops y.1 = some d → d ∉ ls) : ∀ i, SlotRel L lam (only ls st.t i) a.tmps[i]? := by
  intro i
  unfold only
  cases h : ls.contains i with
  | false => exact .inl rfl
  | true =>
    have hi := List.contains_iff_mem.1 h
    have := j.rel.slots i
    dsimp only at this
    rw [hide_no (fun y hy e => hls y hy i e hi)] at this
    exact this
theorem J.looksFree (j : J P nt ops n0 L0 F R w0 done owed st listed L lam a w) (dn : Dn nt ops done) {x : Stp} (hx : x ∈ done) {o : Oper} (ho : ops[x.1]? = some o) (hp : ∀ z, waits ops x.1 z = true → listed.getD z false = true) :
    ∀ y ∈ owed, ∀ d, dstAt ops y.1 = some d → d ∉ o.looksAt ops := by
  intro y hy d hd hm
  by_cases e : y.1 = x.1
  · obtain ⟨o', h1, _, h3⟩ := dn.ex x hx
    obtain rfl := Option.some.inj (ho.symm.trans h1)
    rw [e, dstAt_eq ho] at hd
    exact h3 d hd hm
  · rcases dn.dat y (j.own y hy) x hx e d hd (by rw [looks_eq ho]; exact hm) with h | ⟨k0, k1, k2, o2, ho2, hgn⟩
    · exact j.notListed dn hy (hp _ h)
    · obtain ⟨o3, w3, ho3, hgi, _, ht⟩ := j.ow y hy
      obtain rfl := Option.some.inj (ho2.symm.trans ho3)
      have hw3 : w3 = true := hgi.none hgn
      obtain ⟨v, _, h | h | h⟩ := ht hw3
      · exact k0 h.1
      · exact k1 h.1
      · exact k2 h.1
theorem getD_set_self {i : Nat} (h : i < listed.size) : (listed.setIfInBounds i true).getD i false = true := by simp [h]
theorem set_listed {i z : Nat} (h : (listed.setIfInBounds i true).getD z false = true) : z = i ∨ listed.getD z false = true := by
  by_cases e : i = z
  · exact .inl e.symm
  · rw [getD_set_ne false e] at h; exact .inr h
theorem J.turn (j : J P nt ops n0 L0 F R w0 done owed st listed L lam a w) (dn : Dn nt ops done) {x : Stp} (hx : x ∈ owed) {o : Oper} (ho : ops[x.1]? = some o) (hp : ∀ z, waits ops x.1 z = true → listed.getD z false = true)
    {L' : Lay} {lam' : List Nat} {W : World} {v V : Value} (hv : v = undef ∨ SVRel L' lam' v V) (hd : ∀ d, o.dst = some d → st.t d = v) (rel : StRel L' F R w0 W lam' nt ⟨hide ops owed st.t, st.S, st.h⟩ a.tmps)
    (hgh : ∀ y ∈ owed, y ≠ x → y.2.1 = 2 → ∀ d l, dstAt ops y.1 = some d → blk (st.t d) = some l → L' l = none) (hb : ∀ l, l < n0 → L' l = L0 l) :
    J P nt ops n0 L0 F R w0 done (owed.erase x) st (listed.setIfInBounds x.1 true) L' lam' (a.put o.dst V) W := by
  have hlt : x.1 < listed.size := by rw [j.sz]; exact (Array.getElem?_eq_some_iff.1 ho).1
  have sub : ∀ y ∈ owed.erase x, y ∈ owed ∧ y ≠ x := fun y hy => ⟨List.mem_of_mem_erase hy, fun e => by subst e; exact (List.Nodup.mem_erase_iff j.nd).1 hy |>.1 rfl⟩
  obtain ⟨o', h1, h2, h3⟩ := dn.ex x (j.own x hx)
  obtain rfl := Option.some.inj (ho.symm.trans h1)
  refine ⟨fun y hy => j.own y (sub y hy).1, j.nd.erase x, ?_, ?_, by simpa using j.sz, ?_, fun y hy => j.ow y (sub y hy).1, fun y hy => hgh y (sub y hy).1 (sub y hy).2, fun y hy z hz => j.gd y (sub y hy).1 z (sub z hz).1, ?_, by rw [put_defers]; exact j.df, hb, j.n⟩
  · intro y hy hn
    by_cases e : y = x
    · subst e; exact getD_set_self hlt
    · exact getD_set_true (j.li y hy fun hm => hn ((List.mem_erase_of_ne e).2 hm))
  · intro i hi
    rcases set_listed hi with rfl | hi
    · exact ⟨x, j.own x hx, fun hm => (sub x hm).2 rfl, rfl⟩
    · obtain ⟨y, hy, hn, e⟩ := j.il i hi
      exact ⟨y, hy, fun hm => hn (sub y hm).1, e⟩
  · intro z y hz hw
    rcases set_listed hz with rfl | hz
    · exact getD_set_true (hp y hw)
    · exact getD_set_true (j.dc z y hz hw)
  · have r := rel.put (dst := o.dst) (dOk_lt h2) hv
    refine StRel.reslot (t1 := putD (hide ops owed st.t) o.dst v) r fun i => ?_
    have hi := r.slots i
    dsimp only at hi
    by_cases hq : ∃ y ∈ owed.erase x, dstAt ops y.1 = some i
    · obtain ⟨y, hy, e⟩ := hq
      rw [hide_yes hy e]; exact .inl rfl
    · have hq' : ∀ y ∈ owed.erase x, dstAt ops y.1 ≠ some i := fun y hy e => hq ⟨y, hy, e⟩
      rw [hide_no hq']
      by_cases e : o.dst = some i
      · rw [hd i e]
        rw [e] at hi
        unfold putD upd at hi
        simp only [beq_self_eq_true, cond_true] at hi
        rw [e]; exact hi
      · have : putD (hide ops owed st.t) o.dst v i = st.t i := by
          have h0 : putD (hide ops owed st.t) o.dst v i = hide ops owed st.t i := by
            cases hdst : o.dst with
            | none => rfl
            | some d =>
              show (bif i == d then v else _) = _
              rw [show (i == d) = false from beq_eq_false_iff_ne.2 fun e' => e (by rw [hdst, e'])]; rfl
          rw [h0, hide_no]
          intro y hy
          by_cases ey : y = x
          · subst ey; rw [dstAt_eq ho]; exact e
          · exact hq' y ((List.mem_erase_of_ne ey).2 hy)
        rw [this] at hi; exact hi
theorem J.late (j : J P nt ops n0 L0 F R w0 done owed st listed L lam a w) (dn : Dn nt ops done) {x : Stp} (hx : x ∈ owed) (hp : ∀ z, waits ops x.1 z = true → listed.getD z false = true) {Q : Exit → Act → World → Prop} {K : Act → World → Prop}
    (hK : ∀ A W L' lam', J P nt ops n0 L0 F R w0 done (owed.erase x) st (listed.setIfInBounds x.1 true) L' lam' A W → K A W) : wpOp P ops Q x.1 K a w := by
  obtain ⟨o, q, ho, hw, hf, ht⟩ := j.ow x hx
  have see := j.sees dn (j.looksFree dn (j.own x hx) ho hp)
  have only_in : ∀ d ∈ o.looksAt ops, only (o.looksAt ops) st.t d = st.t d := fun d hd => by unfold only; rw [List.contains_iff_mem.2 hd]; rfl
  have hw' := hw.wanted (L := L) (lam := lam) (a := a) fun d hd => by rw [← only_in d hd]; exact see d
  unfold wpOp
  simp only [ho, hw']
  cases q with
  | false =>
    simp only [Bool.false_eq_true, if_false]
    exact hK _ _ L lam (j.turn dn hx ho hp (v := skipV) (.inr rfl) (hf rfl) j.rel (fun y hy _ => j.gh y hy) j.base)
  | true =>
    simp only [if_true]
    left
    obtain ⟨v, hd, h⟩ := ht rfl
    rcases h with ⟨_, h⟩ | ⟨_, h⟩ | ⟨hk, l, ob, d, hdst, hbk, ns, hg, hn0, hln⟩
    · obtain ⟨V, hv, hr⟩ := h L lam a ⟨see⟩
      unfold Oper.wp
      rw [hr w, Oper.upon_value]
      exact hK _ _ L lam (j.turn dn hx ho hp hv hd j.rel (fun y hy _ => j.gh y hy) j.base)
    · refine h.2 L F R w0 w lam a (j.rel.reslot see) j.df _ _ fun V W L' lam' hv hext hpre hr => ?_
      have hle := hext.le j.rel.rel.unl
      refine hK _ _ L' lam' (j.turn dn hx ho hp hv hd (hr.reslot fun i => (j.rel.slots i).mono hle hpre) ?_ ?_)
      · intro y hy _ hy2 d l hd hl
        obtain ⟨o2, q2, ho2, _, hf2, ht2⟩ := j.ow y hy
        rw [dstAt_eq ho2] at hd
        cases q2 with
        | false => rw [hf2 rfl d hd] at hl; cases hl
        | true =>
          obtain ⟨v2, hd2, h2⟩ := ht2 rfl
          rcases h2 with ⟨e, _⟩ | ⟨e, _⟩ | ⟨_, l2, _, _, _, hb2, _, _, _, hlt⟩
          · rw [e] at hy2; cases hy2
          · rw [e] at hy2; cases hy2
          · rw [hd2 d hd] at hl
            obtain rfl := Option.some.inj (hb2.symm.trans hl)
            rw [hext.lay l2 hlt]
            exact j.gh y hy hy2 d l2 (by rw [dstAt_eq ho2]; exact hd) (by rw [hd2 d hd]; exact hl)
      · intro l hl
        have hl' : l < st.h.n := Nat.lt_of_lt_of_le hl j.n
        rw [hext.lay l hl']; exact j.base l hl
    · have hL := j.gh x hx hk d l (by rw [dstAt_eq ho]; exact hdst) (by rw [hd d hdst]; exact hbk)
      obtain ⟨hrw, hrl, ns⟩ := ns
      obtain ⟨cs, ty, V, hcell, hval, hrun⟩ := ns L lam a ⟨see⟩
      have born := j.rel.born (l := l) (cs := cs) ty hg hL hln hrw hrl hcell
      unfold Oper.wp
      rw [hrun w, Oper.upon_value]
      refine hK _ _ _ lam (j.turn dn hx ho hp (.inr (.of ?_)) hd born ?_ ?_)
      · exact hval _ _ (by rw [← hrw]; exact if_pos rfl)
      · intro y hy hne hy2 d' l' hd' hl'
        have ne : l' ≠ l := fun e => by
          subst e
          exact j.gd x hx y hy (fun e => hne (dn.inj y (j.own y hy) x (j.own x hx) e.symm)) hk hy2 d d' l' (by rw [dstAt_eq ho]; exact hdst) hd' (by rw [hd d hdst]; exact hbk) hl'
        show (if l' = l then _ else L l') = none
        rw [if_neg ne]; exact j.gh y hy hy2 d' l' hd' hl'
      · intro x' hx'
        show (if x' = l then _ else L x') = _
        rw [if_neg (by omega)]; exact j.base x' hx'
end
end Go.Abs
namespace Go.Abs
section
variable {P : Program} {nt : Nat} {ops : Array Oper} {E : Tmp → Bool} {n0 : Nat} {L0 : Lay} {F R : Nat → Prop} {w0 : World} {done owed : List Stp} {st : St} {listed : Array Bool} {L : Lay} {lam : List Nat} {a : Act} {w : World}
theorem only_in {ls : List Nat} {t : Nat → Value} {i : Nat} (h : i ∈ ls) : only ls t i = t i := by unfold only; rw [List.contains_iff_mem.2 h]; rfl
theorem ev_only {o : Oper} {t : Nat → Value} : ∀ x ∈ o.op.operands, ev (only (o.looksAt ops) t) x = ev t x := by
  intro x hx
  cases x with
  | tmp i =>
    show only _ t i = t i
    refine only_in (List.mem_append_left _ (List.mem_filterMap.2 ⟨.tmp i, by simpa using hx, rfl⟩))
  | _ => rfl
theorem pureNow_only {o : Oper} {t : Nat → Value} : pureNow o (only (o.looksAt ops) t) = pureNow o t := by
  have h := ev_only (ops := ops) (o := o) (t := t)
  unfold pureNow
  split <;> try rfl
  rename_i x ho
  rw [h x (by rw [ho]; simp [Op.operands])]
theorem readNow_only {o : Oper} {t : Nat → Value} : readNow o (only (o.looksAt ops) t) = readNow o t := by
  have h := ev_only (ops := ops) (o := o) (t := t)
  unfold readNow
  split <;> try rfl
  rename_i x ho
  rw [h x (by rw [ho]; simp [Op.operands])]
theorem putD_ne {t : Nat → Value} {dst : Option Tmp} {v : Value} {i : Nat} (h : dst ≠ some i) : putD t dst v i = t i := by
  cases dst with
  | none => rfl
  | some d =>
    show (bif i == d then v else t i) = _
    rw [show (i == d) = false from beq_eq_false_iff_ne.2 fun e => h (by rw [e])]; rfl
theorem putD_eq {t : Nat → Value} {v : Value} {d : Nat} : putD t (some d) v d = v := by
  show (bif d == d then v else t d) = _
  rw [beq_self_eq_true]; rfl
theorem Owes.next {x : Stp} (h : Owes P nt ops n0 x st) {dst : Option Tmp} {v : Value} {S' : List (List Value)} {h' : AHeap} (hl : ∀ d, dst = some d → d ∉ looks ops x.1) (hd : ∀ d, dst = some d → dstAt ops x.1 ≠ some d)
    (hre : (x.2.1 = 1 ∨ x.2.1 = 2) → (S' = st.S ∧ h' = st.h) ∨ reOk P E ops x st ⟨putD st.t dst v, S', h'⟩) : Owes P nt ops n0 x ⟨putD st.t dst v, S', h'⟩ := by
  obtain ⟨o, q, ho, hw, hf, ht⟩ := h
  have agree : ∀ i ∈ o.looksAt ops, putD st.t dst v i = st.t i := fun i hi => putD_ne fun e => hl i e (by rw [looks_eq ho]; exact hi)
  have dval : ∀ d, o.dst = some d → putD st.t dst v d = st.t d := fun d e => putD_ne fun e' => hd d e' (by rw [dstAt_eq ho]; exact e)
  have only_eq : only (o.looksAt ops) (putD st.t dst v) = only (o.looksAt ops) st.t := funext fun i => by
    by_cases hi : i ∈ o.looksAt ops
    · rw [only_in hi, only_in hi]; exact agree i hi
    · unfold only; rw [show (o.looksAt ops).contains i = false from by simpa using hi]; rfl
  refine ⟨o, q, ho, hw.congr agree, fun e d e' => (dval d e').trans (hf e d e'), fun e => ?_⟩
  obtain ⟨u, hu, hk⟩ := ht e
  rcases hk with ⟨k, h0⟩ | ⟨k, h1⟩ | ⟨k, l, ob, d, hdst, hbk, ns, hg, hn0, hln⟩
  · exact ⟨u, fun d e' => (dval d e').trans (hu d e'), .inl ⟨k, by dsimp only; rw [only_eq]; exact h0⟩⟩
  · rcases hre (.inl k) with ⟨rfl, rfl⟩ | hr
    · exact ⟨u, fun d e' => (dval d e').trans (hu d e'), .inr (.inl ⟨k, by dsimp only; rw [only_eq]; exact h1⟩)⟩
    · unfold reOk at hr
      rw [ho] at hr
      dsimp only at hr
      obtain ⟨w', g', hr⟩ := guard_is hr
      obtain rfl : w' = true := (g'.det (hw.congr agree)).trans e
      rw [k] at hr
      dsimp only at hr
      obtain ⟨hrd, hr⟩ := bs_false hr
      have hr' := vcOp_congr (t' := only (o.looksAt ops) (putD st.t dst v)) ev_only (C := fun u _ _ => match o.dst with | some d => u = putD st.t dst v d | none => True) hr
      obtain ⟨u2, e3, sem⟩ := read_sound (nt := nt) (st := ⟨only (o.looksAt ops) (putD st.t dst v), S', h'⟩) (readNow_only.trans hrd) hr'
      refine ⟨u2, fun d e' => ?_, .inr (.inl ⟨k, sem⟩)⟩
      rw [e'] at e3; exact e3.symm
  · refine ⟨_, fun d e' => (dval d e').trans (hu d e'), .inr (.inr ⟨k, l, ob, d, hdst, hbk, by dsimp only; rw [only_eq]; exact ns, ?_⟩)⟩
    rcases hre (.inr k) with ⟨rfl, rfl⟩ | hr
    · exact ⟨hg, hn0, hln⟩
    · unfold reOk at hr
      rw [ho] at hr
      dsimp only at hr
      obtain ⟨w', g', hr⟩ := guard_is hr
      obtain rfl : w' = true := (g'.det (hw.congr agree)).trans e
      rw [k, hdst] at hr
      dsimp only at hr
      rw [dval d hdst, hu d hdst] at hr
      rcases blk_cases hbk with rfl | ⟨z, n, c, rfl⟩
      · exact ⟨hr.1.trans hg, hn0, Nat.lt_of_lt_of_le hln hr.2⟩
      · exact ⟨hr.1.trans hg, hn0, Nat.lt_of_lt_of_le hln hr.2⟩
theorem J.ghost_lt (j : J P nt ops n0 L0 F R w0 done owed st listed L lam a w) {y : Stp} (hy : y ∈ owed) (hk : y.2.1 = 2) {d l : Nat} (hd : dstAt ops y.1 = some d) (hl : blk (st.t d) = some l) : l < st.h.n := by
  obtain ⟨o2, q2, ho2, _, hf2, ht2⟩ := j.ow y hy
  rw [dstAt_eq ho2] at hd
  cases q2 with
  | false => rw [hf2 rfl d hd] at hl; cases hl
  | true =>
    obtain ⟨v2, hd2, h2⟩ := ht2 rfl
    rcases h2 with ⟨e, _⟩ | ⟨e, _⟩ | ⟨_, l2, _, _, _, hb2, _, _, _, hlt⟩
    · rw [e] at hk; cases hk
    · rw [e] at hk; cases hk
    · rw [hd2 d hd] at hl
      obtain rfl := Option.some.inj (hb2.symm.trans hl)
      exact hlt
theorem J.push (j : J P nt ops n0 L0 F R w0 done owed st listed L lam a w) {s : Stp} {rest : List Stp} {o : Oper} (c : Chk1 nt ops done s rest o) {v : Value} {h' : AHeap} (hh : h' = st.h ∨ ∃ ob, h' = st.h.push ob)
    (hs : Owes P nt ops n0 s ⟨putD st.t o.dst v, st.S, h'⟩) (hx : ∀ x ∈ owed, Owes P nt ops n0 x ⟨putD st.t o.dst v, st.S, h'⟩)
    (hg : s.2.1 = 2 → ∀ l, blk v = some l → l = st.h.n) : J P nt ops n0 L0 F R w0 (s :: done) (s :: owed) ⟨putD st.t o.dst v, st.S, h'⟩ listed L lam a w := by
  have sno : s ∉ owed := fun hm => c.new s (j.own s hm) rfl
  have tv : ∀ y ∈ owed, ∀ d, dstAt ops y.1 = some d → putD st.t o.dst v d = st.t d := fun y hy d hd => putD_ne fun e => (c.dst d e y (j.own y hy)).2 hd
  have sv : ∀ d, dstAt ops s.1 = some d → putD st.t o.dst v d = v := fun d hd => by rw [dstAt_eq c.at'] at hd; rw [hd]; exact putD_eq
  have rel' : StRel L F R w0 w lam nt ⟨hide ops owed st.t, st.S, h'⟩ a.tmps := by
    rcases hh with rfl | ⟨ob, rfl⟩
    · exact j.rel
    · exact j.rel.ghost ob
  refine ⟨?_, List.nodup_cons.2 ⟨sno, j.nd⟩, ?_, ?_, j.sz, j.dc, ?_, ?_, ?_, rel'.reslot fun i => ?_, j.df, j.base, ?_⟩
  · intro x hx
    rcases List.mem_cons.1 hx with rfl | hx
    · exact List.mem_cons_self
    · exact List.mem_cons_of_mem _ (j.own x hx)
  · intro x hx hn
    rcases List.mem_cons.1 hx with rfl | hx
    · exact absurd List.mem_cons_self hn
    · exact j.li x hx fun hm => hn (List.mem_cons_of_mem _ hm)
  · intro i hi
    obtain ⟨x, hx, hn, e⟩ := j.il i hi
    refine ⟨x, List.mem_cons_of_mem _ hx, fun hm => ?_, e⟩
    rcases List.mem_cons.1 hm with rfl | hm
    · exact c.new x hx rfl
    · exact hn hm
  · intro x hm
    rcases List.mem_cons.1 hm with rfl | hm
    · exact hs
    · exact hx x hm
  · intro y hy hk d l hd hl
    rcases List.mem_cons.1 hy with rfl | hy
    · dsimp only at hl
      rw [sv d hd] at hl
      have e := hg hk l hl
      rw [e]; exact j.rel.rel.unl _ (Nat.le_refl _)
    · dsimp only at hl
      rw [tv y hy d hd] at hl
      exact j.gh y hy hk d l hd hl
  · intro x hx1 y hy1 ne hk hk' d d' l hd hd' hl hl'
    dsimp only at hl hl'
    rcases List.mem_cons.1 hx1 with ex | hx2
    · rcases List.mem_cons.1 hy1 with ey | hy2
      · rw [ex, ey] at ne; exact ne rfl
      · rw [ex] at hk hd
        rw [sv d hd] at hl
        rw [tv y hy2 d' hd'] at hl'
        have := j.ghost_lt hy2 hk' hd' hl'
        rw [hg hk l hl] at this
        exact Nat.lt_irrefl _ this
    · rcases List.mem_cons.1 hy1 with ey | hy2
      · rw [ey] at hk' hd'
        rw [sv d' hd'] at hl'
        rw [tv x hx2 d hd] at hl
        have := j.ghost_lt hx2 hk hd hl
        rw [hg hk' l hl'] at this
        exact Nat.lt_irrefl _ this
      · rw [tv x hx2 d hd] at hl
        rw [tv y hy2 d' hd'] at hl'
        exact j.gd x hx2 y hy2 ne hk hk' d d' l hd hd' hl hl'
  · by_cases hq : ∃ y ∈ s :: owed, dstAt ops y.1 = some i
    · obtain ⟨y, hy, e⟩ := hq
      rw [hide_yes hy e]; exact .inl rfl
    · have hq' : ∀ y ∈ s :: owed, dstAt ops y.1 ≠ some i := fun y hy e => hq ⟨y, hy, e⟩
      rw [hide_no hq']
      show SlotRel L lam (putD st.t o.dst v i) _
      rw [putD_ne (by rw [← dstAt_eq c.at']; exact hq' s List.mem_cons_self)]
      have := j.rel.slots i
      dsimp only at this
      rw [hide_no fun y hy => hq' y (List.mem_cons_of_mem _ hy)] at this
      exact this
  · rcases hh with rfl | ⟨ob, rfl⟩
    · exact j.n
    · exact Nat.le_succ_of_le j.n
theorem J.after (j : J P nt ops n0 L0 F R w0 done owed st listed L lam a w) {s : Stp} {rest : List Stp} {o : Oper} (c : Chk1 nt ops done s rest o) (hp : ∀ z, waits ops s.1 z = true → listed.getD z false = true)
    {L' : Lay} {lam' : List Nat} {W : World} {v V : Value} {tt : Nat → Value} {S' : List (List Value)} {h' : AHeap} (hv : v = undef ∨ SVRel L' lam' v V) (hext : Ext L st.h L' h') (hpre : lam <+: lam') (hr : StRel L' F R w0 W lam' nt ⟨tt, S', h'⟩ a.tmps)
    (hx : ∀ x ∈ owed, Owes P nt ops n0 x ⟨putD st.t o.dst v, S', h'⟩) : J P nt ops n0 L0 F R w0 (s :: done) owed ⟨putD st.t o.dst v, S', h'⟩ (listed.setIfInBounds s.1 true) L' lam' (a.put o.dst V) W := by
  have hlt : s.1 < listed.size := by rw [j.sz]; exact (Array.getElem?_eq_some_iff.1 c.at').1
  have sno : s ∉ owed := fun hm => c.new s (j.own s hm) rfl
  have hle := hext.le j.rel.rel.unl
  have tv : ∀ y ∈ owed, ∀ d, dstAt ops y.1 = some d → putD st.t o.dst v d = st.t d := fun y hy d hd => putD_ne fun e => (c.dst d e y (j.own y hy)).2 hd
  refine ⟨fun x hx => List.mem_cons_of_mem _ (j.own x hx), j.nd, ?_, ?_, by simpa using j.sz, ?_, hx, ?_, ?_, ?_, by rw [put_defers]; exact j.df, ?_, Nat.le_trans j.n hext.n⟩
  · intro x hx hn
    rcases List.mem_cons.1 hx with rfl | hx
    · exact getD_set_self hlt
    · exact getD_set_true (j.li x hx hn)
  · intro i hi
    rcases set_listed hi with rfl | hi
    · exact ⟨s, List.mem_cons_self, sno, rfl⟩
    · obtain ⟨x, hx, hn, e⟩ := j.il i hi
      exact ⟨x, List.mem_cons_of_mem _ hx, hn, e⟩
  · intro z y hz hw
    rcases set_listed hz with rfl | hz
    · exact getD_set_true (hp y hw)
    · exact getD_set_true (j.dc z y hz hw)
  · intro y hy hk d l hd hl
    dsimp only at hl
    rw [tv y hy d hd] at hl
    rw [hext.lay l (j.ghost_lt hy hk hd hl)]
    exact j.gh y hy hk d l hd hl
  · intro x hx y hy ne hk hk' d d' l hd hd' hl hl'
    dsimp only at hl hl'
    rw [tv x hx d hd] at hl
    rw [tv y hy d' hd'] at hl'
    exact j.gd x hx y hy ne hk hk' d d' l hd hd' hl hl'
  · have r1 : StRel L' F R w0 W lam' nt ⟨hide ops owed st.t, S', h'⟩ a.tmps := hr.reslot fun i => (j.rel.slots i).mono hle hpre
    have r2 := r1.put (dst := o.dst) (dOk_lt c.d) hv
    refine StRel.reslot (t1 := putD (hide ops owed st.t) o.dst v) r2 fun i => ?_
    have hi := r2.slots i
    dsimp only at hi
    by_cases hq : ∃ y ∈ owed, dstAt ops y.1 = some i
    · obtain ⟨y, hy, e⟩ := hq
      rw [hide_yes hy e]; exact .inl rfl
    · have hq' : ∀ y ∈ owed, dstAt ops y.1 ≠ some i := fun y hy e => hq ⟨y, hy, e⟩
      rw [hide_no hq']
      show SlotRel L' lam' (putD st.t o.dst v i) _
      by_cases e : o.dst = some i
      · rw [e] at hi ⊢
        rw [putD_eq] at hi ⊢; exact hi
      · rw [putD_ne e] at hi ⊢
        rw [hide_no hq'] at hi; exact hi
  · intro l hl
    rw [hext.lay l (Nat.lt_of_lt_of_le hl j.n)]; exact j.base l hl
theorem J.someReady (j : J P nt ops n0 L0 F R w0 done owed st listed L lam a w) : ∀ (d : List Stp), Ord ops d → (∀ x ∈ d, x ∈ done) → (∃ x ∈ owed, x ∈ d) → ∃ x ∈ owed, ∀ z, waits ops x.1 z = true → listed.getD z false = true
  | [], _, _, ⟨_, _, h⟩ => by cases h
  | s :: d, ho, hd, h => by
    by_cases e : ∃ x ∈ owed, x ∈ d
    · exact j.someReady d ho.2 (fun x hx => hd x (List.mem_cons_of_mem _ hx)) e
    · obtain ⟨x, hx, hm⟩ := h
      rcases List.mem_cons.1 hm with rfl | hm
      · refine ⟨x, hx, fun z hz => ?_⟩
        obtain ⟨y, hy, rfl⟩ := ho.1 z hz
        exact j.li y (hd y (List.mem_cons_of_mem _ hy)) fun hm => e ⟨y, hm, hy⟩
      · exact absurd ⟨x, hx, hm⟩ e
theorem ready_iff {i : Nat} (hs : listed.size = ops.size) : i ∈ Region.ready .any ops listed ↔ i < ops.size ∧ ¬ listed.getD i false = true ∧ ∀ z, waits ops i z = true → listed.getD z false = true := by
  rw [mem_ready]
  constructor
  · rintro ⟨h1, o, ho, h⟩
    have hlt := (Array.getElem?_eq_some_iff.1 ho).1
    refine ⟨hlt, fun h2 => ?_, fun z hz => ?_⟩
    · have hlt' : i < listed.size := by rw [hs]; exact hlt
      simp [hlt'] at h1 h2; rw [h1] at h2; cases h2
    · obtain ⟨o', ho', e, he, hb, rfl⟩ := waits_iff.1 hz
      obtain rfl := Option.some.inj (ho.symm.trans ho')
      exact h e he hb
  · rintro ⟨hlt, h1, h2⟩
    have hlt' : i < listed.size := by rw [hs]; exact hlt
    refine ⟨?_, ops[i], Array.getElem?_eq_getElem hlt, fun e he hb => h2 e.on (waits_iff.2 ⟨_, Array.getElem?_eq_getElem hlt, e, he, hb, rfl⟩)⟩
    simp [hlt'] at h1 ⊢; exact h1
theorem chk_all : ∀ (l done : List Stp), chk nt ops done l = true → ∀ i, i < ops.size → (∃ x ∈ done, x.1 = i) ∨ ∃ x ∈ l, x.1 = i
  | [], done, h, i, hi => by
    unfold chk at h
    simp only [Bool.and_eq_true] at h
    have := List.all_eq_true.1 h.2 i (List.mem_range.2 hi)
    obtain ⟨x, hx, e⟩ := List.any_eq_true.1 this
    exact .inl ⟨x, hx, by simpa using e⟩
  | s :: l, done, h, i, hi => by
    unfold chk at h
    simp only [Bool.and_eq_true] at h
    rcases chk_all l (s :: done) h.2 i hi with ⟨x, hx, e⟩ | ⟨x, hx, e⟩
    · rcases List.mem_cons.1 hx with rfl | hx
      · exact .inr ⟨x, List.mem_cons_self, e⟩
      · exact .inl ⟨x, hx, e⟩
    · exact .inr ⟨x, List.mem_cons_of_mem _ hx, e⟩
theorem chk_len : ∀ (l done : List Stp), chk nt ops done l = true → done.length + l.length = ops.size
  | [], done, h => by
    unfold chk at h
    simp only [Bool.and_eq_true, beq_iff_eq] at h
    simpa using h.1
  | s :: l, done, h => by
    unfold chk at h
    simp only [Bool.and_eq_true] at h
    have := chk_len l (s :: done) h.2
    simp only [List.length_cons] at this ⊢; omega
end
end Go.Abs
namespace Go.Abs
section
variable {P : Program} {nt : Nat} {ops : Array Oper} {E : Tmp → Bool}
def Good (P : Program) (nt : Nat) (ops : Array Oper) (done l : List Stp) (st stf : St) : Prop :=
  ∀ (n0 : Nat) (L0 : Lay) (F R : Nat → Prop) (w0 : World) (m : Nat) (owed : List Stp) (listed : Array Bool) (L : Lay) (lam : List Nat) (a : Act) (w : World), owed.length = m → J P nt ops n0 L0 F R w0 done owed st listed L lam a w →
    ∀ (Q : Exit → Act → World → Prop), (∀ A W L' lam', A.defers = [] → (∀ l, l < n0 → L' l = L0 l) → n0 ≤ stf.h.n → StRel L' F R w0 W lam' nt stf A.tmps → Q .normal A W) → wpAny P .any ops Q (m + l.length) listed a w
theorem reAll_mem {st st' : St} {K : Prop} : ∀ {l : List Stp}, reAll P E ops st st' K l → K ∧ ∀ x ∈ l, reOk P E ops x st st'
  | [], h => ⟨h, fun x hx => by cases hx⟩
  | y :: l, h => ⟨(reAll_mem h.2).1, fun x hx => by
    rcases List.mem_cons.1 hx with rfl | hx
    · exact h.1
    · exact (reAll_mem h.2).2 x hx⟩
theorem kindOk_two {o : Oper} {t : Nat → Value} (h : kindOk E 2 o t = true) : (∃ ty d, o.op = .alloc ty ∧ o.dst = some d ∧ E d = true) ∨ (∃ ty n ps d, o.op = .buildSlice ty n ps ∧ o.dst = some d) ∨ ∃ ty x y d, o.op = .makeSlice ty x y ∧ o.dst = some d := by
  have h' : (match o.op, o.dst with
    | .alloc _, some d => E d
    | .buildSlice _ _ _, some _ => true
    | .makeSlice _ _ _, some _ => true
    | _, _ => false) = true := h
  split at h'
  · rename_i ty d h1 h2; exact .inl ⟨ty, d, h1, h2, h'⟩
  · rename_i ty n ps d h1 h2; exact .inr (.inl ⟨ty, n, ps, d, h1, h2⟩)
  · rename_i ty x y d h1 h2; exact .inr (.inr ⟨ty, x, y, d, h1, h2⟩)
  · cases h'
theorem alloc_sem {o : Oper} {t : Nat → Value} {ty : TypeId} {z : Value} {l : Nat} (hop : o.op = .alloc ty) (hz : zeroOf P ty = some z) (hpl : plain z = true) : NewSem P o t (.pointer (some ⟨l, 0, some 0⟩)) l ⟨[cellsL z], (cellsL z).length, true⟩ := by
  refine ⟨rfl, fun i row hi => by cases i <;> simp at hi; subst hi; rfl, fun L lam a _ => ?_⟩
  have cr := cells_rel (VRel.plain (L := L) hpl) (plain_nj hpl)
  have hl : LRel L (cellsL z) z.cells := .of cr.1 cr.2
  refine ⟨z.cells, ty, fun b => .pointer (some ⟨b, 0, none⟩), fun i row hi k v hv => ?_, fun L' b hb => ?_, fun w => ?_⟩
  · cases i with
    | zero => simp at hi; subst hi; simpa using hl.2 k v hv
    | succ i => simp at hi
  · have := VRel.ptr (L := L') (l := l) (r := 0) (c := 0) (s := ⟨b, 0, (cellsL z).length, z.cells.size, true⟩) hb
    simpa using this
  · unfold execOp; rw [hop]; simp [Instr.alloc, zero_run hz, newVar, run_newRow']
theorem sched_sound : ∀ (l done : List Stp) (st : St) (K : St → Prop), chk nt ops done l = true → Dn nt ops done → Ord ops done → vcSched P E ops done l st K → ∃ stf, K stf ∧ Good P nt ops done l st stf
  | [], done, st, K, hc, dn, od, h => by
    refine ⟨st, h, fun n0 L0 F R w0 m => ?_⟩
    have all : ∀ i, i < ops.size → ∃ x ∈ done, x.1 = i := fun i hi => by
      rcases chk_all (nt := nt) [] done hc i hi with h | ⟨x, hx, _⟩
      · exact h
      · cases hx
    induction m with
    | zero =>
      intro owed listed L lam a w hm j Q hQ
      obtain rfl := List.eq_nil_of_length_eq_zero hm
      refine ⟨?_, hQ a w L lam j.df j.base j.n (j.rel.reslot fun i => by
        have := j.rel.slots i
        dsimp only at this
        rw [hide_no (fun y hy => by cases hy)] at this; exact this)⟩
      apply List.eq_nil_iff_forall_not_mem.2
      intro i hi
      obtain ⟨h1, h2, _⟩ := (ready_iff j.sz).1 hi
      obtain ⟨x, hx, rfl⟩ := all i h1
      exact h2 (j.li x hx (by simp))
    | succ m ih =>
      intro owed listed L lam a w hm j Q hQ
      obtain ⟨x, hx, hp⟩ := j.someReady done od (fun x hx => hx) (by
        cases owed with
        | nil => cases hm
        | cons x l => exact ⟨x, List.mem_cons_self, j.own x List.mem_cons_self⟩)
      refine ⟨fun h0 => ?_, fun i hi => ?_⟩
      · obtain ⟨o, ho, _⟩ := dn.ex x (j.own x hx)
        have : x.1 ∈ Region.ready .any ops listed := (ready_iff j.sz).2 ⟨(Array.getElem?_eq_some_iff.1 ho).1, j.notListed dn hx, hp⟩
        rw [h0] at this; cases this
      · obtain ⟨h1, h2, h3⟩ := (ready_iff j.sz).1 hi
        obtain ⟨y, hy, rfl⟩ := all i h1
        have hyo : y ∈ owed := Classical.byContradiction fun hn => h2 (j.li y hy hn)
        refine j.late dn hyo h3 fun A W L' lam' j' => ?_
        exact ih _ _ L' lam' A W (by rw [List.length_erase_of_mem hyo, hm]; rfl) j' Q hQ
  | s :: l, done, st, K, hc, dn, od, h => by
    have hcc := hc
    unfold chk at hc
    simp only [Bool.and_eq_true] at hc
    obtain ⟨o, c⟩ := chk1_spec hc.1
    have dn' := dn.cons c
    have od' : Ord ops (s :: done) := ⟨c.pre, od⟩
    unfold vcSched at h
    rw [c.at'] at h
    dsimp only at h
    obtain ⟨q, gi, h⟩ := guard_is h
    have lk : (s.2.1 = 0 ∨ s.2.1 = 1 ∨ s.2.1 = 2 ∨ o.guard ≠ none) → ∀ x ∈ done, ∀ d, o.dst = some d → d ∉ looks ops x.1 := fun hk x hx d hd => (c.dst d hd x hx).1.resolve_right fun h => by
      rcases hk with e | e | e | e
      · exact h.1 e
      · exact h.2.1 e
      · exact h.2.2.1 e
      · exact e h.2.2.2.1
    have lkw : ∀ x ∈ done, waits ops s.1 x.1 = false → ∀ d, o.dst = some d → d ∉ looks ops x.1 := fun x hx hw d hd => (c.dst d hd x hx).1.resolve_right fun h => by rw [hw] at h; cases h.2.2.2.2
    have ld : ∀ x ∈ done, ∀ d, o.dst = some d → dstAt ops x.1 ≠ some d := fun x hx d hd => (c.dst d hd x hx).2
    have only_new : ∀ (v : Value), only (o.looksAt ops) (putD st.t o.dst v) = only (o.looksAt ops) st.t := fun v => funext fun i => by
      by_cases hi : i ∈ o.looksAt ops
      · rw [only_in hi, only_in hi]; exact putD_ne fun e => c.self i e hi
      · unfold only; rw [show (o.looksAt ops).contains i = false from by simpa using hi]; rfl
    have gi' : ∀ v, GuardIs ops o (putD st.t o.dst v) q := fun v => gi.congr fun i hi => putD_ne fun e => c.self i e hi
    -- a step whose turn may come later
    have float : ∀ (v : Value) (h' : AHeap), (h' = st.h ∨ ∃ ob, h' = st.h.push ob) → (∀ n0, n0 ≤ st.h.n → Owes P nt ops n0 s ⟨putD st.t o.dst v, st.S, h'⟩) →
        (∀ n0, ∀ x ∈ done, Owes P nt ops n0 x st → Owes P nt ops n0 x ⟨putD st.t o.dst v, st.S, h'⟩) → (s.2.1 = 2 → ∀ l, blk v = some l → l = st.h.n) →
        vcSched P E ops (s :: done) l ⟨putD st.t o.dst v, st.S, h'⟩ K → ∃ stf, K stf ∧ Good P nt ops done (s :: l) st stf := by
      intro v h' hh hs hx hg hv
      obtain ⟨stf, hK, good⟩ := sched_sound l (s :: done) _ K hc.2 dn' od' hv
      refine ⟨stf, hK, fun n0 L0 F R w0 m owed listed L lam a w hm j Q hQ => ?_⟩
      have := good n0 L0 F R w0 (m + 1) (s :: owed) listed L lam a w (by simp [hm]) (j.push c hh (hs n0 j.n) (fun x hxo => hx n0 x (j.own x hxo) (j.ow x hxo)) hg) Q hQ
      rw [show m + (s :: l).length = m + 1 + l.length by simp; omega]
      exact this
    cases q with
    | false =>
      refine float skipV st.h (.inl rfl) (fun n0 _ => ⟨o, false, c.at', gi' _, fun _ d hd => by show putD _ _ _ d = _; rw [hd]; exact putD_eq, fun e => by cases e⟩)
        (fun n0 x hx ho => ho.next (E := E) (lk (.inr (.inr (.inr fun hgn => by cases gi.none hgn))) x hx) (ld x hx) fun _ => .inl ⟨rfl, rfl⟩) (fun _ l e => by cases e) h
    | true =>
      obtain ⟨hk, h⟩ := bs_false h
      have h1 := vcOp_congr (t' := only (o.looksAt ops) st.t) ev_only (C := fun v S h => reAll P E ops st ⟨putD st.t o.dst v, S, h⟩ (vcSched P E ops (s :: done) l ⟨putD st.t o.dst v, S, h⟩ K) (done.filter fun x => s.2.2.contains x.1)) h
      have dv : ∀ (v : Value) (d : Nat), o.dst = some d → putD st.t o.dst v d = v := fun v d hd => by rw [hd]; exact putD_eq
      by_cases k0 : s.2.1 = 0
      · rw [k0] at hk
        have hp : pureNow o (only (o.looksAt ops) st.t) = true := pureNow_only.trans hk
        obtain ⟨v, hv, sem⟩ := pure_sound (st := ⟨only (o.looksAt ops) st.t, st.S, st.h⟩) hp h1
        have hv := (reAll_mem hv).1
        refine float v st.h (.inl rfl) (fun n0 _ => ⟨o, true, c.at', gi' _, fun e => (by cases e), fun _ => ⟨v, dv v, .inl ⟨k0, ?_⟩⟩⟩)
          (fun n0 x hx ho => ho.next (E := E) (lk (.inl k0) x hx) (ld x hx) fun _ => .inl ⟨rfl, rfl⟩) (fun e => by rw [k0] at e; cases e) hv
        dsimp only; rw [only_new]; exact sem
      by_cases k1 : s.2.1 = 1
      · rw [k1] at hk
        have hp : readNow o (only (o.looksAt ops) st.t) = true := readNow_only.trans hk
        obtain ⟨v, hv, sem⟩ := read_sound (nt := nt) (st := ⟨only (o.looksAt ops) st.t, st.S, st.h⟩) hp h1
        have hv := (reAll_mem hv).1
        refine float v st.h (.inl rfl) (fun n0 _ => ⟨o, true, c.at', gi' _, fun e => (by cases e), fun _ => ⟨v, dv v, .inr (.inl ⟨k1, ?_⟩)⟩⟩)
          (fun n0 x hx ho => ho.next (E := E) (lk (.inr (.inl k1)) x hx) (ld x hx) fun _ => .inl ⟨rfl, rfl⟩) (fun e => by rw [k1] at e; cases e) hv
        dsimp only; rw [only_new]; exact sem
      by_cases k2 : s.2.1 = 2
      · rw [k2] at hk
        rcases kindOk_two hk with ⟨t, d, hop, hdst, hk⟩ | ⟨t, n, ps, d, hop, hdst⟩ | ⟨t, x, y, d, hop, hdst⟩
        rotate_left
        · unfold vcOp at h1
          rw [hop] at h1
          dsimp only at h1
          obtain ⟨rows, z, n', c', hv, ns⟩ := buildSlice_new (st := ⟨only (o.looksAt ops) st.t, st.S, st.h⟩) hop (by rw [Array.toList_map]; exact h1)
          obtain ⟨hv, hre⟩ := reAll_mem hv
          refine float _ _ (.inr ⟨_, rfl⟩) (fun n0 hn0 => ⟨o, true, c.at', gi' _, fun e => (by cases e), fun _ => ⟨_, dv _, .inr (.inr ⟨k2, st.h.n, _, d, hdst, rfl, by dsimp only; rw [only_new]; exact ns, AHeap.get_push_eq, hn0, Nat.lt_succ_self _⟩)⟩⟩)
            (fun n0 x hx ho => ho.next (E := E) (lk (.inr (.inr (.inl k2))) x hx) (ld x hx) fun hk => .inr (hre x (List.mem_filter.2 ⟨hx, c.two k2 x hx hk⟩))) (fun _ l e => (Option.some.inj e).symm) hv
        · unfold vcOp at h1
          rw [hop] at h1
          dsimp only at h1
          obtain ⟨rows, z, n', c', hv, ns⟩ := make_new (st := ⟨only (o.looksAt ops) st.t, st.S, st.h⟩) hop h1
          obtain ⟨hv, hre⟩ := reAll_mem hv
          refine float _ _ (.inr ⟨_, rfl⟩) (fun n0 hn0 => ⟨o, true, c.at', gi' _, fun e => (by cases e), fun _ => ⟨_, dv _, .inr (.inr ⟨k2, st.h.n, _, d, hdst, rfl, by dsimp only; rw [only_new]; exact ns, AHeap.get_push_eq, hn0, Nat.lt_succ_self _⟩)⟩⟩)
            (fun n0 x hx ho => ho.next (E := E) (lk (.inr (.inr (.inl k2))) x hx) (ld x hx) fun hk => .inr (hre x (List.mem_filter.2 ⟨hx, c.two k2 x hx hk⟩))) (fun _ l e => (Option.some.inj e).symm) hv
        unfold vcOp at h
        rw [hop] at h
        dsimp only at h
        rw [hdst] at h
        dsimp only at h
        rw [hk] at h
        unfold vcAlloc at h
        cases hz : zeroOf P t with
        | none => rw [hz] at h; exact h.elim
        | some z =>
          rw [hz] at h
          obtain ⟨hpl, h⟩ := bs_false h
          unfold vcNew at h
          dsimp only at h
          obtain ⟨hv, hre⟩ := reAll_mem h
          rw [← hdst] at hre hv
          refine float _ _ (.inr ⟨_, rfl⟩) (fun n0 hn0 => ⟨o, true, c.at', gi' _, fun e => (by cases e), fun _ => ⟨_, dv _, .inr (.inr ⟨k2, st.h.n, _, d, hdst, rfl, alloc_sem hop hz hpl, AHeap.get_push_eq, hn0, Nat.lt_succ_self _⟩)⟩⟩)
            (fun n0 x hx ho => ho.next (E := E) (lk (.inr (.inr (.inl k2))) x hx) (ld x hx) fun hk => .inr (hre x (List.mem_filter.2 ⟨hx, c.two k2 x hx hk⟩))) (fun _ l e => (Option.some.inj e).symm) hv
      -- an operation that may do anything
      obtain ⟨v, st2, hvre, sem⟩ := op_sound (nt := nt) h1
      obtain ⟨t2, S2, h2⟩ := st2
      obtain rfl : t2 = only (o.looksAt ops) st.t := sem.1
      obtain ⟨hv, hre⟩ := reAll_mem hvre
      obtain ⟨stf, hK, good⟩ := sched_sound l (s :: done) _ K hc.2 dn' od' hv
      refine ⟨stf, hK, fun n0 L0 F R w0 m => ?_⟩
      induction m with
      | zero =>
        intro owed listed L lam a w hm j Q hQ
        obtain rfl := List.eq_nil_of_length_eq_zero hm
        have hp : ∀ z, waits ops s.1 z = true → listed.getD z false = true := fun z hz => by
          obtain ⟨y, hy, rfl⟩ := c.pre z hz; exact j.li y hy (by simp)
        have hnl : ¬ listed.getD s.1 false = true := fun hl => by
          obtain ⟨x, hx, _, e⟩ := j.il _ hl; exact c.new x hx e
        rw [show 0 + (s :: l).length = (0 + l.length) + 1 by simp]
        refine ⟨fun h0 => ?_, fun i hi => ?_⟩
        · have : s.1 ∈ Region.ready .any ops listed := (ready_iff j.sz).2 ⟨(Array.getElem?_eq_some_iff.1 c.at').1, hnl, hp⟩
          rw [h0] at this; cases this
        · obtain ⟨i1, i2, i3⟩ := (ready_iff j.sz).1 hi
          have hi' : i = s.1 := by
            rcases chk_all (nt := nt) (s :: l) done hcc i i1 with ⟨x, hx, rfl⟩ | ⟨x, hx, rfl⟩
            · exact absurd (j.li x hx (by simp)) i2
            · rcases List.mem_cons.1 hx with rfl | hx
              · rfl
              · obtain ⟨z, hz, hno⟩ := c.eff k0 k1 k2 x hx
                obtain ⟨y, hy, _, e⟩ := j.il _ (i3 z hz)
                exact absurd e (hno y hy)
          subst hi'
          have see := j.sees dn (ls := o.looksAt ops) (fun y hy => by cases hy)
          unfold wpOp
          simp only [c.at', gi.wanted (L := L) (lam := lam) (a := a) fun d hd => by rw [← only_in (t := st.t) hd]; exact see d, if_true]
          refine .inl (sem.2 L F R w0 w lam a (j.rel.reslot see) j.df _ _ fun V W L' lam' hv' hext hpre hr => ?_)
          exact good n0 L0 F R w0 0 [] _ L' lam' _ W rfl (j.after c hp hv' hext hpre hr fun x hx => by cases hx) Q hQ
      | succ m ih =>
        intro owed listed L lam a w hm j Q hQ
        rw [show m + 1 + (s :: l).length = (m + (s :: l).length) + 1 by omega]
        refine ⟨fun h0 => ?_, fun i hi => ?_⟩
        · obtain ⟨x, hx, hp⟩ := j.someReady done od (fun x hx => hx) (by
            cases owed with
            | nil => cases hm
            | cons x l => exact ⟨x, List.mem_cons_self, j.own x List.mem_cons_self⟩)
          obtain ⟨o2, ho2, _⟩ := dn.ex x (j.own x hx)
          have : x.1 ∈ Region.ready .any ops listed := (ready_iff j.sz).2 ⟨(Array.getElem?_eq_some_iff.1 ho2).1, j.notListed dn hx, hp⟩
          rw [h0] at this; cases this
        · obtain ⟨i1, i2, i3⟩ := (ready_iff j.sz).1 hi
          rcases chk_all (nt := nt) (s :: l) done hcc i i1 with ⟨x, hx, rfl⟩ | ⟨x, hx, rfl⟩
          · have hxo : x ∈ owed := Classical.byContradiction fun hn => i2 (j.li x hx hn)
            refine j.late dn hxo i3 fun A W L' lam' j' => ?_
            exact ih _ _ L' lam' A W (by rw [List.length_erase_of_mem hxo, hm]; rfl) j' Q hQ
          · rcases List.mem_cons.1 hx with rfl | hx
            · have hfree : ∀ y ∈ owed, ∀ d, dstAt ops y.1 = some d → d ∉ o.looksAt ops := fun y hy d hd hmm => j.notListed dn hy (i3 _ (c.dat y (j.own y hy) d hd hmm))
              have see := j.sees dn hfree
              unfold wpOp
              simp only [c.at', gi.wanted (L := L) (lam := lam) (a := a) fun d hd => by rw [← only_in (t := st.t) hd]; exact see d, if_true]
              refine .inl (sem.2 L F R w0 w lam a (j.rel.reslot see) j.df _ _ fun V W L' lam' hv' hext hpre hr => ?_)
              rw [show m + (x :: l).length = (m + 1) + l.length by simp; omega]
              refine good n0 L0 F R w0 (m + 1) owed _ L' lam' _ W hm (j.after c i3 hv' hext hpre hr fun y hy => ?_) Q hQ
              refine (j.ow y hy).next (E := E) (lkw y (j.own y hy) (by cases hwt : waits ops x.1 y.1 with
                | false => rfl
                | true => exact absurd (i3 _ hwt) (j.notListed dn hy))) (ld y (j.own y hy)) fun hk => .inr ?_
              rcases c.re k0 k1 k2 y (j.own y hy) hk with h | h
              · exact hre y (List.mem_filter.2 ⟨j.own y hy, h⟩)
              · exfalso
                rcases closure_listed (Lp := fun i => listed.getD i false = true) (fun z x => j.dc z x) done [x.1] (fun z hz x' hx' => by
                  simp at hz; subst hz; exact i3 x' hx') y.1 h with h | h
                · simp at h; exact c.new y (j.own y hy) h
                · exact j.notListed dn hy h
            · exfalso
              obtain ⟨z, hz, hno⟩ := c.eff k0 k1 k2 x hx
              obtain ⟨y, hy, _, e⟩ := j.il _ (i3 z hz)
              exact hno y hy e
def vcDraw (P : Program) (nt : Nat) (E : Tmp → Bool) (ops : Array Oper) (l : List Stp) (st : St) (K : St → Prop) : Prop :=
  bs (chk nt ops [] l) (vcSched P E ops [] l st K) False
theorem draw_sound {id : Nat} {l : List Stp} {st : St} {K : St → Prop} (hm : P.follows .mixedOrders = true) (h : vcDraw P nt E ops l st K) : ∃ st', K st' ∧ CRun P nt (.region id ops true) st .normal st' := by
  obtain ⟨hc, h⟩ := bs_false h
  have dn : Dn nt ops [] := ⟨fun x hx => (by cases hx), fun x hx => (by cases hx), fun x hx => (by cases hx), fun x hx => (by cases hx), fun x hx => (by cases hx)⟩
  obtain ⟨stf, hK, good⟩ := sched_sound l [] st K hc dn trivial h
  refine ⟨stf, hK, fun L F R w0 w lam a r hd => wp_region_any hm ?_⟩
  have r' : StRel L F R w0 { w with drawn := w.drawn + 1 } lam nt st a.tmps := ⟨r.rel.drew _, r.tsz, r.llen, r.lnd, r.lF, r.lrw, r.lblk, r.slots⟩
  have hl := chk_len l [] hc
  have none : ∀ i, ¬ (Array.replicate ops.size false).getD i false = true := fun i h => by
    rw [getD_replicate_false] at h; cases h
  have j0 : J P nt ops st.h.n L F R w0 [] [] st (Array.replicate ops.size false) L lam a { w with drawn := w.drawn + 1 } :=
    ⟨fun x hx => (by cases hx), List.nodup_nil, fun x hx => (by cases hx), fun i hi => absurd hi (none i), by simp, fun z x hz => absurd hz (none z), fun x hx => (by cases hx), fun x hx => (by cases hx), fun x hx => (by cases hx),
     StRel.reslot (t1 := st.t) r' fun i => by rw [hide_no fun y hy => (by cases hy)]; exact r'.slots i, hd, fun _ _ => rfl, Nat.le_refl _⟩
  have := good st.h.n L F R w0 0 [] (Array.replicate ops.size false) L lam a { w with drawn := w.drawn + 1 } rfl j0
    (fun e' A W => e' = Exit.normal ∧ ∃ L' lam', A.defers = [] ∧ Ext L st.h L' stf.h ∧ StRel L' F R w0 W lam' nt stf A.tmps)
    fun A W L' lam' h1 h2 h3 h4 => ⟨rfl, L', lam', h1, ⟨h3, h2⟩, h4⟩
  have e : 0 + l.length = ops.size := by simpa using hl
  rw [e] at this; exact this
end
end Go.Abs
namespace Go.Abs
def decided (c : Operand) (q : Bool) (st : St) : St := match c with
  | .tmp d => { st with t := upd st.t d (.bool q) }
  | _ => st
section
variable {P : Program} {nt : Nat} {E : Tmp → Bool} {D : Nat → List Stp}
theorem decided_same {c : Operand} {q : Bool} {st : St} (h : ev st.t c = .bool q) : decided c q st = st := by
  unfold decided
  split
  · rename_i d
    have : upd st.t d (.bool q) = st.t := funext (upd_same h)
    rw [this]
  · rfl
def vcVals (P : Program) : List ResultVar → St → (List Value → Prop) → Prop
  | [], _, K => K []
  | .tmp a :: rs, st, K => bs (okv (st.t a)) (vcVals P rs st fun vs => K (st.t a :: vs)) False
  | .cell a t :: rs, st, K => vcLoad P t (st.t a) st fun v => vcVals P rs st fun vs => K (v :: vs)
def resV : List Value → Value
  | [v] => v
  | vs => .tuple vs.toArray
def vcRes (P : Program) (rs : List ResultVar) (Q : Value → AHeap → Prop) (st : St) : Prop := vcVals P rs st fun vs => Q (resV vs) st.h
theorem okv_rel {L : Lay} {F R : Nat → Prop} {w0 w : World} {lam : List Nat} {st : St} {T : Array Value} (r : StRel L F R w0 w lam nt st T) {i : Nat} (h : okv (st.t i) = true) : VRel L (st.t i) (T.getD i undef) := by
  have := args_rel (st := st) (a := { tmps := T, defers := [] }) r.known #[.tmp i] (by simpa [ev] using h)
  exact this.2 0 (st.t i) (T.getD i undef) (by simp [ev]) (by simp [Act.eval])
def resOf (T : Array Value) : ResultVar → Sem Value
  | .tmp t => pure (T.getD t undef)
  | .cell a t => do loadVar t (← asAddr (T.getD a undef))
theorem load_res {t : TypeId} {a : Tmp} {st : St} {K : Value → Prop} (h : vcLoad P t (st.t a) st K) : ∃ v, K v ∧ ∀ (L : Lay) (F R : Nat → Prop) (w0 w : World) (lam : List Nat) (T : Array Value), StRel L F R w0 w lam nt st T → ∃ V, VRel L v V ∧ (resOf T (.cell a t)).run P w = .ok V w := by
  have ek : ∀ (L : Lay) (F R : Nat → Prop) (w0 w : World) (lam : List Nat) (T : Array Value), StRel L F R w0 w lam nt st T → ∀ v, st.t a = v → v ≠ undef → SVRel L lam v (T.getD a undef) := by
    intro L F R w0 w lam T r v hv hne
    rcases r.slots a with e | ⟨X, e, k⟩
    · exact absurd (hv.symm.trans e) hne
    · rw [Array.getD_eq_getD_getElem?, e, ← hv]; exact k
  unfold vcLoad at h
  split at h
  case h_2 => exact h.elim
  rename_i ag z ha hz
  split at h
  · rename_i i c hx
    split at h
    case h_2 => exact h.elim
    rename_i row hrow
    obtain ⟨hc, h⟩ := bs_false h
    have hc' := of_decide_eq_true hc
    refine ⟨_, h, fun L F R w0 w lam T r => ?_⟩
    obtain ⟨b, hb, e⟩ := (ek L F R w0 w lam T r _ hx (by simp [undef])).lptr
    obtain ⟨cs, ty, hh, hsz, hv⟩ := r.lblk i b row hb hrow
    obtain ⟨V, hV, hr⟩ := load_cells ha hz (L := L) (w := w) (A := ⟨b, c, none⟩) (vs := (row.drop c).take (cnt ag z)) (by rw [List.length_take, List.length_drop]; omega) (fun j v hj => by
      rw [List.getElem?_take] at hj
      split at hj
      · rw [List.getElem?_drop] at hj
        obtain ⟨V, a1, a2⟩ := hv (c + j) v hj
        exact ⟨V, by rw [add_addr]; unfold World.cell?; rw [hh]; simpa using a1, a2⟩
      · cases hj)
    exact ⟨V, hV, by unfold resOf; dsimp only; rw [e]; simp [asAddr, hr]⟩
  · rename_i l i c hx
    obtain ⟨vs, hl, h⟩ := exL_some h
    refine ⟨_, h, fun L F R w0 w lam T r => ?_⟩
    obtain ⟨s, hs, e⟩ := (ek L F R w0 w lam T r _ hx (by simp [undef])).ptr
    have hld := r.rel.ld hl hs
    obtain ⟨V, hV, hr⟩ := load_cells ha hz hld.1 hld.2
    exact ⟨V, hV, by unfold resOf; dsimp only; rw [e]; simp [asAddr, hr]⟩
  · exact h.elim
theorem vals_sound {st : St} : ∀ (rs : List ResultVar) (K : List Value → Prop), vcVals P rs st K → ∃ vs, K vs ∧ ∀ (L : Lay) (F R : Nat → Prop) (w0 w : World) (lam : List Nat) (T : Array Value), StRel L F R w0 w lam nt st T →
    ∃ Vs : List Value, (rs.mapM (resOf T)).run P w = .ok Vs w ∧ vs.length = Vs.length ∧ ∀ (i : Nat) (v V : Value), vs[i]? = some v → Vs[i]? = some V → VRel L v V
  | [], K, h => ⟨[], h, fun L F R w0 w lam T r => ⟨[], by simp, rfl, fun i v V h => by simp at h⟩⟩
  | .tmp a :: rs, K, h => by
    obtain ⟨h1, h⟩ := bs_false h
    obtain ⟨vs, hK, hs⟩ := vals_sound rs _ h
    refine ⟨_, hK, fun L F R w0 w lam T r => ?_⟩
    obtain ⟨Vs, e1, e2, e3⟩ := hs L F R w0 w lam T r
    refine ⟨T.getD a undef :: Vs, by simp only [List.mapM_cons]; simp [resOf, e1], by simp [e2], fun i v V hv hV => ?_⟩
    cases i with
    | zero => simp at hv hV; subst hv; subst hV; simpa using okv_rel r h1
    | succ i => simp at hv hV; exact e3 i v V hv hV
  | .cell a t :: rs, K, h => by
    obtain ⟨v, h, hl⟩ := load_res (nt := nt) h
    obtain ⟨vs, hK, hs⟩ := vals_sound rs _ h
    refine ⟨_, hK, fun L F R w0 w lam T r => ?_⟩
    obtain ⟨V, v1, v2⟩ := hl L F R w0 w lam T r
    obtain ⟨Vs, e1, e2, e3⟩ := hs L F R w0 w lam T r
    refine ⟨V :: Vs, by simp only [List.mapM_cons]; simp [v2, e1], by simp [e2], fun i v V hv hV => ?_⟩
    cases i with
    | zero => simp at hv hV; subst hv; subst hV; exact v1
    | succ i => simp at hv hV; exact e3 i v V hv hV
theorem res_sound {fn : Func} {rs : List ResultVar} (hrs : fn.results = rs.toArray) {Q : Value → AHeap → Prop} {st : St} (h : vcRes P rs Q st) :
    ∃ v, Q v st.h ∧ ∀ (L : Lay) (F R : Nat → Prop) (w0 w : World) (lam : List Nat) (T : Array Value), StRel L F R w0 w lam nt st T → ∃ V, (results fn T).run P w = .ok V w ∧ VRel L v V := by
  obtain ⟨vs, hQ, hs⟩ := vals_sound (nt := nt) rs _ h
  refine ⟨_, hQ, fun L F R w0 w lam T r => ?_⟩
  obtain ⟨Vs, e1, e2, e3⟩ := hs L F R w0 w lam T r
  have hres : (results fn T).run P w = .ok (if h : Vs.toArray.size = 1 then Vs.toArray[0] else .tuple Vs.toArray) w := by
    have e0 : results fn T = (do let vs ← fn.results.mapM (resOf T); pure (if h : vs.size = 1 then vs[0] else .tuple vs)) := by
      unfold results
      have : ∀ f g : ResultVar → Sem Value, (∀ x, f x = g x) → fn.results.mapM f = fn.results.mapM g := fun f g h => by rw [funext h]
      rw [this _ (resOf T) (fun x => by cases x <;> rfl)]
    rw [e0, hrs, List.mapM_toArray]
    simp [e1]
  refine ⟨_, hres, ?_⟩
  match vs, Vs, e2, e3 with
  | [], [], _, _ => exact .tuple rfl (by simp)
  | [v], [V], _, e3 => exact e3 0 v V rfl rfl
  | v1 :: v2 :: vs, V1 :: V2 :: Vs, e2, e3 =>
    rw [dif_neg (by simp)]
    refine .tuple (by simpa using e2) fun i v V hv hV => e3 i v V (by simpa using hv) (by simpa using hV)
def st0 (args : List Value) (h : AHeap) : St := ⟨fun i => args.getD i undef, [], h⟩
def retX (P : Program) (rs : List ResultVar) (Q : Value → AHeap → Prop) (e : Exit) (st : St) : Prop := match e with | .ret => vcRes P rs Q st | _ => False
theorem acall_of_sem {f : FuncId} {fn : Func} {c : Code} {rs : List ResultVar} {args : List Value} {h0 : AHeap} {Q : Value → AHeap → Prop} (hf : P.funcs[f]? = some fn) (hb : fn.body = some c) (hrs : fn.results = rs.toArray) (hn : fn.ntmps = nt) (hs : args.length ≤ nt)
    (h : CSem P nt c (st0 args h0) (vcRes P rs Q) (retX P rs Q)) : ∃ v h', ACall P f args h0 v h' ∧ Q v h' := by
  obtain ⟨e, st', hE, hr⟩ := h
  have hE' : vcRes P rs Q st' ∧ (e = .normal ∨ e = .ret) := by
    cases e <;> first | exact ⟨hE, .inl rfl⟩ | exact ⟨hE, .inr rfl⟩ | exact hE.elim
  obtain ⟨hv, he⟩ := hE'
  obtain ⟨v, hQ, hres⟩ := res_sound (nt := nt) (P := P) hrs hv
  refine ⟨v, st'.h, fun L F R w0 w ARGS hrel harg => calls_of_wp hf hb ?_, hQ⟩
  have hsz : args.length = ARGS.size := by simpa using harg.1
  refine wp_mono (hr L F R w0 w [] _ ⟨hrel, by simp [hn]; omega, rfl, List.nodup_nil, fun b hb => (by cases hb), fun l o q _ _ _ hb => (by cases hb), fun i b row hb => by simp at hb, ?_⟩ rfl) ?_
  · intro i
    show SlotRel L [] (args.getD i undef) (ARGS ++ Array.replicate (fn.ntmps - ARGS.size) undef)[i]?
    by_cases hi : i < args.length
    · right
      refine ⟨ARGS[i]'(by omega), ?_, .of ?_⟩
      · rw [Array.getElem?_append_left (by omega)]; exact Array.getElem?_eq_getElem _
      · refine harg.2 i _ _ ?_ (Array.getElem?_eq_getElem (by omega))
        rw [List.getD_eq_getElem?_getD]
        simp [hi]
    · left
      rw [List.getD_eq_getElem?_getD, List.getElem?_eq_none (by omega)]; rfl
  · rintro e' A W ⟨rfl, L', lam', hA, hext, hst⟩
    obtain ⟨V, h1, h2⟩ := hres L' F R w0 W lam' A.tmps hst
    rcases he with rfl | rfl
    · exact bodyPost_end h1 hA ⟨V, L', rfl, hext, h2, hst.rel⟩
    · exact bodyPost_ret h1 hA ⟨V, L', rfl, hext, h2, hst.rel⟩
end
end Go.Abs
namespace Go.Abs
def look (l : List (Nat × Value)) (i : Nat) : Value := match l with
  | [] => undef
  | (j, v) :: l => bif i == j then v else look l i
structure Hd where
  l : List (Nat × Value)
  S : List (List Value)
  h : AHeap
def Hd.st (d : Hd) : St := ⟨look d.l, d.S, d.h⟩
def locK (n : Nat) (v : Value) (K : Prop) : Prop := match v with
  | .complex .f32 j _ => bs (decide (j < n)) K False
  | _ => K
def holds (st : St) (n : Nat) (K : Prop) : List (Nat × Value) → Prop
  | [] => K
  | (i, v) :: l => st.t i = v ∧ locK n v (holds st n K l)
def preS (K : Prop) : List (List Value) → List (List Value) → Prop
  | [], _ => K
  | r :: l, r' :: l' => r = r' ∧ preS K l l'
  | _ :: _, [] => False
def fits (d : Hd) (st : St) (K : Prop) : Prop := holds st d.S.length (preS (d.h = st.h ∧ K) d.S st.S) d.l
theorem locK_out {n : Nat} {v : Value} {K : Prop} (h : locK n v K) : K ∧ ∀ j c, v = .complex .f32 j c → j < n := by
  unfold locK at h
  split at h
  · rename_i j c
    obtain ⟨h1, h⟩ := bs_false h
    exact ⟨h, fun j' c' e => by injection e with _ e _; subst e; exact of_decide_eq_true h1⟩
  · rename_i hne
    exact ⟨h, fun j c e => absurd e (hne j c)⟩
theorem holds_out {st : St} {n : Nat} {K : Prop} : ∀ {l : List (Nat × Value)}, holds st n K l → K ∧ (∀ i, look l i = undef ∨ look l i = st.t i) ∧ ∀ i j c, look l i = .complex .f32 j c → j < n
  | [], h => ⟨h, fun _ => .inl rfl, fun i j c e => by cases e⟩
  | (j, v) :: l, h => by
    obtain ⟨h1, h2⟩ := locK_out h.2
    obtain ⟨k1, k2, k3⟩ := holds_out h1
    refine ⟨k1, fun i => ?_, fun i a c e => ?_⟩
    · unfold look
      by_cases e : i = j
      · subst e; rw [beq_self_eq_true]; exact .inr h.1.symm
      · rw [show (i == j) = false from beq_eq_false_iff_ne.2 e]; exact k2 i
    · unfold look at e
      cases hk : i == j with
      | true => rw [hk] at e; exact h2 a c e
      | false => rw [hk] at e; exact k3 i a c e
theorem preS_out {K : Prop} : ∀ {a b : List (List Value)}, preS K a b → K ∧ a <+: b
  | [], b, h => ⟨h, List.nil_prefix⟩
  | r :: l, r' :: l', h => by
    obtain ⟨rfl, h⟩ := h
    obtain ⟨k, p⟩ := preS_out h
    exact ⟨k, List.cons_prefix_cons.2 ⟨rfl, p⟩⟩
  | _ :: _, [], h => h.elim
theorem fits.sub {d : Hd} {st : St} {K : Prop} (h : fits d st K) : Sub d.st st ∧ K := by
  obtain ⟨h1, h2, h3⟩ := holds_out h
  obtain ⟨⟨h4, k⟩, h5⟩ := preS_out h1
  exact ⟨⟨h2, h5, h4, h3⟩, k⟩
structure LSpec where
  ι : Type
  κ : Type
  I : ι → Prop
  μ : ι → Nat
  head : ι → Hd
  post : κ → Hd
  R : ι → κ → Prop
  ret : ι → Value → AHeap → Prop
def LSpec.none : LSpec := ⟨Unit, Unit, fun _ => False, fun _ => 0, fun _ => ⟨[], [], ⟨0, fun _ => .none⟩⟩, fun _ => ⟨[], [], ⟨0, fun _ => .none⟩⟩, fun _ _ => False, fun _ _ _ => False⟩
def vcL (P : Program) (nt : Nat) (E : Tmp → Bool) (D : Nat → List Stp) (LS : Nat → LSpec) (Q : Value → AHeap → Prop) : Code → (St → Prop) → (Exit → St → Prop) → St → Prop
  | .skip, N, _, st => N st
  | .region _ ops false, N, _, st => vcOps P nt E ops ops.toList st N
  | .region id ops true, N, _, st => vcDraw P nt E ops (D id) st N
  | .seq x y, N, X, st => vcL P nt E D LS Q x (fun st => vcL P nt E D LS Q y N X st) X st
  | .cond c x y, N, X, st => match ev st.t c with
    | .bool q => bs q (vcL P nt E D LS Q x N X (decided c true st)) (vcL P nt E D LS Q y N X (decided c false st))
    | _ => False
  | .block id (.loop _), N, _, st => ∃ i, fits ((LS id).head i) st ((LS id).I i ∧ (∀ j, (LS id).R i j → N ((LS id).post j).st) ∧ ∀ v h, (LS id).ret i v h → Q v h)
  | .block id c, N, X, st => vcL P nt E D LS Q c N (inBlk id N X) st
  | .exit i, _, X, st => X (.exit i) st
  | .label _, N, _, st => N st
  | .ret, _, X, st => X .ret st
  | _, _, _, _ => False
def loopX (P : Program) (rs : List ResultVar) (id : Nat) (s : LSpec) (i : s.ι) (e : Exit) (st : St) : Prop := match e with
  | .exit k => bs (k == id) (∃ j, fits (s.post j) st (s.R i j)) False
  | .ret => vcRes P rs (s.ret i) st
  | _ => False
def loopN (s : LSpec) (i : s.ι) (st : St) : Prop := ∃ j, fits (s.head j) st (s.I j ∧ s.μ j < s.μ i ∧ (∀ k, s.R j k → s.R i k) ∧ ∀ v h, s.ret j v h → s.ret i v h)
def LoopOk (P : Program) (nt : Nat) (E : Tmp → Bool) (D : Nat → List Stp) (LS : Nat → LSpec) (rs : List ResultVar) (id : Nat) (c : Code) : Prop :=
  ∀ i, (LS id).I i → vcL P nt E D LS ((LS id).ret i) c (loopN (LS id) i) (loopX P rs id (LS id) i) ((LS id).head i).st
def loopsOk (ok : Nat → Code → Prop) : Code → Prop
  | .block id (.loop c) => ok id c ∧ loopsOk ok c
  | .seq x y => loopsOk ok x ∧ loopsOk ok y
  | .cond _ x y => loopsOk ok x ∧ loopsOk ok y
  | .block _ c => loopsOk ok c
  | _ => True
def loopXs (P : Program) (rs : List ResultVar) (id : Nat) (s : LSpec) (i : s.ι) (e : Exit) (st : St) : Prop := match e with
  | .exit k => k = id ∧ ∃ j, s.R i j ∧ Sub (s.post j).st st
  | .ret => vcRes P rs (s.ret i) st
  | _ => False
def LoopSem (P : Program) (nt : Nat) (LS : Nat → LSpec) (rs : List ResultVar) (id : Nat) (c : Code) : Prop :=
  ∀ i st, (LS id).I i → Sub ((LS id).head i).st st → CSem P nt (.loop c) st (fun _ => False) (loopXs P rs id (LS id) i)
theorem Sub.trans {a b c : St} (x : Sub a b) (y : Sub b c) : Sub a c :=
  ⟨fun i => (x.t i).elim .inl fun e => (y.t i).elim (fun e2 => .inl (e.trans e2)) fun e2 => .inr (e.trans e2), x.S.trans y.S, x.h.trans y.h, x.loc⟩
def Closed (N : St → Prop) : Prop := ∀ s st, Sub s st → N s → N st
def ClosedX (X : Exit → St → Prop) : Prop := ∀ e s st, Sub s st → X e s → X e st
theorem okv_undef : okv undef = false := rfl
theorem vcLoad_sub {P : Program} {t : TypeId} {s st : St} (u : Sub s st) {i : Nat} {K : Value → Prop} (h : vcLoad P t (s.t i) s K) : vcLoad P t (st.t i) st K := by
  have e : s.t i = st.t i := (u.t i).resolve_left fun e => by
    rw [e] at h
    unfold vcLoad at h
    split at h
    · exact h
    · exact h
  rw [← e]
  unfold vcLoad at h ⊢
  rw [← u.h]
  split at h
  · split at h
    · split at h
      · rename_i i c _ _ row hrow
        obtain ⟨x, hx⟩ := u.S
        have : st.S[i]? = some row := by rw [← hx, List.getElem?_append_left (List.getElem?_eq_some_iff.1 hrow).1]; exact hrow
        rw [this]; exact h
      · exact h.elim
    · exact h
    · exact h.elim
  · exact h
theorem vcLoad_mono {P : Program} {t : TypeId} {st : St} {v : Value} {K K' : Value → Prop} (hk : ∀ v, K v → K' v) (h : vcLoad P t v st K) : vcLoad P t v st K' := by
  unfold vcLoad at h ⊢
  split at h
  · split at h
    · split at h
      · obtain ⟨h1, h⟩ := bs_false h; rw [h1]; exact hk _ h
      · exact h
    · exact exL_mono (fun vs h => ⟨h.1, hk _ h.2⟩) h
    · exact h
  · exact h
theorem vcVals_sub {P : Program} {s st : St} (u : Sub s st) : ∀ {rs : List ResultVar} {K K' : List Value → Prop}, (∀ vs, K vs → K' vs) → vcVals P rs s K → vcVals P rs st K'
  | [], _, _, hk, h => hk _ h
  | .tmp a :: rs, _, _, hk, h => by
    obtain ⟨h1, h⟩ := bs_false h
    have e : s.t a = st.t a := (u.t a).resolve_left fun e => by rw [e, okv_undef] at h1; cases h1
    unfold vcVals
    rw [← e, h1]
    exact vcVals_sub u (fun vs => hk _) h
  | .cell a t :: rs, _, _, hk, h => vcLoad_mono (fun v h => vcVals_sub u (fun vs => hk _) h) (vcLoad_sub u h)
theorem vcRes_closed {P : Program} {rs : List ResultVar} {Q : Value → AHeap → Prop} : Closed (vcRes P rs Q) := by
  intro s st u h
  unfold vcRes at *
  rw [← u.h]
  exact vcVals_sub u (fun _ h => h) h
theorem retX_closed {P : Program} {rs : List ResultVar} {Q : Value → AHeap → Prop} : ClosedX (retX P rs Q) := by
  intro e s st u h
  cases e <;> first | exact vcRes_closed s st u h | exact h.elim
section
variable {P : Program} {nt : Nat} {E : Tmp → Bool} {D : Nat → List Stp} {LS : Nat → LSpec} {rs : List ResultVar}
theorem inBlk_closed {id : Nat} {N : St → Prop} {X : Exit → St → Prop} (hN : Closed N) (hX : ClosedX X) : ClosedX (inBlk id N X) := by
  intro e s st u h
  cases e with
  | exit i =>
    unfold inBlk at *
    dsimp only at *
    rcases bs_cases h with ⟨e, h⟩ | ⟨e, h⟩
    · rw [e]; exact hN s st u h
    · rw [e]; exact hX _ s st u h
  | _ => exact hX _ s st u h
theorem CSem.closed {c : Code} {N : St → Prop} {X : Exit → St → Prop} : Closed fun st => CSem P nt c st N X := fun _ _ u h => h.weak u
theorem vals_mono' {st : St} : ∀ {rs : List ResultVar} {K K' : List Value → Prop}, (∀ vs, K vs → K' vs) → vcVals P rs st K → vcVals P rs st K'
  | [], _, _, hk, h => hk _ h
  | .tmp a :: rs, _, _, hk, h => by
    obtain ⟨h1, h⟩ := bs_false h
    unfold vcVals
    rw [h1]
    exact vals_mono' (fun vs => hk _) h
  | .cell a t :: rs, _, _, hk, h => vcLoad_mono (fun v h => vals_mono' (fun vs => hk _) h) h
theorem vcL_sound (hm : P.follows .mixedOrders = true) : ∀ (c : Code), loopsOk (LoopSem P nt LS rs) c →
    ∀ (Q : Value → AHeap → Prop) (st : St) (N N' : St → Prop) (X X' : Exit → St → Prop), vcL P nt E D LS Q c N X st → (∀ s, N s → N' s) → (∀ e s, X e s → X' e s) → Closed N' → ClosedX X' → (∀ s, vcRes P rs Q s → X' .ret s) → CSem P nt c st N' X' := by
  intro c
  induction c with
  | skip => exact fun _ Q st N N' X X' h hN _ _ _ _ => ⟨.normal, st, hN _ h, fun L F R w0 w lam a r hd => wp_skip ⟨rfl, L, lam, hd, Ext.refl _ _, r⟩⟩
  | region id ops b =>
    intro _ Q st N N' X X' h hN _ _ _ _
    cases b with
    | false =>
      obtain ⟨st', hK, hrun⟩ := ops_sound (E := E) ops.toList 0 st N (fun j => by simp) h
      refine ⟨.normal, st', hN _ hK, fun L F R w0 w lam a r hd => wp_region ?_⟩
      have := hrun L F R w0 w lam a r hd (fun e' A W => e' = Exit.normal ∧ ∃ L' lam', A.defers = [] ∧ Ext L st.h L' st'.h ∧ StRel L' F R w0 W lam' nt st' A.tmps) fun A W L' lam' h1 h2 h3 => ⟨rfl, L', lam', h1, h2, h3⟩
      rw [List.range_eq_range', ← Array.length_toList]; exact this
    | true =>
      obtain ⟨st', hK, hrun⟩ := draw_sound (id := id) hm h
      exact ⟨.normal, st', hN _ hK, hrun⟩
  | seq x y ih1 ih2 =>
    intro hl Q st N N' X X' h hN hX cN cX hR
    exact CSem.seq (ih1 hl.1 Q st _ (fun st => CSem P nt y st N' X') X X' h (fun s hs => ih2 hl.2 Q s N N' X X' hs hN hX cN cX hR) hX CSem.closed cX hR)
  | cond c x y ih1 ih2 =>
    intro hl Q st N N' X X' h hN hX cN cX hR
    unfold vcL at h
    split at h
    case h_2 => exact h.elim
    rename_i q hq
    have go : ∀ (z : Code), (if q then x else y) = z → CSem P nt z st N' X' → CSem P nt (.cond c x y) st N' X' := by
      rintro z rfl ⟨e, st', hE, hr⟩
      refine ⟨e, st', hE, fun L F R w0 w lam a r hd => wp_cond (r.known.bool hq) (hr L F R w0 w lam a r hd)⟩
    rcases bs_cases h with ⟨rfl, h⟩ | ⟨rfl, h⟩
    · rw [decided_same hq] at h; exact go x rfl (ih1 hl.1 Q st N N' X X' h hN hX cN cX hR)
    · rw [decided_same hq] at h; exact go y rfl (ih2 hl.2 Q st N N' X X' h hN hX cN cX hR)
  | block id c ih =>
    intro hl Q st N N' X X' h hN hX cN cX hR
    have plain : loopsOk (LoopSem P nt LS rs) c → vcL P nt E D LS Q c N (inBlk id N X) st → CSem P nt (.block id c) st N' X' := fun hl h =>
      CSem.block (ih hl Q st N N' (inBlk id N X) (inBlk id N' X') h hN (fun e s he => by
        cases e with
        | exit i =>
          unfold inBlk at *
          dsimp only at *
          rcases bs_cases he with ⟨e, he⟩ | ⟨e, he⟩
          · rw [e]; exact hN s he
          · rw [e]; exact hX _ s he
        | _ => exact hX _ s he) cN (inBlk_closed cN cX) hR)
    cases c with
    | loop c =>
      obtain ⟨i, hf⟩ := h
      obtain ⟨hf, hI, hj, hr⟩ := hf.sub
      have := hl.1 i st hI hf
      refine CSem.block (this.mono (fun _ h => h.elim) fun e s he => ?_)
      cases e with
      | exit k =>
        obtain ⟨rfl, j, hR1, hfit⟩ := he
        unfold inBlk
        dsimp only
        rw [beq_self_eq_true]
        exact cN _ _ hfit (hN _ (hj j hR1))
      | ret =>
        refine hR s ?_
        exact vals_mono' (fun _ => hr _ _) he
      | _ => exact he.elim
    | _ => exact plain hl h
  | loop c => exact fun _ Q st N N' X X' h => h.elim
  | exit i => exact fun _ Q st N N' X X' h _ hX _ _ _ => ⟨.exit i, st, hX _ _ h, fun L F R w0 w lam a r hd => wp_exit ⟨rfl, L, lam, hd, Ext.refl _ _, r⟩⟩
  | label l => exact fun _ Q st N N' X X' h hN _ _ _ _ => ⟨.normal, st, hN _ h, fun L F R w0 w lam a r hd => wp_label ⟨rfl, L, lam, hd, Ext.refl _ _, r⟩⟩
  | ret => exact fun _ Q st N N' X X' h _ hX _ _ _ => ⟨.ret, st, hX _ _ h, fun L F R w0 w lam a r hd => wp_ret ⟨rfl, L, lam, hd, Ext.refl _ _, r⟩⟩
  | _ => exact fun _ Q st N N' X X' h => h.elim
theorem res_mono {Q Q' : Value → AHeap → Prop} (h : ∀ v x, Q v x → Q' v x) {s : St} (this : vcRes P rs Q s) : vcRes P rs Q' s :=
  vals_mono' (fun _ => h _ _) this
theorem loop_sem (hm : P.follows .mixedOrders = true) {id : Nat} {c : Code} (hc : loopsOk (LoopSem P nt LS rs) c) (h : LoopOk P nt E D LS rs id c) : LoopSem P nt LS rs id c := by
  intro i0 st0 hI0 hs0
  refine loop_at (fun i => ((LS id).head i).st) (fun i => (LS id).I i ∧ (∀ k, (LS id).R i k → (LS id).R i0 k) ∧ ∀ v h, (LS id).ret i v h → (LS id).ret i0 v h) (LS id).μ i0 ⟨hI0, fun _ h => h, fun _ _ h => h⟩ hs0 ?_
  rintro i ⟨hI, h1, h2⟩
  refine vcL_sound hm c hc ((LS id).ret i) _ _ _ _ _ (h i hI) ?_ ?_ ?_ ?_ fun s hs => res_mono h2 hs
  · rintro s ⟨j, hf⟩
    obtain ⟨hf, hj, hlt, h3, h4⟩ := hf.sub
    exact ⟨j, ⟨hj, fun k hk => h1 k (h3 k hk), fun v x hv => h2 v x (h4 v x hv)⟩, hlt, hf⟩
  · intro e s he
    cases e with
    | exit k =>
      obtain ⟨hk, j, hfit⟩ := bs_false he
      obtain ⟨hfit, hR1⟩ := hfit.sub
      exact ⟨by simpa using hk, j, h1 j hR1, hfit⟩
    | ret => exact res_mono h2 he
    | _ => exact he.elim
  · rintro s st u ⟨j, hj, hlt, hf⟩
    exact ⟨j, hj, hlt, hf.trans u⟩
  · intro e s st u he
    cases e with
    | exit k => obtain ⟨hk, j, hR1, hf⟩ := he; exact ⟨hk, j, hR1, hf.trans u⟩
    | ret => exact vcRes_closed s st u he
    | _ => exact he.elim
theorem loops_sem (hm : P.follows .mixedOrders = true) : ∀ (c : Code), (loopsOk (LoopOk P nt E D LS rs) c → loopsOk (LoopSem P nt LS rs) c) ∧ ∀ d, c = .loop d → loopsOk (LoopOk P nt E D LS rs) d → loopsOk (LoopSem P nt LS rs) d := by
  intro c
  induction c with
  | seq x y ih1 ih2 => exact ⟨fun h => ⟨ih1.1 h.1, ih2.1 h.2⟩, fun d e => by cases e⟩
  | cond c x y ih1 ih2 => exact ⟨fun h => ⟨ih1.1 h.1, ih2.1 h.2⟩, fun d e => by cases e⟩
  | loop c ih => exact ⟨fun _ => trivial, fun d e => by cases e; exact ih.1⟩
  | block id c ih =>
    refine ⟨fun h => ?_, fun d e => by cases e⟩
    cases c with
    | loop c => exact ⟨loop_sem hm (ih.2 c rfl h.2) h.1, ih.2 c rfl h.2⟩
    | _ => exact ih.1 h
  | _ => exact ⟨fun _ => trivial, fun d e => by cases e⟩
theorem acall_by {f : FuncId} {fn : Func} {c : Code} {args : List Value} {h0 : AHeap} {Q : Value → AHeap → Prop} (E : Tmp → Bool) (D : Nat → List Stp) (LS : Nat → LSpec) (hm : P.follows .mixedOrders = true) (hf : P.funcs[f]? = some fn) (hb : fn.body = some c) (hrs : fn.results = rs.toArray) (hn : fn.ntmps = nt) (hs : args.length ≤ nt)
    (hl : loopsOk (LoopOk P nt E D LS rs) c) (h : vcL P nt E D LS Q c (vcRes P rs Q) (retX P rs Q) (st0 args h0)) : ∃ v h', ACall P f args h0 v h' ∧ Q v h' :=
  acall_of_sem hf hb hrs hn hs (vcL_sound hm c ((loops_sem hm c).1 hl) Q _ _ _ _ _ h (fun _ h => h) (fun _ _ h => h) vcRes_closed retX_closed fun _ h => h)
end
end Go.Abs
