/- Slice literals, make, bytes and strings: sound. -/
import Derived.Test.YtgcckeglmhbnmaaA10
import Derived.Lib.ConvBytes
import Derived.Laws.BytesString
import Derived.IntWalk
namespace Go.Abs

def fillRows (z : Nat) (rows : List (List Value)) : List (Nat × Value) → Option (List (List Value))
  | [] => some rows
  | (i, v) :: rest => bif okv v && decide ((cellsL v).length = z) && decide (i < rows.length) then fillRows z (rows.set i (cellsL v)) rest else none

def vcBuildSlice (P : Program) (t : TypeId) (len : Nat) (parts : List (Nat × Value)) (st : St) (K : Value → St → Prop) : Prop :=
  match P.underlying t with
  | some (.slice e) => match szOf P e, zeroOf P e with
    | some z, some zv => bs (plain zv && decide ((cellsL zv).length = z) && decide (0 < z) && decide (len * z ≤ 16777216)) (match fillRows z (List.replicate len (cellsL zv)) parts with
      | some rows => K (.slice (some ⟨st.h.n, 0, some z⟩) len (len + 1)) { st with h := st.h.push ⟨rows, z, true⟩ }
      | none => False) False
    | _, _ => False
  | _ => False

def vcMake (P : Program) (t : TypeId) (l c : Value) (st : St) (K : Value → St → Prop) : Prop :=
  match l, c with
  | .int _ m, .int _ n => match P.underlying t with
    | some (.slice e) => match szOf P e, zeroOf P e with
      | some z, some zv => bs (plain zv && decide ((cellsL zv).length = z) && decide (0 < z) && decide (0 < bytesOf P e)) (0 ≤ m ∧ m ≤ n ∧ n * bytesOf P e ≤ 140737488355328 ∧
          K (.slice (some ⟨st.h.n, 0, some z⟩) m.toNat (n.toNat + 1)) { st with h := st.h.push ⟨List.replicate m.toNat (cellsL zv), z, true⟩ }) False
      | _, _ => False
    | _ => False
  | _, _ => False

def vcB2S (P : Program) (src dst : TypeId) (v : Value) (st : St) (K : Value → Prop) : Prop :=
  match v with
  | .slice a n c => match P.underlying src, P.underlying dst with
    | some (.slice e), some .string => (match P.underlying e with
      | some (.int .u8) => ∃ s, st.h.rowsOf (.slice a n c) = some (bytesRows s) ∧ K (.string s)
      | _ => False)
    | _, _ => False
  | _ => False

def vcS2B (P : Program) (src dst : TypeId) (v : Value) (st : St) (K : Value → St → Prop) : Prop :=
  match v with
  | .string s => match P.underlying src, P.underlying dst with
    | some _, some (.slice e) => (match P.underlying e with
      | some (.int .u8) => K (.slice (some ⟨st.h.n, 0, some 1⟩) s.size 0) { st with h := st.h.push ⟨bytesRows s, 1, true⟩ }
      | _ => False)
    | _, _ => False
  | _ => False

theorem flatten_set {z : Nat} : ∀ (rows : List (List Value)) (i : Nat) (vs : List Value), (∀ row ∈ rows, row.length = z) → vs.length = z → i < rows.length → (rows.set i vs).flatten = setRange rows.flatten (i * z) vs
  | [], i, vs, _, _, hi => by simp at hi
  | row :: rows, 0, vs, h, hv, _ => by
    have hr := h row (by simp)
    simp only [List.set_cons_zero, List.flatten_cons, setRange, Nat.zero_mul, List.take_zero, List.nil_append, Nat.zero_add]
    rw [List.drop_append_of_le_length (by omega), List.drop_of_length_le (by omega), List.nil_append]
  | row :: rows, i + 1, vs, h, hv, hi => by
    have hr := h row (by simp)
    have ih := flatten_set rows i vs (fun x hx => h x (by simp [hx])) hv (by simpa using hi)
    simp only [List.set_cons_succ, List.flatten_cons, ih, setRange]
    rw [show (i + 1) * z = row.length + i * z from by rw [Nat.succ_mul, hr]; omega, List.take_length_add_append, show row.length + i * z + vs.length = row.length + (i * z + vs.length) from by omega, List.drop_length_add_append]
    simp only [List.append_assoc]

theorem fillRows_fill {z : Nat} : ∀ (parts : List (Nat × Value)) (rows out : List (List Value)), (∀ row ∈ rows, row.length = z) → fillRows z rows parts = some out →
    fillL (fun i => some (i * z, z)) rows.flatten parts = some out.flatten ∧ (∀ row ∈ out, row.length = z) ∧ out.length = rows.length
  | [], rows, out, h, hf => by simp only [fillRows, Option.some.injEq] at hf; subst hf; exact ⟨rfl, h, rfl⟩
  | (i, v) :: rest, rows, out, h, hf => by
    unfold fillRows at hf
    cases hq : (okv v && decide ((cellsL v).length = z) && decide (i < rows.length)) with
    | false => rw [hq] at hf; cases hf
    | true =>
    rw [hq] at hf
    simp only [Bool.and_eq_true, decide_eq_true_eq] at hq
    obtain ⟨⟨hok, hz⟩, hi⟩ := hq
    have hlen := flat_length rows h
    have hfit : i * z + z ≤ rows.flatten.length := by
      rw [hlen, ← Nat.succ_mul]; exact Nat.mul_le_mul_right _ hi
    obtain ⟨a, b, c⟩ := fillRows_fill rest (rows.set i (cellsL v)) out (fun row hr => by
      rcases List.mem_or_eq_of_mem_set hr with h1 | h1
      · exact h row h1
      · rw [h1]; exact hz) hf
    refine ⟨?_, b, by rw [c, List.length_set]⟩
    unfold fillL
    simp only [hok, hz, hfit, decide_true, Bool.and_self, cond_true]
    rw [flatten_set rows i (cellsL v) h hz hi] at a
    exact a

/-- Flat cells stand for rows. -/
theorem FRel.of_flat {L : Lay} {rows : List (List Value)} {z : Nat} {A : Array Value} (h : ∀ row ∈ rows, row.length = z) (hr : LRel L rows.flatten A) : ∀ (i : Nat) (row : List Value), rows[i]? = some row → ∀ (j : Nat) (v : Value), row[j]? = some v → ∃ V, A[i * z + j]? = some V ∧ VRel L v V := by
  intro i row hi j v hj
  have hl := h row (List.mem_of_getElem? hi)
  have hjz : j < z := by have := (List.getElem?_eq_some_iff.1 hj).1; omega
  exact hr.2 _ v (by rw [flat_get rows h i j hjz, hi]; exact hj)

theorem zeros_rel {L : Lay} {zl : List Value} {Z : Array Value} (h : LRel L zl Z) (hz : 0 < zl.length) (n : Nat) : LRel L (List.replicate n zl).flatten ((Array.range (n * zl.length)).map fun k => Z[k % Z.size]!) := by
  have hl : ∀ row ∈ List.replicate n zl, row.length = zl.length := fun row hr => by rw [List.eq_of_mem_replicate hr]
  refine ⟨by rw [flat_length _ hl]; simp, fun k v hk => ?_⟩
  have hk1 : k < n * zl.length := by have := (List.getElem?_eq_some_iff.1 hk).1; rw [flat_length _ hl] at this; simpa using this
  have hd : k / zl.length < n := by rw [Nat.div_lt_iff_lt_mul hz]; exact hk1
  have hm : k % zl.length < zl.length := Nat.mod_lt _ hz
  have e : k / zl.length * zl.length + k % zl.length = k := by rw [Nat.mul_comm]; exact Nat.div_add_mod k _
  have g := flat_get _ hl (k / zl.length) (k % zl.length) hm
  rw [e, hk, List.getElem?_replicate, if_pos hd] at g
  obtain ⟨V, a, b⟩ := h.2 _ v g.symm
  refine ⟨V, ?_, b⟩
  rw [Array.getElem?_map, Array.getElem?_range, if_pos hk1]
  simp only [Option.map_some]
  rw [← h.1, getElem!_def, a]

section
variable {P : Program} {nt : Nat} {o : Oper} {st : St}

/-- A slice over a new object. -/
theorem newSlice_sound {K : Value → St → Prop} {rows : List (List Value)} {z len cp : Nat} {n c : Nat} (hK : K (.slice (some ⟨st.h.n, 0, some z⟩) n c) { st with h := st.h.push ⟨rows, z, true⟩ }) (hn : n ≤ cp) (hc : c = 0 ∨ c = cp + 1) (hlen : ∀ row ∈ rows, row.length = z) (hl : len = cp)
    (run : ∀ (L : Lay) (lam : List Nat) (a : Act), Known L lam st.t a.tmps → ∃ (cs : Array Value) (ty : TypeId), cs.size = cp * z ∧ (∀ (i : Nat) (row : List Value), rows[i]? = some row → ∀ (j : Nat) (v : Value), row[j]? = some v → ∃ V, cs[i * z + j]? = some V ∧ VRel L v V) ∧
      ∀ w, (execOp a.eval o).run P w = .ok (.value (.slice (some ⟨w.heap.size, 0, none⟩) n cp)) (w.alloc (.cells cs ty))) : ∃ v st', K v st' ∧ OpSem P nt o st v st' := by
  subst hl
  refine ⟨_, _, hK, rfl, fun L F R w0 w lam a r _ next Q hnx => ?_⟩
  obtain ⟨cs, ty, hsz, hr, hrun⟩ := run L lam a r.known
  have key := r.heap (o := ⟨rows, z, true⟩) (cs := cs) ty (0, 0) (.inl (Nat.le_refl _)) rfl (fun i row hi => hlen row (List.mem_of_getElem? hi)) hr
  unfold Oper.wp
  rw [hrun w, Oper.upon_value]
  refine hnx _ _ _ lam (.inr (.of (VRel.slice (s := ⟨w.heap.size, 0, z, cs.size, true⟩) (if_pos rfl) rfl hn (.inr (by simp)) (fun _ => ?_) hc))) key.2 (List.prefix_refl _) key.1
  show 0 + (0 + len) * z ≤ cs.size
  rw [hsz, Nat.zero_add, Nat.zero_add]; exact Nat.le_refl _

theorem buildSlice_sound {t : TypeId} {len : Nat} {ps : Array (Nat × Operand)} {K : Value → St → Prop} (ho : o.op = .buildSlice t len ps) (h : vcBuildSlice P t len (ps.map fun x => (x.1, ev st.t x.2)).toList st K) : ∃ v st', K v st' ∧ OpSem P nt o st v st' := by
  unfold vcBuildSlice at h
  split at h
  case h_2 => exact h.elim
  rename_i e hu
  split at h
  case h_2 => exact h.elim
  rename_i z zv hz hzv
  obtain ⟨hq, h⟩ := bs_false h
  simp only [Bool.and_eq_true, decide_eq_true_eq] at hq
  obtain ⟨⟨⟨hp, hzl⟩, hz0⟩, hbig⟩ := hq
  split at h
  case h_2 => exact h.elim
  rename_i rows hf
  have hrep : ∀ row ∈ List.replicate len (cellsL zv), row.length = z := fun row hr => by rw [List.eq_of_mem_replicate hr]; exact hzl
  obtain ⟨hfl, hlen, hrl⟩ := fillRows_fill _ _ _ hrep hf
  refine newSlice_sound (cp := len) (len := len) h (Nat.le_refl _) (.inr rfl) hlen rfl fun L lam a kn => ?_
  have hzc := cells_rel (VRel.plain (L := L) hp)
  have hZ : LRel L (cellsL zv) zv.cells := .of hzc.1 hzc.2
  have hbase := zeros_rel hZ (by omega) len
  rw [hzl] at hbase
  obtain ⟨B, hB, hR⟩ := fill_rel (L := L) _ _ _ _ rows.flatten hfl hbase (parts_rel kn ps).1 (parts_rel kn ps).2
  refine ⟨B, e, ?_, FRel.of_flat hlen hR, fun w => ?_⟩
  · rw [← hR.1, flat_length rows hlen, hrl]; simp
  · have h1 : ¬ len * z > 2 ^ 24 := by omega
    unfold execOp; rw [ho]
    by_cases h0 : len * z = 0
    · have hl0 : len = 0 := by rcases Nat.mul_eq_zero.1 h0 with h2 | h2; exact h2; omega
      subst hl0
      have hr0 : Array.range 0 = #[] := rfl
      simp only [Nat.zero_mul, hr0, Array.map_empty] at hB
      simp [Instr.buildSlice, run_underlying hu, size_run hz, hr0] at hB ⊢
      rw [hB]; simp [run_newRow']
    · have h0' : ¬ (len = 0 ∨ z = 0) := fun h2 => h0 (Nat.mul_eq_zero.2 h2)
      simp [Instr.buildSlice, run_underlying hu, size_run hz, zero_run hzv, h1] at hB ⊢
      rw [hB]; simp [run_newRow']
      intro h2; exact absurd (Nat.mul_eq_zero.1 h2) h0'

theorem make_sound {t : TypeId} {x y : Operand} {K : Value → St → Prop} (ho : o.op = .makeSlice t x y) (h : vcMake P t (ev st.t x) (ev st.t y) st K) : ∃ v st', K v st' ∧ OpSem P nt o st v st' := by
  unfold vcMake at h
  split at h
  case h_2 => exact h.elim
  rename_i k1 m k2 n hx hy
  split at h
  case h_2 => exact h.elim
  rename_i e hu
  split at h
  case h_2 => exact h.elim
  rename_i z zv hz hzv
  obtain ⟨hq, h0, h1, h2, h⟩ := bs_false h
  simp only [Bool.and_eq_true, decide_eq_true_eq] at hq
  obtain ⟨⟨⟨hp, hzl⟩, hz0⟩, hb0⟩ := hq
  have hrep : ∀ row ∈ List.replicate m.toNat (cellsL zv), row.length = z := fun row hr => by rw [List.eq_of_mem_replicate hr]; exact hzl
  refine newSlice_sound (cp := n.toNat) (len := n.toNat) h (by omega) (.inr rfl) hrep rfl fun L lam a kn => ?_
  have hzc := cells_rel (VRel.plain (L := L) hp)
  have hZ : LRel L (cellsL zv) zv.cells := .of hzc.1 hzc.2
  have hbase := zeros_rel hZ (by omega) n.toNat
  rw [hzl] at hbase
  have hrepn : ∀ row ∈ List.replicate n.toNat (cellsL zv), row.length = z := fun row hr => by rw [List.eq_of_mem_replicate hr]; exact hzl
  refine ⟨(Array.range (n.toNat * z)).map fun k => zv.cells[k % zv.cells.size]!, e, by simp, fun i row hi j v hj => ?_, fun w => ?_⟩
  · have him : i < m.toNat := by have := (List.getElem?_eq_some_iff.1 hi).1; simpa using this
    refine FRel.of_flat hrepn hbase i row ?_ j v hj
    rw [List.getElem?_replicate, if_pos him] at hi
    rw [List.getElem?_replicate, if_pos (by omega)]; exact hi
  · obtain ⟨ti, hti, hbt⟩ : ∃ ti, P.info? e = some ti ∧ ti.bytes = bytesOf P e := by
      unfold szOf at hz
      cases hi : P.info? e with
      | none => rw [hi] at hz; cases hz
      | some ti => exact ⟨ti, rfl, by simp [bytesOf, hi]⟩
    have hn47 : n ≤ 140737488355328 := by
      have : n * 1 ≤ n * (bytesOf P e : Int) := Int.mul_le_mul_of_nonneg_left (by omega) (by omega)
      omega
    have wn : IntKind.i64.wrap n = n := IntWalk.i64_in _ (by omega)
    have wm : IntKind.i64.wrap m = m := IntWalk.i64_in _ (by omega)
    have hbn : ¬ ((bytesOf P e : Int) * n > 2 ^ 48) := by rw [Int.mul_comm]; omega
    have hbn' : ¬ (281474976710656 < (bytesOf P e : Int) * n) := by rw [Int.mul_comm]; omega
    have ask : ∀ (b : Nat) (w : World), (askRoom b).run P w = .ok () w := by
      intro b w; unfold askRoom; split <;> rfl
    have hn0 : ¬ n < 0 := by omega
    have hm0 : ¬ m < 0 := by omega
    have hmn : ¬ m > n := by omega
    have hcond : ¬ (((decide (n < 0) || decide ((ti.bytes : Int) * n > 2 ^ 48)) || decide (m < 0)) || decide (m > n)) = true := by
      rw [hbt]; simp only [Bool.or_eq_true, decide_eq_true_eq]; omega
    unfold execOp; rw [ho]
    by_cases hn : n.toNat * z = 0
    · have this : n.toNat = 0 := by rcases Nat.mul_eq_zero.1 hn with h3 | h3; exact h3; omega
      have hr0 : ∀ (f : Nat → Value), Array.map f (Array.range 0) = #[] := fun f => by simp
      simp [hr0, Instr.makeSlice, run_underlying hu, kn.int hx, kn.int hy, asInt, asIntOf, typeInfo, hti, wn, wm, hbt, hbn', hn0, hm0, hmn, ask, size_run hz, hn, this, run_newRow']
    · simp [Instr.makeSlice, run_underlying hu, kn.int hx, kn.int hy, asInt, asIntOf, typeInfo, hti, wn, wm, hbt, hbn', hn0, hm0, hmn, ask, size_run hz, hn, zero_run hzv, run_newRow']

theorem bytes_fold (l : List UInt8) : ∀ (r : ByteArray), ((l.map fun b => ((b.toNat : Nat) : Int)).foldl (fun (r : ByteArray) (n : Int) => r.push (UInt8.ofNat n.toNat)) r).data.toList = r.data.toList ++ l := by
  induction l with
  | nil => intro r; simp
  | cons b l ih =>
    intro r
    simp only [List.map_cons, List.foldl_cons, ih]
    simp [ByteArray.push]

theorem exec_conv {src dst : TypeId} {x : Operand} (ho : o.op = .convert src dst x) {a : Act} {w w' : World} {V : Value} (h : (convert src dst (a.eval x)).run P w = .ok V w') : (execOp a.eval o).run P w = .ok (.value V) w' := by
  unfold execOp; rw [ho]; simp [h]

theorem b2s_sound {src dst : TypeId} {x : Operand} {K : Value → Prop} (ho : o.op = .convert src dst x) (h : vcB2S P src dst (ev st.t x) st K) : ∃ v, K v ∧ OpSem P nt o st v st := by
  unfold vcB2S at h
  split at h
  case h_2 => exact h.elim
  rename_i ad n c hx
  split at h
  case h_2 => exact h.elim
  rename_i e hs hd
  split at h
  case h_2 => exact h.elim
  rename_i he
  obtain ⟨s, hr, h⟩ := h
  refine ⟨_, h, .reads fun L F R w0 w lam a r => ⟨_, .inr (.of (.string s)), ?_⟩⟩
  have rl : VRel L (.slice ad n c) (a.eval x) := r.known.of hx (by simp [undef])
  refine exec_conv ho ?_
  generalize a.eval x = X at rl ⊢
  cases rl with
  | sliceN =>
    have hs0 : s = ByteArray.empty := by
      have e0 : bytesRows s = [] := (Option.some.inj hr).symm
      have e1 : s.data.toList = [] := List.map_eq_nil_iff.1 e0
      cases s with | mk d => congr 1; exact Array.toList_inj.1 e1
    subst hs0
    simp [convert, run_underlying hs, run_underlying hd, run_underlying he, Conv.bytesToString]
  | slice hl hez hnC hA room hc =>
    rename_i l i e' C q A
    obtain ⟨hes, hlen, cs, hF, hcell⟩ := r.rel.rows hr hl
    have hn : n = s.data.toList.length := by rw [← hlen]; simp [bytesRows]
    have hcs : cs = s.data.toList.map fun b => .int .u8 b.toNat := by
      by_cases h0 : n = 0
      · have e1 : s.data.toList = [] := List.eq_nil_of_length_eq_zero (by omega)
        have e2 : cs = [] := List.eq_nil_of_length_eq_zero (by rw [hF.2.1, hlen, h0]; simp)
        rw [e2, e1]; rfl
      · have e1 : e' = 1 := by
          have hlt : 0 < s.data.toList.length := by omega
          have := hF.1 [.int .u8 (s.data.toList[0]).toNat] (by simp only [bytesRows, List.mem_map]; exact ⟨_, List.getElem_mem hlt, rfl⟩)
          simpa using this.symm
        subst e1
        apply List.ext_getElem?
        intro k
        by_cases hk : k < n
        · have hk' : k < s.data.toList.length := by omega
          have hrow : (bytesRows s)[k]? = some [.int .u8 (s.data.toList[k]).toNat] := by
            simp only [bytesRows, List.getElem?_map, List.getElem?_eq_getElem hk', Option.map_some]
          obtain ⟨V, a1, a2⟩ := hF.2.2 k _ hrow 0 _ rfl
          rw [Nat.mul_one, Nat.add_zero] at a1
          cases a2
          rw [a1, List.getElem?_map, List.getElem?_eq_getElem hk']; rfl
        · rw [List.getElem?_eq_none (by rw [hF.2.1, hlen]; omega), List.getElem?_eq_none (by rw [List.length_map]; omega)]
    have hload : (loadCells A n).run P w = .ok (cs.toArray) w := by
      have hl' : cs.length = n := by rw [hcs, List.length_map]; exact hn.symm
      by_cases h0 : n = 0
      · have : cs = [] := List.eq_nil_of_length_eq_zero (by omega)
        subst this; subst h0
        simpa using run_loadCells_list (P := P) w A [] (by simp)
      · have e1 : e' = 1 := by
          have := hF.2.1
          rw [hl', hlen] at this
          have h2 : n * e' = n * 1 := by omega
          exact Nat.eq_of_mul_eq_mul_left (by omega) h2
        have := run_loadCells_list (P := P) w A cs (fun j v hj => by
          rw [hA.resolve_left (by omega), add_addr]
          exact hcell j v hj)
        rw [hl'] at this; exact this
    have hcs' : cs = (s.data.toList.map fun b => ((b.toNat : Nat) : Int)).map (Value.int .u8) := by rw [hcs, List.map_map]; rfl
    rw [hcs'] at hload
    have hrun := run_bytesToString (P := P) w A n C _ hload
    have e3 : ((s.data.toList.map fun b => ((b.toNat : Nat) : Int)).foldl (fun (r : ByteArray) (n : Int) => r.push (UInt8.ofNat n.toNat)) ByteArray.empty) = s := by
      have := bytes_fold s.data.toList ByteArray.empty
      cases hq : ((s.data.toList.map fun b => ((b.toNat : Nat) : Int)).foldl (fun (r : ByteArray) (n : Int) => r.push (UInt8.ofNat n.toNat)) ByteArray.empty) with
      | mk d =>
        rw [hq] at this
        have h5 : ByteArray.empty.data.toList = [] := rfl
        rw [h5, List.nil_append] at this
        cases s with
        | mk d' => congr 1; exact Array.toList_inj.1 this
    rw [e3] at hrun
    simp [run_convert_bytes_string w src dst e (some A) n C hs he hd, hrun]

theorem s2b_sound {src dst : TypeId} {x : Operand} {K : Value → St → Prop} (ho : o.op = .convert src dst x) (h : vcS2B P src dst (ev st.t x) st K) : ∃ v st', K v st' ∧ OpSem P nt o st v st' := by
  unfold vcS2B at h
  split at h
  case h_2 => exact h.elim
  rename_i s hx
  split at h
  case h_2 => exact h.elim
  rename_i u e hs hd
  split at h
  case h_2 => exact h.elim
  rename_i he
  refine ⟨_, _, h, rfl, fun L F R w0 w lam a r _ next Q hn => ?_⟩
  have hrun := Lib.run_convert_string_bytes (P := P) w src dst e s hs hd he
  have hw : Lib.bytesWorld w e s = w.drew.alloc (.cells (Lib.bytesCells w e s) e ((Lib.bytesCells w e s).size, (Lib.bytesCells w e s).size + 1)) := by
    unfold Lib.bytesWorld World.freeze World.alloc
    rw [if_neg (by omega)]
    congr 1
    apply Array.ext
    · simp
    · intro i h1 h2
      simp only [Array.getElem_modify, Array.getElem_push]
      have hs' : w.drew.heap.size = w.heap.size := rfl
      by_cases hi : w.heap.size = i
      · subst hi; simp
      · rw [if_neg hi]
        have h3 : i < w.drew.heap.size := by rw [Array.size_push] at h2; omega
        rw [dif_pos h3, dif_pos h3]
  have hsz : (Lib.bytesCells w e s).size = grownCap w s.size 0 e := by
    have := grownCap_ge w s.size 0 e
    simp only [Lib.bytesCells, Array.size_append, Array.size_map, Array.size_replicate]
    have h6 : s.data.size = s.size := rfl
    omega
  have rd : StRel L F R w0 w.drew lam nt st a.tmps := ⟨r.rel.drew _, r.tsz, r.llen, r.lnd, r.lF, r.lrw, r.lblk, r.slots⟩
  have key := rd.heap (o := ⟨bytesRows s, 1, true⟩) (cs := Lib.bytesCells w e s) e ((Lib.bytesCells w e s).size, (Lib.bytesCells w e s).size + 1) (.inr (Nat.le_refl _)) rfl
    (fun i row hi => by
      simp only [bytesRows, List.getElem?_map, Option.map_eq_some_iff] at hi
      obtain ⟨b, _, rfl⟩ := hi; rfl)
    (fun i row hi j v hj => by
      simp only [bytesRows, List.getElem?_map, Option.map_eq_some_iff] at hi
      obtain ⟨b, hb, rfl⟩ := hi
      cases j with
      | zero =>
        simp at hj; subst hj
        refine ⟨_, ?_, .int _ _⟩
        have hlt : i < s.data.size := by have := (List.getElem?_eq_some_iff.1 hb).1; simpa using this
        rw [Nat.mul_one, Nat.add_zero]
        unfold Lib.bytesCells
        rw [Array.getElem?_append_left (by simpa using hlt), Array.getElem?_map]
        rw [Array.getElem?_toList] at hb
        rw [hb]; rfl
      | succ j => simp at hj)
  unfold Oper.wp
  have hex : (execOp a.eval o).run P w = .ok (.value (.slice (some ⟨w.heap.size, 0, none⟩) s.size (grownCap w s.size 0 e))) (Lib.bytesWorld w e s) := by
    refine exec_conv ho ?_
    rw [r.known.string hx]; exact hrun
  rw [hex, Oper.upon_value, hw]
  refine hn _ _ _ lam (.inr (.of (VRel.slice (s := ⟨w.heap.size, 0, 1, (Lib.bytesCells w e s).size, true⟩) (if_pos rfl) rfl (grownCap_ge w s.size 0 e) (.inr (by simp)) (fun _ => ?_) (.inl rfl)))) key.2 (List.prefix_refl _) key.1
  show 0 + (0 + grownCap w s.size 0 e) * 1 ≤ (Lib.bytesCells w e s).size
  rw [hsz]; omega
end
end Go.Abs
