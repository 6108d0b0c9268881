/- Operations that make and write memory: variables, loads, stores. -/
import Derived.Test.YtgcckeglmhbnmaaA4
import Derived.Laws.Cells
import Derived.Laws.CopyRow
namespace Go.Abs

/-- A cut of a list written over. -/
def setRange (row : List Value) (c : Nat) (vs : List Value) : List Value := row.take c ++ vs ++ row.drop (c + vs.length)

theorem setRange_length {row : List Value} {c : Nat} {vs : List Value} (h : c + vs.length ≤ row.length) : (setRange row c vs).length = row.length := by
  simp only [setRange, List.length_append, List.length_take, List.length_drop]; omega

theorem setRange_get {row : List Value} {c : Nat} {vs : List Value} (h : c + vs.length ≤ row.length) (j : Nat) :
    (setRange row c vs)[j]? = if j < c then row[j]? else if j < c + vs.length then vs[j - c]? else row[j]? := by
  unfold setRange
  have hc : (row.take c).length = c := by rw [List.length_take]; omega
  by_cases h1 : j < c
  · rw [if_pos h1, List.append_assoc, List.getElem?_append_left (by omega), List.getElem?_take, if_pos h1]
  · rw [if_neg h1, List.append_assoc, List.getElem?_append_right (by omega), hc]
    by_cases h2 : j < c + vs.length
    · rw [if_pos h2, List.getElem?_append_left (by omega)]
    · rw [if_neg h2, List.getElem?_append_right (by omega), List.getElem?_drop]; congr 1; omega

def oneLeaf (v : Value) : Bool := match v with | .agg _ => false | .tuple _ => false | .complex _ _ _ => false | _ => true

theorem oneLeaf_rel {L : Lay} {v V : Value} (h : VRel L v V) (hv : oneLeaf v = true) : V.oneCell' = true := by
  cases h <;> first | rfl | cases hv

/-- Cells of a value. -/
def cellsL : Value → List Value
  | .agg cs => cs.toList
  | v => [v]

theorem cells_rel {L : Lay} {v V : Value} (h : VRel L v V) : (cellsL v).length = V.cells.size ∧ ∀ (j : Nat) (x X : Value), (cellsL v)[j]? = some x → V.cells[j]? = some X → VRel L x X := by
  have one : ∀ (x X : Value), VRel L x X → [x].length = #[X].size ∧ ∀ (j : Nat) (y Y : Value), [x][j]? = some y → #[X][j]? = some Y → VRel L y Y := by
    intro x X hx
    refine ⟨rfl, fun j y Y h1 h2 => ?_⟩
    cases j with
    | zero => simp at h1 h2; subst h1; subst h2; exact hx
    | succ j => simp at h1
  cases h with
  | agg hs hv => exact agg_list ⟨hs, hv⟩
  | bool b => exact one _ _ (.bool b)
  | int k n => exact one _ _ (.int k n)
  | string s => exact one _ _ (.string s)
  | ptrN => exact one _ _ .ptrN
  | ptr h => exact one _ _ (.ptr h)
  | sliceN => exact one _ _ .sliceN
  | slice h he hn ha room hc => exact one _ _ (.slice h he hn ha room hc)
  | fn f hs hv hs2 hv2 => exact one _ _ (.fn f hs hv hs2 hv2)
  | fnN => exact one _ _ .fnN
  | ifN => exact one _ _ .ifN
  | iface t h => exact one _ _ (.iface t h)
  | tuple hs hv => exact one _ _ (.tuple hs hv)

/-- A list stands for an array's cells. -/
def LRel (L : Lay) (vs : List Value) (A : Array Value) : Prop := vs.length = A.size ∧ ∀ (j : Nat) (v : Value), vs[j]? = some v → ∃ V, A[j]? = some V ∧ VRel L v V

theorem LRel.of {L : Lay} {vs : List Value} {A : Array Value} (h : vs.length = A.size) (h2 : ∀ (j : Nat) (x X : Value), vs[j]? = some x → A[j]? = some X → VRel L x X) : LRel L vs A :=
  ⟨h, fun j v hv => by
    have hlt : j < A.size := by have := (List.getElem?_eq_some_iff.1 hv).1; omega
    exact ⟨A[j], Array.getElem?_eq_getElem hlt, h2 j v _ hv (Array.getElem?_eq_getElem hlt)⟩⟩
theorem LRel.two {L : Lay} {vs : List Value} {A : Array Value} (h : LRel L vs A) (j : Nat) (v V : Value) (hv : vs[j]? = some v) (hV : A[j]? = some V) : VRel L v V := by
  obtain ⟨X, h1, h2⟩ := h.2 j v hv
  obtain rfl := Option.some.inj (h1.symm.trans hV); exact h2

theorem size_lt_of_some {w : World} {b : Nat} {x : Obj} (h : w.heap[b]? = some x) : b < w.heap.size := (Array.getElem?_eq_some_iff.1 h).1

theorem StRel.lam_lt {L : Lay} {F R : Nat → Prop} {w0 w : World} {lam : List Nat} {nt : Nat} {st : St} {T : Array Value} (r : StRel L F R w0 w lam nt st T) {b : Nat} (hb : b ∈ lam) : b < w.heap.size := by
  obtain ⟨i, hi, rfl⟩ := List.getElem_of_mem hb
  have hi' : i < st.S.length := by rw [← r.llen]; exact hi
  obtain ⟨cs, ty, h, _⟩ := r.lblk i lam[i] st.S[i] (List.getElem?_eq_getElem hi) (List.getElem?_eq_getElem hi')
  exact size_lt_of_some h

/-- Everything goes on when a block is made that no one stands for. -/
theorem StRel.skip {L : Lay} {F R : Nat → Prop} {w0 w : World} {lam : List Nat} {nt : Nat} {st : St} {T : Array Value} (r : StRel L F R w0 w lam nt st T) (x : Obj) : StRel L F R w0 (w.alloc x) lam nt st T :=
  ⟨r.rel.skipAlloc x, r.tsz, r.llen, r.lnd, r.lF, r.lrw, fun i b row h1 h2 => let ⟨cs, ty, a, c⟩ := r.lblk i b row h1 h2; ⟨cs, ty, (alloc_old w x (size_lt_of_some a)).trans a, c⟩, r.slots⟩

/-- A new local. -/
theorem StRel.local {L : Lay} {F R : Nat → Prop} {w0 w : World} {lam : List Nat} {nt : Nat} {st : St} {T : Array Value} (r : StRel L F R w0 w lam nt st T) {row : List Value} {cs : Array Value} (ty : TypeId) (hr : LRel L row cs) :
    StRel L F R w0 (w.alloc (.cells cs ty)) (lam ++ [w.heap.size]) nt { st with S := st.S ++ [row] } T := by
  have s := r.skip (.cells cs ty)
  have hp : lam <+: lam ++ [w.heap.size] := List.prefix_append _ _
  have hnew : w.heap.size ∉ lam := fun h => Nat.lt_irrefl _ (r.lam_lt h)
  refine ⟨s.rel, r.tsz, by simp [r.llen], ?_, ?_, ?_, ?_, fun i => (r.slots i).mono (fun _ _ h => h) hp⟩
  · rw [List.nodup_append]
    exact ⟨r.lnd, by simp, fun a ha b hb => by simp at hb; subst hb; exact fun e => hnew (e ▸ ha)⟩
  · intro b hb
    rcases List.mem_append.1 hb with h | h
    · exact r.lF b h
    · simp at h; subst h
      intro hF
      have h1 := r.rel.inF _ hF; have h2 := r.rel.keeps.size; omega
  · intro l o q h1 h2 h3 hm
    rcases List.mem_append.1 hm with h | h
    · exact r.lrw l o q h1 h2 h3 h
    · simp at h
      have := (r.rel.obj l o q h1 h2).lt; omega
  · intro i b rw' h1 h2
    by_cases hi : i < lam.length
    · rw [List.getElem?_append_left hi] at h1
      rw [List.getElem?_append_left (by rw [← r.llen]; exact hi)] at h2
      exact s.lblk i b rw' h1 h2
    · rw [List.getElem?_append_right (by omega)] at h1
      rw [List.getElem?_append_right (by rw [← r.llen]; omega)] at h2
      have e1 : i - lam.length = 0 := by
        have := (List.getElem?_eq_some_iff.1 h1).1; simp at this; omega
      have e2 : i - st.S.length = 0 := by rw [← r.llen]; exact e1
      rw [e1] at h1; rw [e2] at h2
      simp at h1 h2; subst h1; subst h2
      exact ⟨cs, ty, alloc_new w _, hr.1.symm, hr.2⟩

/-- A new object. -/
theorem StRel.heap {L : Lay} {F R : Nat → Prop} {w0 w : World} {lam : List Nat} {nt : Nat} {st : St} {T : Array Value} (r : StRel L F R w0 w lam nt st T) {o : AObj} {cs : Array Value} (ty : TypeId) (fr : Nat × Nat) (hfr : fr.2 ≤ fr.1 ∨ cs.size ≤ fr.1) (hrw : o.rw = true)
    (hlen : ∀ (i : Nat) (row : List Value), o.rows[i]? = some row → row.length = o.esz)
    (hcell : ∀ (i : Nat) (row : List Value), o.rows[i]? = some row → ∀ (j : Nat) (v : Value), row[j]? = some v → ∃ V, cs[i * o.esz + j]? = some V ∧ VRel L v V) :
    StRel (L.set st.h.n ⟨w.heap.size, 0, o.esz, cs.size, o.rw⟩) F R w0 (w.alloc (.cells cs ty fr)) lam nt { st with h := st.h.push o } T ∧ Ext L st.h (L.set st.h.n ⟨w.heap.size, 0, o.esz, cs.size, o.rw⟩) (st.h.push o) := by
  have hle := Lay.le_set (L := L) (r.rel.unl st.h.n (Nat.le_refl _)) ⟨w.heap.size, 0, o.esz, cs.size, o.rw⟩
  have s := r.skip (.cells cs ty fr)
  refine ⟨⟨r.rel.push fr hfr hrw hlen hcell, r.tsz, r.llen, r.lnd, r.lF, ?_, ?_, fun i => (r.slots i).mono hle (List.prefix_refl _)⟩, ⟨Nat.le_succ _, fun l hl => if_neg (by omega)⟩⟩
  · intro l x q h1 h2 h3 hm
    by_cases e : l = st.h.n
    · subst e
      obtain rfl := Option.some.inj ((if_pos rfl).symm.trans h2)
      exact Nat.lt_irrefl _ (r.lam_lt hm)
    · exact r.lrw l x q ((AHeap.get_push_ne e).symm.trans h1) ((if_neg e).symm.trans h2) h3 hm
  · intro i b row h1 h2
    obtain ⟨c, t, a, d, f⟩ := s.lblk i b row h1 h2
    exact ⟨c, t, a, d, fun j v hv => let ⟨V, x, y⟩ := f j v hv; ⟨V, x, y.mono hle⟩⟩

def zeroOf (P : Program) (t : TypeId) : Option Value := (P.info? t).bind (·.zero)

def vcNew (esc : Bool) (row : List Value) (st : St) (K : Value → St → Prop) : Prop :=
  match esc with
  | true => K (.pointer (some ⟨st.h.n, 0, some 0⟩)) { st with h := st.h.push ⟨[row], row.length, true⟩ }
  | false => K (.complex .f32 st.S.length 0) { st with S := st.S ++ [row] }

def vcAlloc (P : Program) (esc : Bool) (t : TypeId) (st : St) (K : Value → St → Prop) : Prop :=
  match zeroOf P t with
  | some z => bs (plain z) (vcNew esc (cellsL z) st K) False
  | none => False

def vcBox (esc : Bool) (v : Value) (st : St) (K : Value → St → Prop) : Prop := bs (okv v) (vcNew esc (cellsL v) st K) False

section
variable {P : Program} {nt : Nat} {o : Oper} {st : St} {K : Value → St → Prop}

theorem new_sound {esc : Bool} {row : List Value} (h : vcNew esc row st K)
    (run : ∀ (L : Lay) (lam : List Nat) (a : Act), Known L lam st.t a.tmps → ∃ (cs : Array Value) (ty : TypeId), LRel L row cs ∧ ∀ w, (execOp a.eval o).run P w = .ok (.value (.pointer (some ⟨w.heap.size, 0, none⟩))) (w.alloc (.cells cs ty))) :
    ∃ v st', K v st' ∧ OpSem P nt o st v st' := by
  unfold vcNew at h
  split at h
  · refine ⟨_, _, h, rfl, fun L F R w0 w lam a r _ next Q hn => ?_⟩
    obtain ⟨cs, ty, hl, hr⟩ := run L lam a r.known
    have key := r.heap (o := ⟨[row], row.length, true⟩) (cs := cs) ty (0, 0) (.inl (Nat.le_refl _)) rfl
      (fun i rw' hi => by cases i <;> simp at hi; subst hi; rfl)
      (fun i rw' hi j v hv => by
        cases i with
        | zero => simp at hi; subst hi; simpa using hl.2 j v hv
        | succ i => simp at hi)
    unfold Oper.wp
    rw [hr w, Oper.upon_value]
    refine hn _ _ _ lam (.inr (.of ?_)) key.2 (List.prefix_refl _) key.1
    have := VRel.ptr (L := L.set st.h.n ⟨w.heap.size, 0, row.length, cs.size, true⟩) (l := st.h.n) (r := 0) (c := 0) (s := ⟨w.heap.size, 0, row.length, cs.size, true⟩) (if_pos rfl)
    simpa using this
  · refine ⟨_, _, h, rfl, fun L F R w0 w lam a r _ next Q hn => ?_⟩
    obtain ⟨cs, ty, hl, hr⟩ := run L lam a r.known
    unfold Oper.wp
    rw [hr w, Oper.upon_value]
    refine hn _ _ L (lam ++ [w.heap.size]) (.inr ⟨w.heap.size, ?_, rfl⟩) (Ext.refl _ _) (List.prefix_append _ _) (r.local ty hl)
    rw [← r.llen, List.getElem?_append_right (Nat.le_refl _), Nat.sub_self]; rfl

theorem run_newRow' (t : TypeId) (cs : Array Value) (w : World) : (newRow t cs).run P w = .ok ⟨w.heap.size, 0, none⟩ (w.alloc (.cells cs t)) := by
  rfl

theorem zero_run {t : TypeId} {z : Value} (h : zeroOf P t = some z) (w : World) : (zeroValue t).run P w = .ok z w := by
  unfold zeroOf at h
  cases hi : P.info? t with
  | none => rw [hi] at h; cases h
  | some i => rw [hi] at h; simp at h; simp [zeroValue, typeInfo, hi, h]

theorem alloc_sound {esc : Bool} {t : TypeId} (ho : o.op = .alloc t) (h : vcAlloc P esc t st K) : ∃ v st', K v st' ∧ OpSem P nt o st v st' := by
  unfold vcAlloc at h
  split at h
  · rename_i z hz
    obtain ⟨hp, h⟩ := bs_false h
    refine new_sound h fun L lam a kn => ⟨z.cells, t, ?_, fun w => ?_⟩
    · have := cells_rel (VRel.plain (L := L) hp); exact .of this.1 this.2
    · unfold execOp; rw [ho]; simp [Instr.alloc, zero_run hz, newVar, run_newRow']
  · exact h.elim

theorem box_sound {esc : Bool} {t : TypeId} {x : Operand} (ho : o.op = .box t x) (h : vcBox esc (ev st.t x) st K) : ∃ v st', K v st' ∧ OpSem P nt o st v st' := by
  obtain ⟨hv, h⟩ := bs_false h
  refine new_sound h fun L lam a kn => ⟨(a.eval x).cells, t, ?_, fun w => ?_⟩
  · have := cells_rel (kn.ok hv); exact .of this.1 this.2
  · unfold execOp; rw [ho]; simp [Instr.box, newVar, run_newRow']
end

/-- Kinds of cells, for what is read. -/
inductive LK where
  | b | i (k : IntKind) | s | sl | p | v

def exL : List LK → (List Value → Prop) → Prop
  | [], K => K []
  | .b :: r, K => ∃ x : Bool, exL r fun vs => K (.bool x :: vs)
  | .i k :: r, K => ∃ x : Int, exL r fun vs => K (.int k x :: vs)
  | .s :: r, K => ∃ x : ByteArray, exL r fun vs => K (.string x :: vs)
  | .sl :: r, K => ∃ (a : Option Addr) (n c : Nat), exL r fun vs => K (.slice a n c :: vs)
  | .p :: r, K => ∃ a : Option Addr, exL r fun vs => K (.pointer a :: vs)
  | .v :: r, K => ∃ x : Value, exL r fun vs => K (x :: vs)

theorem exL_mono : ∀ {ks : List LK} {K K' : List Value → Prop}, (∀ vs, K vs → K' vs) → exL ks K → exL ks K'
  | [], _, _, hk, h => hk _ h
  | .b :: _, _, _, hk, ⟨x, h⟩ => ⟨x, exL_mono (fun _ => hk _) h⟩
  | .i _ :: _, _, _, hk, ⟨x, h⟩ => ⟨x, exL_mono (fun _ => hk _) h⟩
  | .s :: _, _, _, hk, ⟨x, h⟩ => ⟨x, exL_mono (fun _ => hk _) h⟩
  | .sl :: _, _, _, hk, ⟨a, n, c, h⟩ => ⟨a, n, c, exL_mono (fun _ => hk _) h⟩
  | .p :: _, _, _, hk, ⟨x, h⟩ => ⟨x, exL_mono (fun _ => hk _) h⟩
  | .v :: _, _, _, hk, ⟨x, h⟩ => ⟨x, exL_mono (fun _ => hk _) h⟩

theorem exL_some : ∀ {ks : List LK} {K : List Value → Prop}, exL ks K → ∃ vs, K vs
  | [], _, h => ⟨_, h⟩
  | .b :: _, _, ⟨_, h⟩ => let ⟨_, h⟩ := exL_some h; ⟨_, h⟩
  | .i _ :: _, _, ⟨_, h⟩ => let ⟨_, h⟩ := exL_some h; ⟨_, h⟩
  | .s :: _, _, ⟨_, h⟩ => let ⟨_, h⟩ := exL_some h; ⟨_, h⟩
  | .sl :: _, _, ⟨_, _, _, h⟩ => let ⟨_, h⟩ := exL_some h; ⟨_, h⟩
  | .p :: _, _, ⟨_, h⟩ => let ⟨_, h⟩ := exL_some h; ⟨_, h⟩
  | .v :: _, _, ⟨_, h⟩ => let ⟨_, h⟩ := exL_some h; ⟨_, h⟩

/-- The kinds of a type's cells. -/
def leafs (P : Program) : Nat → TypeId → List LK
  | 0, _ => []
  | d + 1, t => match P.underlying t with
    | some .bool => [.b]
    | some (.int k) => [.i k]
    | some .string => [.s]
    | some (.slice _) => [.sl]
    | some (.pointer _) => [.p]
    | some (.struct fs) => fs.toList.flatMap fun f => leafs P d f.type
    | some (.array n e) => (List.replicate n (leafs P d e)).flatten
    | _ => [.v]

/-- Cells read out of a heap. -/
def AHeap.ld (h : AHeap) (l r c n : Nat) : Option (List Value) :=
  match h.get l with
  | some o => match o.rows[r]? with
    | some row => bif decide (c + n ≤ row.length) then some ((row.drop c).take n) else none
    | none => none
  | none => none

def AHeap.wr (h : AHeap) (l r c : Nat) (vs : List Value) : Option AHeap :=
  match h.get l with
  | some o => match o.rows[r]? with
    | some row => bif o.rw && decide (c + vs.length ≤ row.length) then some (h.put l (some { o with rows := o.rows.set r (setRange row c vs) })) else none
    | none => none
  | none => none

/-- How many cells are read. -/
def cnt (ag : Bool) (z : Nat) : Nat := match ag with | true => z | false => 1

def vcLoad (P : Program) (t : TypeId) (v : Value) (st : St) (K : Value → Prop) : Prop :=
  match aggOf P t, szOf P t with
  | some ag, some z => match v with
    | .complex .f32 i c => match st.S[i]? with
      | some row => bs (decide (c + (cnt ag z) ≤ row.length)) (K (mkV ag ((row.drop c).take (cnt ag z)))) False
      | none => False
    | .pointer (some ⟨l, r, some c⟩) => exL (leafs P 8 t) fun vs => st.h.ld l r c (cnt ag z) = some vs ∧ K (mkV ag vs)
    | _ => False
  | _, _ => False

def vcStore (P : Program) (t : TypeId) (a v : Value) (st : St) (K : Value → St → Prop) : Prop :=
  bs (okv v && (cellsL v).all oneLeaf && decide (szOf P t = some (cellsL v).length) && decide (0 < (cellsL v).length)) (match a with
    | .complex .f32 i c => match st.S[i]? with
      | some row => bs (decide (c + (cellsL v).length ≤ row.length)) (K undef { st with S := st.S.set i (setRange row c (cellsL v)) }) False
      | none => False
    | .pointer (some ⟨l, r, some c⟩) => ∃ h', st.h.wr l r c (cellsL v) = some h' ∧ K undef { st with h := h' }
    | _ => False) False

theorem load_cells {P : Program} {t : TypeId} {ag : Bool} {z : Nat} (ha : aggOf P t = some ag) (hz : szOf P t = some z) {L : Lay} {w : World} {A : Addr} {vs : List Value} (hn : vs.length = cnt ag z)
    (h : ∀ (j : Nat) (v : Value), vs[j]? = some v → ∃ V, w.cell? (A.add j) = some V ∧ VRel L v V) : ∃ V, VRel L (mkV ag vs) V ∧ (loadVar t A).run P w = .ok V w := by
  cases ag with
  | true =>
    have hn : vs.length = z := hn
    have : ∃ ds : List Value, ds.length = z ∧ ∀ (j : Nat) (v : Value), vs[j]? = some v → ∃ V, ds[j]? = some V ∧ w.cell? (A.add j) = some V ∧ VRel L v V := by
      refine ⟨(List.range z).map fun j => (w.cell? (A.add j)).getD undef, by simp, fun j v hv => ?_⟩
      obtain ⟨V, h1, h2⟩ := h j v hv
      have hlt : j < z := by have := (List.getElem?_eq_some_iff.1 hv).1; omega
      exact ⟨V, by simp [hlt, h1], h1, h2⟩
    obtain ⟨ds, hd, hx⟩ := this
    refine ⟨.agg ds.toArray, .agg (by simp; omega) fun i v V h1 h2 => ?_, ?_⟩
    · simp at h1 h2
      obtain ⟨X, a, _, b⟩ := hx i v h1
      obtain rfl := Option.some.inj (a.symm.trans h2); exact b
    · have := run_loadCells_list (P := P) w A ds (fun j v hv => by
        have hlt : j < vs.length := by have := (List.getElem?_eq_some_iff.1 hv).1; omega
        obtain ⟨X, a, b, _⟩ := hx j vs[j] (List.getElem?_eq_getElem hlt)
        obtain rfl := Option.some.inj (a.symm.trans hv); exact b)
      rw [hd] at this
      simp [loadVar, agg_run ha, size_run hz, this]
  | false =>
    match vs, hn with
    | [v], _ =>
      obtain ⟨V, h1, h2⟩ := h 0 v rfl
      refine ⟨V, h2, ?_⟩
      have e : A.add 0 = A := by simp [Addr.add]
      rw [e] at h1
      simp [loadVar, agg_run ha, Go.load, Sem.run, h1]

theorem Rel.ld {L : Lay} {F R : Nat → Prop} {w0 w : World} {h : AHeap} (r : Rel L F R w0 w h) {l i c n : Nat} {vs : List Value} (hl : h.ld l i c n = some vs) {s : Site} (hs : L l = some s) :
    vs.length = n ∧ ∀ (j : Nat) (v : Value), vs[j]? = some v → ∃ V, w.cell? ((⟨s.blk, s.base + i * s.esz + c, none⟩ : Addr).add j) = some V ∧ VRel L v V := by
  unfold AHeap.ld at hl
  split at hl
  case h_2 => cases hl
  rename_i o ho
  split at hl
  case h_2 => cases hl
  rename_i row hrow
  cases hc : decide (c + n ≤ row.length) with
  | false => rw [hc] at hl; cases hl
  | true =>
    rw [hc] at hl
    have hlt := of_decide_eq_true hc
    obtain rfl := Option.some.inj hl
    have ob := r.obj l o s ho hs
    refine ⟨by rw [List.length_take, List.length_drop]; omega, fun j v hv => ?_⟩
    rw [List.getElem?_take] at hv
    split at hv
    · rw [List.getElem?_drop] at hv
      obtain ⟨V, a, b⟩ := ob.cell i row hrow (c + j) v hv
      exact ⟨V, by rw [add_addr, Nat.add_assoc]; exact a, b⟩
    · cases hv

section
variable {P : Program} {nt : Nat} {o : Oper} {st : St}

theorem load_sound {t : TypeId} {x : Operand} {K : Value → Prop} (ho : o.op = .load t x) (h : vcLoad P t (ev st.t x) st K) : ∃ v, K v ∧ OpSem P nt o st v st := by
  unfold vcLoad at h
  split at h
  case h_2 => exact h.elim
  rename_i ag z ha hz
  split at h
  · rename_i i c hx
    split at h
    case h_2 => exact h.elim
    rename_i row hrow
    obtain ⟨hc, h⟩ := bs_false h
    have hc' := of_decide_eq_true hc
    refine ⟨_, h, .reads fun L F R w0 w lam a r => ?_⟩
    obtain ⟨b, hb, e⟩ := (r.known.of hx (by simp [undef])).lptr
    obtain ⟨cs, ty, hh, hsz, hv⟩ := r.lblk i b row hb hrow
    obtain ⟨V, hV, hr⟩ := load_cells ha hz (L := L) (w := w) (A := ⟨b, c, none⟩) (vs := (row.drop c).take (cnt ag z)) (by rw [List.length_take, List.length_drop]; omega) (fun j v hj => by
      rw [List.getElem?_take] at hj
      split at hj
      · rw [List.getElem?_drop] at hj
        obtain ⟨V, a1, a2⟩ := hv (c + j) v hj
        exact ⟨V, by rw [add_addr]; unfold World.cell?; rw [hh]; simpa using a1, a2⟩
      · cases hj)
    exact ⟨V, .inr (.of hV), by unfold execOp; rw [ho]; simp [e, Instr.loadAt, Instr.sureAddr, hr]⟩
  · rename_i l i c hx
    obtain ⟨vs, hl, h⟩ := exL_some h
    refine ⟨_, h, .reads fun L F R w0 w lam a r => ?_⟩
    obtain ⟨s, hs, e⟩ := (r.known.of hx (by simp [undef])).ptr
    have hld := r.rel.ld hl hs
    obtain ⟨V, hV, hr⟩ := load_cells ha hz hld.1 hld.2
    exact ⟨V, .inr (.of hV), by unfold execOp; rw [ho]; simp [e, Instr.loadAt, Instr.sureAddr, hr]⟩
  · exact h.elim
end
end Go.Abs
