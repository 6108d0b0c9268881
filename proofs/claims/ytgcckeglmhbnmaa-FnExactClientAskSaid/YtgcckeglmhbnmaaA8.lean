/- Slices: literals, make, append, copy; bytes and strings. -/
import Derived.Test.YtgcckeglmhbnmaaA7
import Derived.Laws.Append
namespace Go.Abs

/-- The rows that a slice shows. -/
def AHeap.rowsOf (h : AHeap) (v : Value) : Option (List (List Value)) :=
  match v with
  | .slice none 0 0 => some []
  | .slice (some ⟨l, r, some e⟩) n _ => match h.get l with
    | some o => bif o.esz == e && decide (r + n ≤ o.rows.length) then some ((o.rows.drop r).take n) else none
    | none => none
  | _ => none

theorem flat_get {e : Nat} : ∀ (rows : List (List Value)), (∀ row ∈ rows, row.length = e) → ∀ (i j : Nat), j < e → rows.flatten[i * e + j]? = (rows[i]?).bind (·[j]?)
  | [], _, i, j, _ => by simp
  | row :: rows, h, i, j, hj => by
    have hr := h row (by simp)
    rw [List.flatten_cons]
    cases i with
    | zero => rw [Nat.zero_mul, Nat.zero_add, List.getElem?_append_left (by omega)]; simp
    | succ i =>
      rw [Nat.succ_mul, List.getElem?_append_right (by omega), show i * e + e + j - row.length = i * e + j from by omega, flat_get rows (fun x hx => h x (by simp [hx])) i j hj]
      simp

theorem flat_length {e : Nat} : ∀ (rows : List (List Value)), (∀ row ∈ rows, row.length = e) → rows.flatten.length = rows.length * e
  | [], _ => by simp
  | row :: rows, h => by
    rw [List.flatten_cons, List.length_append, h row (by simp), flat_length rows (fun x hx => h x (by simp [hx])), List.length_cons, Nat.succ_mul]; omega

/-- Cells in a row: the flat cells of rows. -/
def FRel (L : Lay) (rows : List (List Value)) (e : Nat) (cs : List Value) : Prop :=
  (∀ row ∈ rows, row.length = e) ∧ cs.length = rows.length * e ∧ ∀ (i : Nat) (row : List Value), rows[i]? = some row → ∀ (j : Nat) (v : Value), row[j]? = some v → ∃ V, cs[i * e + j]? = some V ∧ VRel L v V

theorem FRel.append {L : Lay} {xs ys : List (List Value)} {e : Nat} {cs ds : List Value} (h : FRel L xs e cs) (k : FRel L ys e ds) : FRel L (xs ++ ys) e (cs ++ ds) := by
  refine ⟨fun row hr => (List.mem_append.1 hr).elim (h.1 row) (k.1 row), by rw [List.length_append, List.length_append, h.2.1, k.2.1, Nat.add_mul], fun i row hi j v hj => ?_⟩
  by_cases hlt : i < xs.length
  · rw [List.getElem?_append_left hlt] at hi
    obtain ⟨V, a, b⟩ := h.2.2 i row hi j v hj
    exact ⟨V, by rw [List.getElem?_append_left (List.getElem?_eq_some_iff.1 a).1]; exact a, b⟩
  · rw [List.getElem?_append_right (by omega)] at hi
    obtain ⟨V, a, b⟩ := k.2.2 _ row hi j v hj
    refine ⟨V, ?_, b⟩
    have e1 : i * e = (i - xs.length) * e + xs.length * e := by rw [← Nat.add_mul]; congr 1; omega
    rw [List.getElem?_append_right (by rw [h.2.1]; omega), h.2.1, show i * e + j - xs.length * e = (i - xs.length) * e + j from by omega]; exact a

theorem FRel.mono {L L' : Lay} (hl : L.le L') {xs : List (List Value)} {e : Nat} {cs : List Value} (h : FRel L xs e cs) : FRel L' xs e cs :=
  ⟨h.1, h.2.1, fun i row hi j v hj => let ⟨V, a, b⟩ := h.2.2 i row hi j v hj; ⟨V, a, b.mono hl⟩⟩

theorem FRel.one {L : Lay} {xs : List (List Value)} {e : Nat} {cs : List Value} (h : FRel L xs e cs) (hx : ∀ row ∈ xs, ∀ v ∈ row, oneLeaf v = true) : ∀ V ∈ cs, V.oneCell' = true := by
  intro V hV
  obtain ⟨k, hk, rfl⟩ := List.getElem_of_mem hV
  rw [h.2.1] at hk
  have he : 0 < e := by rcases Nat.eq_zero_or_pos e with h0 | h0; · subst h0; simp at hk
                        · exact h0
  have hi : k / e < xs.length := by rw [Nat.div_lt_iff_lt_mul he]; exact hk
  have hj : k % e < e := Nat.mod_lt _ he
  have hrow := List.getElem?_eq_getElem hi
  have hlen := h.1 xs[k / e] (List.getElem_mem hi)
  have hv : (xs[k / e])[k % e]? = some (xs[k / e])[k % e] := List.getElem?_eq_getElem (by rw [hlen]; exact hj)
  obtain ⟨V, a, b⟩ := h.2.2 _ _ hrow _ _ hv
  have e1 : k / e * e + k % e = k := by rw [Nat.mul_comm]; exact Nat.div_add_mod k e
  rw [e1] at a
  obtain ⟨_, a2⟩ := List.getElem?_eq_some_iff.1 a
  rw [a2]
  exact oneLeaf_rel b (hx _ (List.getElem_mem hi) _ (List.getElem_mem _))

/-- The model's cells of a slice whose rows are known. -/
theorem Rel.rows {L : Lay} {F R : Nat → Prop} {w0 w : World} {h : AHeap} (r : Rel L F R w0 w h) {l i e n : Nat} {c : Nat} {rows : List (List Value)} (hr : h.rowsOf (.slice (some ⟨l, i, some e⟩) n c) = some rows) {s : Site} (hs : L l = some s) :
    s.esz = e ∧ rows.length = n ∧ ∃ cs : List Value, FRel L rows e cs ∧ ∀ (j : Nat) (V : Value), cs[j]? = some V → w.cell? ⟨s.blk, s.base + i * e + j, none⟩ = some V := by
  · simp only [AHeap.rowsOf] at hr
    split at hr
    case h_2 => cases hr
    rename_i o ho
    cases hq : (o.esz == e && decide (i + n ≤ o.rows.length)) with
    | false => rw [hq] at hr; cases hr
    | true =>
    rw [hq] at hr
    simp only [Bool.and_eq_true, beq_iff_eq, decide_eq_true_eq] at hq
    obtain ⟨he, hn⟩ := hq
    obtain rfl := Option.some.inj hr
    have ob := r.obj l o s ho hs
    have hes : s.esz = e := ob.esz.trans he
    have rlen : ∀ row ∈ (o.rows.drop i).take n, row.length = e := by
      intro row hrow
      obtain ⟨k, hk, rfl⟩ := List.getElem_of_mem (List.mem_of_mem_drop (List.mem_of_mem_take hrow))
      rw [ob.len k _ (List.getElem?_eq_getElem hk), he]
    have hl : ((o.rows.drop i).take n).length = n := by rw [List.length_take, List.length_drop]; omega
    refine ⟨hes, hl, (List.range (n * e)).map fun j => (w.cell? ⟨s.blk, s.base + i * e + j, none⟩).getD undef, ⟨rlen, by simp [hl], fun k row hk j v hj => ?_⟩, fun j V hj => ?_⟩
    · rw [List.getElem?_take] at hk
      split at hk
      · rename_i hkn
        rw [List.getElem?_drop] at hk
        obtain ⟨V, a, b⟩ := ob.cell (i + k) row hk j v hj
        refine ⟨V, ?_, b⟩
        have hj' : j < e := by have := (List.getElem?_eq_some_iff.1 hj).1; rw [ob.len _ _ hk, he] at this; exact this
        have hke : k * e + j < n * e := by
          have : (k + 1) * e ≤ n * e := Nat.mul_le_mul_right _ hkn
          rw [Nat.succ_mul] at this; omega
        rw [hes, Nat.add_mul] at a
        rw [List.getElem?_map, List.getElem?_range hke]
        simp only [Option.map_some]
        rw [show s.base + i * e + (k * e + j) = s.base + (i * e + k * e) + j from by omega, a]; rfl
      · cases hk
    · rw [List.getElem?_map] at hj
      simp only [Option.map_eq_some_iff] at hj
      obtain ⟨k, hk, rfl⟩ := hj
      have hkj : k = j ∧ j < n * e := by
        rw [List.getElem?_eq_some_iff] at hk
        obtain ⟨h1, h2⟩ := hk
        simp at h1 h2; exact ⟨h2.symm, h1⟩
      obtain ⟨rfl, hk2⟩ := hkj
      have he0 : 0 < e := by rcases Nat.eq_zero_or_pos e with h0 | h0; · subst h0; simp at hk2
                             · exact h0
      have hi : k / e < n := by rw [Nat.div_lt_iff_lt_mul he0]; exact hk2
      have hj : k % e < e := Nat.mod_lt _ he0
      have hlt : i + k / e < o.rows.length := by omega
      have hrl := ob.len _ _ (List.getElem?_eq_getElem hlt)
      obtain ⟨V, a, _⟩ := ob.cell _ _ (List.getElem?_eq_getElem hlt) (k % e) _ (List.getElem?_eq_getElem (by rw [hrl, he]; exact hj))
      have e1 : e * (k / e) + k % e = k := Nat.div_add_mod k e
      rw [hes, Nat.add_mul] at a
      rw [show s.base + i * e + k = s.base + (i * e + k / e * e) + k % e from by rw [Nat.mul_comm (k / e)]; omega, a]; rfl

def bytesRows (s : ByteArray) : List (List Value) := s.data.toList.map fun b => [.int .u8 b.toNat]

/-- What is behind an append. -/
def AHeap.app (h : AHeap) (s : Value) (xs : List (List Value)) (e : Nat) : Option (Value × AHeap) :=
  match s with
  | .slice a n c => match xs with
    | [] => some (.slice a n c, h)
    | x :: xs => match a with
      | none => some (.slice (some ⟨h.n, 0, some e⟩) (x :: xs).length 0, h.push ⟨x :: xs, e, true⟩)
      | some ⟨l, r, some e'⟩ => match h.rowsOf (.slice (some ⟨l, r, some e'⟩) n c) with
        | some ss => bif e' == e then
            (bif c != 0 && decide (c ≤ n + (x :: xs).length) then some (.slice (some ⟨h.n, 0, some e⟩) (n + (x :: xs).length) 0, h.push ⟨ss ++ x :: xs, e, true⟩)
             else match h.get l with
              | some o => bif o.rw then some (.slice (some ⟨h.n, 0, some e⟩) (n + (x :: xs).length) 0, (h.put l none).push ⟨ss ++ x :: xs, e, true⟩) else none
              | none => none)
          else none
        | none => none
      | _ => none
  | _ => none

def rowsV (h : AHeap) (x : Value) : Option (List (List Value)) :=
  match x with
  | .string s => some (bytesRows s)
  | x => h.rowsOf x

def bytesOf (P : Program) (t : TypeId) : Nat := ((P.info? t).map (·.bytes)).getD 0
def sliceLen : Value → Nat | .slice _ n _ => n | _ => 0

def vcAppend (P : Program) (t t' : TypeId) (s x : Value) (st : St) (K : Value → St → Prop) : Prop :=
  match P.underlying t with
  | some (.slice e) => match szOf P e, zeroOf P e with
    | some z, some zv => bs (decide (0 < z) && decide (0 < bytesOf P e) && plain zv && decide ((cellsL zv).length = z) && (match P.underlying t' with | some (.slice _) => true | some .string => true | _ => false))
        (∃ xs, rowsV st.h x = some xs ∧ (xs.all fun row => decide (row.length = z) && row.all oneLeaf) = true ∧ (sliceLen s + xs.length) * bytesOf P e ≤ 140737488355328 ∧ ∃ v h', st.h.app s xs z = some (v, h') ∧ K v { st with h := h' }) False
    | _, _ => False
  | _ => False
end Go.Abs
