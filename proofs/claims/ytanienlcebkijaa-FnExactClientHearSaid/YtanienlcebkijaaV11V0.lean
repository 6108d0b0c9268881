/- Copies of flat rows, rows put in between, the middle of two indices. -/
import Derived.Test.YtanienlcebkijaaV11R3
import Derived.Test.YtanienlcebkijaaV11T2
import Derived.Test.YtanienlcebkijaaV11A32
namespace Go.Dat
open Go.Abs
theorem mid {i j : Nat} (h : i ≤ j) (hj : j ≤ 4611686018427387903) : IntKind.i64.wrap (Int.fdiv (IntKind.u64.wrap (IntKind.i64.wrap ((i : Int) + j))) (2 ^ min (Int.toNat 1) IntKind.u64.bits)) = (((i + j) / 2 : Nat) : Int) := by
  have e1 : IntKind.i64.wrap ((i : Int) + j) = ((i + j : Nat) : Int) := by rw [wrap_i64 (by omega)]; omega
  have e2 : IntKind.u64.wrap ((i + j : Nat) : Int) = ((i + j : Nat) : Int) := by
    have e : IntKind.u64.wrap ((i + j : Nat) : Int) = if (false && decide (((i + j : Nat) : Int) % 18446744073709551616 ≥ 9223372036854775808)) = true then ((i + j : Nat) : Int) % 18446744073709551616 - 18446744073709551616 else ((i + j : Nat) : Int) % 18446744073709551616 := rfl
    rw [e]; simp only [Bool.false_and, Bool.false_eq_true, if_false]; omega
  have e3 : (2 : Int) ^ min (Int.toNat 1) IntKind.u64.bits = 2 := by decide
  rw [e1, e2, e3, Int.fdiv_eq_ediv_of_nonneg _ (by decide), wrap_i64 (by omega)]
  omega
def Sh.flat : Sh → Bool
  | .pair a b => a.flat && b.flat
  | .sl _ => false
  | _ => true
theorem Sh.flat_rn {h g : AHeap} : ∀ {s : Sh}, s.flat = true → ∀ {x : s.T} {cs : List Value}, s.rd h x cs → s.rn g x cs [] := by
  intro s
  induction s with
  | int => intro _ x cs e; exact ⟨e, rfl⟩
  | bool => intro _ x cs e; exact ⟨e, rfl⟩
  | str => intro _ x cs e; exact ⟨e, rfl⟩
  | byte => intro _ x cs e; exact ⟨e, rfl⟩
  | pair a b iha ihb =>
    rintro hf x cs ⟨c1, c2, rfl, h1, h2⟩
    have hf' : a.flat = true ∧ b.flat = true := by simpa [Sh.flat] using hf
    exact ⟨c1, c2, [], [], rfl, rfl, iha hf'.1 h1, ihb hf'.2 h2⟩
  | sl e ih => intro hf; cases hf
theorem Sh.rd_leaf {h : AHeap} : ∀ {s : Sh} {x : s.T} {cs : List Value}, s.rd h x cs → ∀ v ∈ cs, oneLeaf v = true := by
  intro s
  induction s with
  | int => rintro x cs rfl v hv; rw [List.mem_singleton.1 hv]; rfl
  | bool => rintro x cs rfl v hv; rw [List.mem_singleton.1 hv]; rfl
  | str => rintro x cs rfl v hv; rw [List.mem_singleton.1 hv]; rfl
  | byte => rintro x cs rfl v hv; rw [List.mem_singleton.1 hv]; rfl
  | pair a b iha ihb =>
    rintro x cs ⟨c1, c2, rfl, h1, h2⟩ v hv
    rcases List.mem_append.1 hv with hv | hv
    · exact iha h1 v hv
    · exact ihb h2 v hv
  | sl e ih =>
    rintro x cs ⟨a, n, c, rows, rfl, _⟩ v hv
    rw [List.mem_singleton.1 hv]; rfl
theorem Sl.rows {h : AHeap} {s : Sh} {xs : List s.T} {a : Option Addr} {n c : Nat} (x : Sl h s xs (.slice a n c)) :
    ∃ rows, h.rowsOf (.slice a n c) = some rows ∧ rows.length = n ∧ (rows.all fun row => decide (row.length = s.cells) && row.all fun v => match v with | .agg _ => false | .tuple _ => false | .complex _ _ _ => false | .chan _ => false | _ => true) = true ∧
      ∀ (i : Nat) (y : s.T) (row : List Value), xs[i]? = some y → rows[i]? = some row → s.rd h y row := by
  obtain ⟨a', n', c', rows, e, h1, h2, h3, h4⟩ := x
  cases e
  have hl := rowsOf_len h1 h2
  refine ⟨rows, h2, hl, List.all_eq_true.2 fun row hr => ?_, h4⟩
  obtain ⟨i, hi⟩ := List.mem_iff_getElem?.1 hr
  have hlt := (List.getElem?_eq_some_iff.1 hi).1
  have rd := h4 i _ row (List.getElem?_eq_getElem (by omega)) hi
  rw [Bool.and_eq_true]
  exact ⟨decide_eq_true (Sh.rd_len rd), List.all_eq_true.2 fun v hv => Sh.rd_leaf rd v hv⟩
theorem flat_nil : ∀ n : Nat, (List.replicate n ([] : List Nat)).flatten = []
  | 0 => rfl
  | n + 1 => by rw [List.replicate_succ, List.flatten_cons, flat_nil n]; rfl
theorem SoB.flat {s : Sh} (hf : s.flat = true) {h0 h g : AHeap} {xs : List s.T} {n l c : Nat} {rows : List (List Value)} (le : h0.Le h) (wf : h.wf) (wf0 : h0.wf) (hn : h0.n ≤ l) (hx : xs.length = n) (hg : h.get l = some ⟨rows, s.cells, true⟩) (hr : rows.length = n) (hc : c = 0 ∨ c = n + 1)
    (hrd : ∀ (i : Nat) (y : s.T) (row : List Value), xs[i]? = some y → rows[i]? = some row → s.rd g y row) : SoB s h0 h (some ⟨l, 0, some s.cells⟩) n c xs [l] := by
  refine ⟨le, wf, wf0, hx, ⟨by simp, fun z hz => ?_⟩, .inr ⟨l, rows, List.replicate n [], rfl, hg, hr, by simp, by rw [flat_nil], hc, fun i x row js h1 h2 h3 => ?_⟩⟩
  · rw [List.mem_singleton.1 hz]; exact ⟨hn, wf.lt hg⟩
  · rw [List.eq_of_mem_replicate (List.mem_of_getElem? h3)]
    exact Sh.flat_rn hf (hrd i x row h1 h2)
theorem app_clone {s : Sh} (hf : s.flat = true) {h : AHeap} (hw : h.wf) {a : Option Addr} {n c : Nat} {xs : List s.T} (x : Sl h s xs (.slice a n c)) :
    ∃ rows, rowsV (h.push ⟨[], s.cells, true⟩) (.slice a n c) = some rows ∧ (rows.all fun row => decide (row.length = s.cells) && row.all fun v => match v with | .agg _ => false | .tuple _ => false | .complex _ _ _ => false | .chan _ => false | _ => true) = true ∧ rows.length = n ∧
      ∃ l c' h', (h.push ⟨[], s.cells, true⟩).app (.slice (some ⟨h.n, 0, some s.cells⟩) 0 1) rows s.cells = some (.slice (some ⟨l, 0, some s.cells⟩) n c', h') ∧ SoB s h h' (some ⟨l, 0, some s.cells⟩) n c' xs [l] := by
  have lp := AHeap.Le.push hw ⟨[], s.cells, true⟩
  have wp := hw.push ⟨[], s.cells, true⟩
  obtain ⟨rows, h2, hl, hall, hrd⟩ := x.rows
  have hx := x.len
  refine ⟨rows, lp.rowsOf h2, hall, hl, ?_⟩
  cases rows with
  | nil =>
    subst hl
    exact ⟨h.n, 1, _, rfl, SoB.flat hf lp wp hw (Nat.le_refl _) hx AHeap.get_push_eq rfl (.inr rfl) hrd⟩
  | cons r rs =>
    refine ⟨(h.push ⟨[], s.cells, true⟩).n, 0, _, ?_, SoB.flat hf (lp.trans (.push wp ⟨r :: rs, s.cells, true⟩)) (wp.push _) hw lp.n hx AHeap.get_push_eq hl (.inl rfl) hrd⟩
    have e0 : (h.push ⟨[], s.cells, true⟩).rowsOf (.slice (some ⟨h.n, 0, some s.cells⟩) 0 1) = some [] := by rw [get_rowsOf AHeap.get_push_eq (by simp)]; rfl
    have e1 : decide (1 ≤ 0 + (r :: rs).length) = true := decide_eq_true (by simp)
    unfold AHeap.app
    dsimp only
    rw [e0]
    dsimp only
    rw [beq_self_eq_true, cond_true, e1]
    simp only [List.nil_append, Nat.zero_add, hl]
    rfl
def ins {α : Type} (xs : List α) (i : Nat) (x : α) : List α := xs.take i ++ x :: xs.drop i
theorem ins_length {α : Type} {xs : List α} {i : Nat} {x : α} (hi : i ≤ xs.length) : (ins xs i x).length = xs.length + 1 := by
  unfold ins; rw [List.length_append, List.length_cons, List.length_take, List.length_drop]; omega
theorem ins_get {α : Type} {xs : List α} {i : Nat} {x : α} (hi : i ≤ xs.length) (j : Nat) : (ins xs i x)[j]? = if j < i then xs[j]? else if j = i then some x else xs[j - 1]? := by
  have hl : (xs.take i).length = i := by rw [List.length_take]; omega
  unfold ins
  by_cases h1 : j < i
  · rw [if_pos h1, List.getElem?_append_left (by omega), List.getElem?_take, if_pos h1]
  · rw [if_neg h1, List.getElem?_append_right (by omega), hl]
    by_cases h2 : j = i
    · rw [if_pos h2, h2, Nat.sub_self]; rfl
    · rw [if_neg h2, show j - i = (j - i - 1) + 1 by omega, List.getElem?_cons_succ, List.getElem?_drop]; congr 1; omega
theorem ins_flat {idss : List (List Nat)} {i : Nat} {js : List Nat} : (ins idss i js).flatten.Perm (idss.flatten ++ js) := by
  have e : idss.flatten = (idss.take i).flatten ++ (idss.drop i).flatten := by rw [← List.flatten_append, List.take_append_drop]
  unfold ins
  rw [List.flatten_append, List.flatten_cons, e, List.append_assoc]
  exact List.Perm.append_left _ List.perm_append_comm
theorem SoB.ins {s : Sh} {h0 h : AHeap} {l n : Nat} {xs : List s.T} {rows : List (List Value)} {idss : List (List Nat)} {js : List Nat} {x : s.T} {cs : List Value} {i : Nat} (le : h0.Le h) (wf : h.wf) (wf0 : h0.wf) (hx : xs.length = n) (fr : Fresh h0.n h.n (l :: idss.flatten))
    (hg : h.get l = some ⟨rows, s.cells, true⟩) (hr : rows.length = n) (hi : List.length (α := List Nat) idss = n) (hrn : ∀ (i : Nat) (x : s.T) (row : List Value) (js : List Nat), xs[i]? = some x → rows[i]? = some row → idss[i]? = some js → s.rn h x row js)
    (rn : s.rn h x cs js) (fj : Fresh h0.n h.n js) (d : ∀ z ∈ l :: idss.flatten, z ∉ js) (hin : i ≤ n) :
    SoB s h0 ((h.put l none).push ⟨Dat.ins rows i cs, s.cells, true⟩) (some ⟨h.n, 0, some s.cells⟩) (n + 1) 0 (Dat.ins xs i x) (h.n :: (Dat.ins idss i js).flatten) := by
  have hlt : l < h.n := wf.lt hg
  have h0l : h0.n ≤ l := (fr.bd l List.mem_cons_self).1
  have w2 := wf.put hlt none
  have keep : ∀ z o, z ≠ l → h.get z = some o → ((h.put l none).push ⟨Dat.ins rows i cs, s.cells, true⟩).get z = some o := fun z o hz ho => (AHeap.Le.push w2 _).get z o (by rw [AHeap.get_put_ne hz]; exact ho)
  have ndl := List.nodup_cons.1 fr.nd
  refine ⟨(le.put (wf0 l h0l) none).trans (.push w2 _), w2.push _, wf0, by rw [ins_length (by omega)]; omega, ?_, .inr ⟨h.n, Dat.ins rows i cs, Dat.ins idss i js, rfl, ?_, by rw [ins_length (by omega)]; omega, by rw [ins_length (by omega)]; omega, rfl, .inl rfl, ?_⟩⟩
  · have p := fr.perm3 fj (fun z hz => d z (List.mem_cons_of_mem _ hz)) (Nat.le_refl _)
    exact ⟨(List.Perm.nodup_iff (ins_flat.cons _)).2 p.nd, fun z hz => p.bd z ((ins_flat.cons _).mem_iff.1 hz)⟩
  · show ((h.put l none).push _).get (h.put l none).n = _
    exact AHeap.get_push_eq
  · intro j y row q h1 h2 h3
    rw [ins_get (by omega)] at h1 h2 h3
    by_cases c1 : j < i
    · rw [if_pos c1] at h1 h2 h3
      exact (hrn j y row q h1 h2 h3).keep (fun z hz o => keep z o (fun e => ndl.1 (List.mem_flatten.2 ⟨q, List.mem_of_getElem? h3, e ▸ hz⟩)))
    · rw [if_neg c1] at h1 h2 h3
      by_cases c2 : j = i
      · rw [if_pos c2] at h1 h2 h3
        cases h1; cases h2; cases h3
        exact rn.keep (fun z hz o => keep z o (fun e => d l List.mem_cons_self (e ▸ hz)))
      · rw [if_neg c2] at h1 h2 h3
        exact (hrn _ y row q h1 h2 h3).keep (fun z hz o => keep z o (fun e => ndl.1 (List.mem_flatten.2 ⟨q, List.mem_of_getElem? h3, e ▸ hz⟩)))
end Go.Dat
