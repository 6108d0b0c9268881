/- Equality as a truth value; equations of sizes. -/
import Derived.Test.YtanienlcebkijaaV11A25
namespace Go.Dat
open Go.Abs
open Classical in
noncomputable def eqb {α : Type} (x y : α) : Bool := decide (x = y)
theorem eqb_self {α : Type} (x : α) : eqb x x = true := by unfold eqb; simp
theorem eqb_true {α : Type} {x y : α} (h : x = y) : true = eqb x y := by subst h; exact (eqb_self x).symm
theorem eqb_false {α : Type} {x y : α} (h : x ≠ y) : false = eqb x y := by unfold eqb; simp [h]
theorem of_eqb {α : Type} {x y : α} (h : eqb x y = true) : x = y := by unfold eqb at h; simpa using h
theorem of_eqb_false {α : Type} {x y : α} (h : eqb x y = false) : x ≠ y := by unfold eqb at h; simpa using h
theorem Sl.row {h : AHeap} {s : Sh} {xs : List s.T} {a : Option Addr} {n c : Nat} (x : Sl h s xs (.slice a n c)) : SAddr s.cells a n c ∧ ∃ rows, h.rowsOf (.slice a n c) = some rows := by
  obtain ⟨a', n', c', rows, e, h1, h2, h3, h4⟩ := x
  cases e; exact ⟨h1, rows, h2⟩
theorem ro_some {h : AHeap} : ∀ {s : Sh} {x : s.T} {cs : List Value} {ids : List Nat}, s.ro h x cs ids → ∀ {l}, l ∈ ids → h.get l ≠ none := by
  intro s
  induction s with
  | int => rintro x cs ids ⟨_, rfl⟩ l hl; simp at hl
  | bool => rintro x cs ids ⟨_, rfl⟩ l hl; simp at hl
  | str => rintro x cs ids ⟨_, rfl⟩ l hl; simp at hl
  | byte => rintro x cs ids ⟨_, rfl⟩ l hl; simp at hl
  | pair a b iha ihb =>
    rintro x cs ids ⟨c1, c2, i1, i2, e, rfl, h1, h2⟩ l hl
    rcases List.mem_append.1 hl with hl | hl
    · exact iha h1 hl
    · exact ihb h2 hl
  | sl e ih =>
    rintro xs cs ids ⟨a, n, c, rfl, hs', hn, ⟨rfl, rfl, h1⟩ | ⟨l', r, rows, idss, rfl, hg, hr, hl', rfl, hx⟩⟩ l hl
    · simp at hl
    · rcases List.mem_cons.1 hl with rfl | hl
      · rw [hg]; simp
      · obtain ⟨js, hjs, hlj⟩ := List.mem_flatten.1 hl
        obtain ⟨i, hi⟩ := List.mem_iff_getElem?.1 hjs
        have hin := (List.getElem?_eq_some_iff.1 hi).1
        have hxl : i < List.length (α := e.T) xs := by rw [hn]; omega
        exact ih (hx i _ _ js (List.getElem?_eq_getElem hxl) (List.getElem?_eq_getElem (by omega)) hi) hlj
theorem shp_put {h : AHeap} {l : Nat} {rows rows' : List (List Value)} {e : Nat} {b : Bool} (hg : h.get l = some ⟨rows, e, b⟩) (hl : rows'.length = rows.length) : Shp h (h.put l (some ⟨rows', e, b⟩)) := by
  refine ⟨Nat.le_refl _, fun l' r' e' b' hg' => ?_⟩
  by_cases hll : l' = l
  · subst hll
    rw [hg] at hg'
    cases hg'
    exact ⟨rows', AHeap.get_put_eq, hl⟩
  · exact ⟨r', by rw [AHeap.get_put_ne hll]; exact hg', rfl⟩
theorem setRange_all {a b : List Value} (h : a.length = b.length) : setRange a 0 b = b := by
  unfold setRange
  simp [h]
theorem ld_cells {h : AHeap} {l r k m z : Nat} {row : List Value} (hl : h.ld l r 0 z = some row) (hk : k + m ≤ row.length) : h.ld l r k m = some ((row.drop k).take m) := by
  unfold AHeap.ld at hl ⊢
  cases ho : h.get l with
  | none => rw [ho] at hl; cases hl
  | some o =>
    rw [ho] at hl
    dsimp only at hl ⊢
    cases hrow : o.rows[r]? with
    | none => rw [hrow] at hl; cases hl
    | some row' =>
      rw [hrow] at hl
      dsimp only at hl ⊢
      cases hc : decide (0 + z ≤ row'.length) with
      | false => rw [hc] at hl; cases hl
      | true =>
        rw [hc] at hl
        simp only [decide_eq_true_eq] at hc
        have e : row = row'.take z := by simpa using hl.symm
        subst e
        rw [List.length_take] at hk
        rw [decide_eq_true (show k + m ≤ row'.length by omega)]
        simp only [cond_true, Option.some.injEq]
        rw [List.drop_take, List.take_take, Nat.min_eq_left (by omega)]
end Go.Dat
