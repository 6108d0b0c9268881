/- Data in the abstract heap: reading lemmas. -/
import Derived.Test.YtanienlcebkijaaV11M2
namespace Go.Abs
theorem bs_of {b : Bool} {x y : Prop} (h1 : b = true → x) (h2 : b = false → y) : bs b x y := by
  cases b
  · exact h2 rfl
  · exact h1 rfl
theorem bs_dec {p : Prop} [Decidable p] {x y : Prop} (h1 : p → x) (h2 : ¬ p → y) : bs (decide p) x y := bs_of (fun h => h1 (of_decide_eq_true h)) (fun h => h2 (of_decide_eq_false h))
theorem wrap_i64 {n : Int} (h : -9223372036854775808 ≤ n ∧ n ≤ 9223372036854775807) : IntKind.i64.wrap n = n := by
  have e : IntKind.i64.wrap n = if n % 18446744073709551616 ≥ 9223372036854775808 then n % 18446744073709551616 - 18446744073709551616 else n % 18446744073709551616 := by
    show (if (true && decide (n % 18446744073709551616 ≥ 9223372036854775808)) = true then _ else _) = _
    simp only [Bool.true_and, decide_eq_true_eq]
    rfl
  rw [e]
  split <;> omega
theorem wrap_u8 (n : Int) : IntKind.u8.wrap n = n % 256 := by
  have e : IntKind.u8.wrap n = if (false && decide (n % 256 ≥ 128)) = true then n % 256 - 256 else n % 256 := rfl
  rw [e]; simp
theorem rows_len {h : AHeap} {l r e n c : Nat} {rows : List (List Value)} (hr : h.rowsOf (.slice (some ⟨l, r, some e⟩) n c) = some rows) : rows.length = n := by
  unfold AHeap.rowsOf at hr
  dsimp only at hr
  split at hr
  case h_2 => cases hr
  rename_i o ho
  cases hc : (o.esz == e && decide (r + n ≤ o.rows.length)) with
  | false => rw [hc] at hr; cases hr
  | true =>
    rw [hc] at hr
    simp only [Bool.and_eq_true, decide_eq_true_eq] at hc
    obtain rfl := Option.some.inj hr
    rw [List.length_take, List.length_drop]; omega
theorem rows_ld {h : AHeap} {l r e n c k : Nat} {rows : List (List Value)} (hr : h.rowsOf (.slice (some ⟨l, r, some e⟩) n c) = some rows) {i : Nat} {row : List Value} (hi : rows[i]? = some row) (hk : row.length = k) : h.ld l (r + i) 0 k = some row := by
  unfold AHeap.rowsOf at hr
  dsimp only at hr
  split at hr
  case h_2 => cases hr
  rename_i o ho
  cases hc : (o.esz == e && decide (r + n ≤ o.rows.length)) with
  | false => rw [hc] at hr; cases hr
  | true =>
    rw [hc] at hr
    simp only [Bool.and_eq_true, decide_eq_true_eq] at hc
    obtain rfl := Option.some.inj hr
    have : o.rows[r + i]? = some row := by
      rw [List.getElem?_take] at hi
      split at hi
      · rw [List.getElem?_drop] at hi; exact hi
      · cases hi
    unfold AHeap.ld
    rw [ho]
    dsimp only
    rw [this]
    subst hk; simp
end Go.Abs
