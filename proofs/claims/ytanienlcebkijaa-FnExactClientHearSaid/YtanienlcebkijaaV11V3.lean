/- Rows put in between: what the heap comes to, in place and in a new object. -/
import Derived.Test.YtanienlcebkijaaV11V0
namespace Go.Dat
open Go.Abs
abbrev chkR (z : Nat) (rows : List (List Value)) : Prop := (rows.all fun row => decide (row.length = z) && row.all fun v => match v with | .agg _ => false | .tuple _ => false | .complex _ _ _ => false | .chan _ => false | _ => true) = true
theorem chkR.drop {z i : Nat} {rows : List (List Value)} (h : chkR z rows) : chkR z (rows.drop i) := List.all_eq_true.2 fun x hx => List.all_eq_true.1 h x (List.mem_of_mem_drop hx)
theorem chkR.take {z i : Nat} {rows : List (List Value)} (h : chkR z rows) : chkR z (rows.take i) := List.all_eq_true.2 fun x hx => List.all_eq_true.1 h x (List.mem_of_mem_take hx)
theorem ah_ext {a b : AHeap} (h1 : a.n = b.n) (h2 : ∀ x, a.get x = b.get x) : a = b := by
  obtain ⟨n, f⟩ := a
  obtain ⟨m, g⟩ := b
  obtain rfl : n = m := h1
  obtain rfl : f = g := funext h2
  rfl
theorem pad_eq {h : AHeap} {l z k : Nat} {rows : List (List Value)} (hg : h.get l = some ⟨rows, z, true⟩) : ∃ J, h.pad l z k = h.put l (some ⟨rows ++ J, z, true⟩) ∧ J.length = k - rows.length :=
  ⟨List.replicate (k - rows.length) (List.replicate z (.chan none)), by unfold AHeap.pad; rw [hg], by simp⟩
theorem get_rows {h : AHeap} {l r z n c : Nat} {rows : List (List Value)} (hg : h.get l = some ⟨rows, z, true⟩) (hr : r + n ≤ rows.length) : h.rowsOf (.slice (some ⟨l, r, some z⟩) n c) = some ((rows.drop r).take n) := get_rowsOf hg hr
theorem cpy_set {h : AHeap} {l r z : Nat} {rows xs : List (List Value)} (hg : h.get l = some ⟨rows, z, true⟩) (hne : xs ≠ []) (hr : r + xs.length ≤ rows.length) : h.cpy (some ⟨l, r, some z⟩) z xs = some (h.put l (some ⟨setRows rows r xs, z, true⟩)) := by
  cases xs with
  | nil => exact absurd rfl hne
  | cons x xs =>
    unfold AHeap.cpy AHeap.wrs
    dsimp only
    rw [hg]
    simp only [beq_self_eq_true, cond_true, Bool.true_and]
    rw [decide_eq_true hr]
    rfl
theorem put_none {h : AHeap} {l : Nat} {o : Option AObj} : (h.put l o).put l none = h.put l none := ah_ext rfl fun x => by
  show (if x = l then none else if x = l then o else h.get x) = if x = l then none else h.get x
  split <;> rfl
theorem ins_place {h : AHeap} {l l2 z n C c c2 i : Nat} {rows : List (List Value)} {cs : List Value} (hg : h.get l = some ⟨rows, z, true⟩) (hr : rows.length = n) (h2 : h.get l2 = some ⟨[cs], z, true⟩) (hne : l ≠ l2) (hi : i < n) (hC : n + 1 ≤ C) (hc : chkR z rows) (hcs : chkR z [cs]) :
    ∃ xs1 h1, (h.pad l z (0 + C)).rowsOf (.slice (some ⟨l, i, some z⟩) (n - i) c) = some xs1 ∧ chkR z xs1 ∧ (h.pad l z (0 + C)).cpy (some ⟨l, i + 1, some z⟩) z xs1 = some h1 ∧
      ∃ xs2 g, h1.rowsOf (.slice (some ⟨l2, 0, some z⟩) 1 c2) = some xs2 ∧ chkR z xs2 ∧ h1.cpy (some ⟨l, i, some z⟩) z xs2 = some g ∧ g.put l none = h.put l none ∧ ∃ rows', g.get l = some ⟨rows', z, true⟩ ∧ rows'.take (n + 1) = ins rows i cs := by
  obtain ⟨J, eJ, hJ⟩ := pad_eq (k := 0 + C) hg
  have lenR : (rows ++ J).length = C := by rw [List.length_append]; omega
  have g0 : (h.put l (some ⟨rows ++ J, z, true⟩)).get l = some ⟨rows ++ J, z, true⟩ := AHeap.get_put_eq
  have ex : ((rows ++ J).drop i).take (n - i) = rows.drop i := by
    rw [List.drop_append_of_le_length (by omega), List.take_append_of_le_length (by rw [List.length_drop]; omega), List.take_of_length_le (by rw [List.length_drop]; omega)]
  have hd : (rows.drop i).length = n - i := by rw [List.length_drop, hr]
  have hne1 : rows.drop i ≠ [] := fun e => by rw [e] at hd; simp at hd; omega
  have lenS : (setRows (rows ++ J) (i + 1) (rows.drop i)).length = C := by rw [setRows_length (by omega)]; exact lenR
  rw [eJ]
  refine ⟨_, _, get_rows g0 (by omega), by rw [ex]; exact hc.drop, by rw [ex]; exact cpy_set g0 hne1 (by omega), [cs], _, ?_, hcs, cpy_set AHeap.get_put_eq (by simp) (by rw [lenS]; simp; omega), ?_, _, AHeap.get_put_eq, ?_⟩
  · have : ((h.put l (some ⟨rows ++ J, z, true⟩)).put l (some ⟨setRows (rows ++ J) (i + 1) (rows.drop i), z, true⟩)).get l2 = some ⟨[cs], z, true⟩ := by
      rw [AHeap.get_put_ne (Ne.symm hne), AHeap.get_put_ne (Ne.symm hne)]; exact h2
    rw [get_rows this (by simp)]; rfl
  · rw [put_none, put_none, put_none]
  · have lenT : (setRows (setRows (rows ++ J) (i + 1) (rows.drop i)) i [cs]).length = C := by rw [setRows_length (by rw [lenS]; simp; omega)]; exact lenS
    apply List.ext_getElem?
    intro j
    rw [ins_get (by omega), List.getElem?_take]
    by_cases hj : j < n + 1
    · rw [if_pos hj, setRows_get (by rw [lenS]; simp; omega), setRows_get (by omega)]
      by_cases c1 : j < i
      · rw [if_pos c1, if_pos c1, if_pos (by omega), List.getElem?_append_left (by omega)]
      · rw [if_neg c1, if_neg c1]
        by_cases c2 : j = i
        · rw [if_pos (by simp; omega), if_pos c2, c2, Nat.sub_self]; rfl
        · rw [if_neg (by simp; omega), if_neg c2, if_neg (by omega), if_pos (by omega), List.getElem?_drop]; congr 1; omega
    · rw [if_neg hj, if_neg (by omega), if_neg (by omega), List.getElem?_eq_none (by omega)]
theorem ins_new {h : AHeap} {l l2 z n C c c2 i : Nat} {rows : List (List Value)} {cs zr : List Value} (hw : h.wf) (hg : h.get l = some ⟨rows, z, true⟩) (hr : rows.length = n) (h2 : h.get l2 = some ⟨[cs], z, true⟩) (hne : l ≠ l2) (hi : i < n) (hC : C = n) (hc : chkR z rows) (hcs : chkR z [cs]) :
    (h.pad l z (0 + C)).rowsOf (.slice (some ⟨l, 0, some z⟩) i c) = some (rows.take i) ∧
    ∃ xs2 h1, ((h.pad l z (0 + C)).push ⟨rows.take i ++ List.replicate (n + 1 - i) zr, z, true⟩).rowsOf (.slice (some ⟨l2, 0, some z⟩) 1 c2) = some xs2 ∧ chkR z xs2 ∧ ((h.pad l z (0 + C)).push ⟨rows.take i ++ List.replicate (n + 1 - i) zr, z, true⟩).cpy (some ⟨(h.pad l z (0 + C)).n, i, some z⟩) z xs2 = some h1 ∧
      ∃ xs1 g, h1.rowsOf (.slice (some ⟨l, i, some z⟩) (n - i) c) = some xs1 ∧ chkR z xs1 ∧ h1.cpy (some ⟨(h.pad l z (0 + C)).n, i + 1, some z⟩) z xs1 = some g ∧ (h.pad l z (0 + C)).n = h.n ∧ g.put l none = (h.put l none).push ⟨ins rows i cs, z, true⟩ := by
  obtain ⟨J, eJ, hJ⟩ := pad_eq (k := 0 + C) hg
  have hJ0 : J = [] := List.eq_nil_of_length_eq_zero (by omega)
  subst hJ0
  rw [List.append_nil] at eJ
  have eh : h.put l (some ⟨rows, z, true⟩) = h := ah_ext rfl fun x => by
    show (if x = l then _ else h.get x) = h.get x
    split
    · rename_i e; rw [e, hg]
    · rfl
  rw [eJ, eh]
  have hl : l < h.n := hw.lt hg
  have hl2 : l2 < h.n := hw.lt h2
  have gt : ∀ o, (h.push o).get h.n = some o := fun o => AHeap.get_push_eq
  have len0 : (rows.take i ++ List.replicate (n + 1 - i) zr).length = n + 1 := by simp; omega
  have hd : (rows.drop i).length = n - i := by rw [List.length_drop, hr]
  have hne1 : rows.drop i ≠ [] := fun e => by rw [e] at hd; simp at hd; omega
  have len1 : (setRows (rows.take i ++ List.replicate (n + 1 - i) zr) i [cs]).length = n + 1 := by rw [setRows_length (by rw [len0]; simp; omega)]; exact len0
  refine ⟨by rw [get_rows hg (by omega), List.drop_zero], [cs], _, ?_, hcs, cpy_set (gt _) (by simp) (by rw [len0]; simp; omega), rows.drop i, _, ?_, hc.drop, cpy_set AHeap.get_put_eq hne1 (by rw [len1]; omega), rfl, ?_⟩
  · rw [get_rows ((AHeap.get_push_ne (by omega)).trans h2) (by simp)]; rfl
  · rw [get_rows ((AHeap.get_put_ne (by omega)).trans ((AHeap.get_push_ne (by omega)).trans hg)) (by omega), List.take_of_length_le (by rw [List.length_drop]; omega)]
  · refine ah_ext rfl fun x => ?_
    show (if x = l then none else if x = h.n then _ else if x = h.n then _ else if x = h.n then _ else h.get x) = if x = h.n then _ else if x = l then none else h.get x
    by_cases c1 : x = l
    · rw [if_pos c1, if_neg (by omega), if_pos c1]
    · rw [if_neg c1, if_neg c1]
      by_cases c2 : x = h.n
      · rw [if_pos c2, if_pos c2]
        congr 2
        apply List.ext_getElem?
        intro j
        rw [ins_get (by omega), setRows_get (by rw [len1]; omega), setRows_get (by rw [len0]; simp; omega)]
        have ht : (rows.take i).length = i := by rw [List.length_take]; omega
        by_cases d1 : j < i
        · rw [if_pos (by omega), if_pos d1, if_pos d1, List.getElem?_append_left (by omega), List.getElem?_take, if_pos d1]
        · rw [if_neg (show ¬ j < i from d1)]
          by_cases d2 : j = i
          · rw [if_pos (by omega), if_neg d1, if_pos (by simp; omega), if_pos d2, d2, Nat.sub_self]; rfl
          · rw [if_neg (by omega), if_neg d2]
            by_cases d3 : j < i + 1 + (rows.drop i).length
            · rw [if_pos d3, List.getElem?_drop, if_neg d1]; exact congrArg (fun k => rows[k]?) (by omega)
            · rw [if_neg d3, if_neg d1, if_neg (show ¬ j < i + [cs].length by simp; omega)]
              exact (List.getElem?_eq_none (by omega)).trans (List.getElem?_eq_none (by omega)).symm
      · rw [if_neg c2, if_neg c2, if_neg c2, if_neg c2]
theorem ins_end {α : Type} {xs : List α} {n : Nat} {x : α} (h : xs.length = n) : ins xs n x = xs ++ [x] := by
  unfold ins; rw [List.take_of_length_le (by omega), List.drop_eq_nil_of_le (by omega)]
theorem app_end {h : AHeap} {l z n : Nat} {rows : List (List Value)} {cs : List Value} (hg : h.get l = some ⟨rows, z, true⟩) (hr : rows.length = n) :
    h.app (.slice (some ⟨l, 0, some z⟩) n 0) [cs] z = some (.slice (some ⟨h.n, 0, some z⟩) (n + 1) 0, (h.put l none).push ⟨ins rows n cs, z, true⟩) := by
  unfold AHeap.app
  dsimp only
  rw [get_rows hg (by omega), List.drop_zero, List.take_of_length_le (by omega), hg, ins_end hr]
  simp
end Go.Dat
namespace Go.Abs
theorem acall_to {P : Program} {f : FuncId} {args : List Value} {h g : AHeap} {v : Value} (hx : ∃ v' h', ACall P f args h v' h' ∧ v' = v ∧ h' = g) : ACall P f args h v g := by
  obtain ⟨_, _, hA, rfl, rfl⟩ := hx; exact hA
end Go.Abs
