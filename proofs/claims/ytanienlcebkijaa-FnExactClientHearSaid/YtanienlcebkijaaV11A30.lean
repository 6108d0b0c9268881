/- The arguments of a row, opened: from the world to a heap of read-only objects. -/
import Derived.Test.YtanienlcebkijaaV11A29
import Derived.Carry
namespace Go.Dat
open Go.Abs
theorem World.shape_lt {w : World} {b : Nat} {x : TypeId × Nat} (h : w.shape? b = some x) : b < w.heap.size := by
  rcases Nat.lt_or_ge b w.heap.size with hl | hl
  · exact hl
  · unfold World.shape? at h
    rw [Array.getElem?_eq_none hl] at h
    simp at h
theorem cell_pos {P : Program} {W : World} {base : Nat} {u : TypeId} {a : Addr} {n c : Nat} (h : Cell.okWide P W .any base u (.slice (some a) n c)) : 0 < W.heap.size := by
  have h2 : Cell.ok P W .any base u (.slice (some a) n c) := by
    unfold Cell.okWide at h
    split at h <;> first | exact h | (rename_i e; cases e)
  unfold Cell.ok at h2
  split at h2
  all_goals first
    | (rename_i e; cases e; done)
    | skip
  · rename_i e
    cases e
    obtain ⟨_, _, _, _, row, cells, hs, _⟩ := h2
    have := World.shape_lt hs
    omega
  · exact h2.elim
theorem arg_struct {H : Type} {enc : TypeId × Value → H} {P : Program} {W : World} {base m : Nat} {t : TypeId} {fs : Array Field} {s : Sh} {v : Value} {d : DataW H} {p : List MemPlace} {os : List InObj}
    (hu : P.underlying t = some (.struct fs)) (hs : shapes m P t s = true) (hv : Value.okWide P W .any base t v) (h0 : DataW.Trod enc P W 0 (fun _ => true) true t v d p) (hg : IGood W os) :
    ∃ (more : List InObj) (y : s.T) (acs : List Value), IGood W (os ++ more) ∧ s.rd (inHeap (os ++ more)) y acs ∧ VRel (inLay (os ++ more)) (.agg acs.toArray) v ∧ s.ok y := by
  unfold Value.okWide at hv
  rw [hu] at hv
  obtain ⟨cs, rfl, hlen, ts, hts, _, hcell⟩ := hv
  obtain ⟨fuel, h0⟩ := h0
  obtain ⟨more, y, acs, g1, r1, v1, k1⟩ := open_sh m t s hs fuel os _ _ hg (fun a n c hm => by
    obtain ⟨i, hi⟩ := List.mem_iff_getElem?.1 hm
    have hi2 : cs[i]? = some (.slice (some a) n c) := by rw [← Array.getElem?_toList]; exact hi
    obtain ⟨u, _, hc⟩ := hcell i _ hi2
    exact cell_pos hc) h0
  refine ⟨more, y, acs, g1, r1, .agg ?_ ?_, k1⟩
  · have := v1.len
    simpa [Value.cells] using this
  · intro i a b ha hb
    refine v1.rel i a b (by simpa using ha) ?_
    show cs.toList[i]? = some b
    rw [Array.getElem?_toList]; exact hb
theorem arel3 {L : Lay} {a A b B c C : Value} (h : VRel L a A) (h' : VRel L b B) (h3 : VRel L c C) : ARel L #[a, b, c] #[A, B, C] := by
  refine ⟨rfl, fun i v V h1 h2 => ?_⟩
  match i, h1, h2 with
  | 0, h1, h2 => simp at h1 h2; subst h1; subst h2; exact h
  | 1, h1, h2 => simp at h1 h2; subst h1; subst h2; exact h'
  | 2, h1, h2 => simp at h1 h2; subst h1; subst h2; exact h3
  | i + 3, h1, h2 => simp at h1
end Go.Dat
