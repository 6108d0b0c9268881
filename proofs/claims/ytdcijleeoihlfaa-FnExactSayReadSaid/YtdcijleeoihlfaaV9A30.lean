/- The arguments of a row, opened: from the world to a heap of read-only objects. -/
import Derived.Test.YtdcijleeoihlfaaV9A29
import Derived.Carry
namespace Go.Dat
open Go.Abs
theorem arel1 {L : Lay} {a A : Value} (h : VRel L a A) : ARel L #[a] #[A] := by
  refine ⟨rfl, fun i v V h1 h2 => ?_⟩
  match i, h1, h2 with
  | 0, h1, h2 => simp at h1 h2; subst h1; subst h2; exact h
  | i + 1, h1, h2 => simp at h1
end Go.Dat
