/- Counts of marks by sizes; what is old stays where marks are set on what is new. -/
import Derived.Test.YtdcijleeoihlfaaV9N1
namespace Go.Dat
open Go.Abs
theorem leOut {a g g' : AHeap} {J : List Nat} (le : a.Le g) (w : a.wf) (o : Out J g g') (hJ : ∀ l ∈ J, a.n ≤ l) : a.Le g' :=
  ⟨Nat.le_trans le.n o.shp.n, fun l x hx => o.get l x (fun hm => by have h1 := hJ l hm; have h2 := w.lt hx; omega) (le.get l x hx)⟩
end Go.Dat
