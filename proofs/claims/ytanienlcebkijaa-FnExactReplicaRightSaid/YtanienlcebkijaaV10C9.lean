/- Contracts: clients that are right. -/
import Derived.Test.YtanienlcebkijaaV10C3
import Derived.Test.YtanienlcebkijaaV10G1
namespace Go.Dat
open Go.Abs
open Classical in
noncomputable def tr (p : Prop) : Bool := decide p
theorem tr_true {p : Prop} (h : p) : true = tr p := by unfold tr; simp [h]
theorem tr_false {p : Prop} (h : ¬ p) : false = tr p := by unfold tr; simp [h]
theorem of_tr {p : Prop} (h : tr p = true) : p := by unfold tr at h; simpa using h
theorem of_trn {p : Prop} (h : tr p = false) : ¬ p := by unfold tr at h; simpa using h
end Go.Dat
namespace Go.Proofs.Ytanienlcebkijaa
open Go.Abs Go.Dat
set_option maxRecDepth 100000
set_option maxHeartbeats 4000000
end Go.Proofs.Ytanienlcebkijaa
