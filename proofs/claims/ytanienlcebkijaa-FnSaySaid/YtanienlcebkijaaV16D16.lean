/- D16. -/
import Derived.Test.YtanienlcebkijaaRows
import Derived.Test.YtanienlcebkijaaV16Q6
import Derived.Test.YtanienlcebkijaaV16S1
import Derived.WalkKit
import Derived.ProofKit
import Derived.OpenShut
import Derived.ShutString
import Derived.ChangeOld
import Derived.Below
import Derived.SizedLaws
import Derived.Carry
namespace Go.Proofs.Ytanienlcebkijaa.fnSay
open Go.ChangeShapes Go.WideShapes Go.ChangeAt Go.RowKit
open Go.ChangeMaps (open_string shut_string)
open Go.Abs Go.Dat
theorem laid : laidOutB Try.prog = true := by kernel_rfl
theorem own : ownKnob Try.prog.godebug = none := by kernel_rfl
set_option maxRecDepth 100000 in
set_option maxHeartbeats 4000000 in
theorem lifted (os : Os) (started : os.Started) (H : Type) (enc : TypeId × Value → H) :
    ReturnsInHanded {} Try.checked os 6 .any (Rows.fnSaySpec.pre6 enc Try.prog Try.f6 Rows.fnSayRow.domain false) (Rows.fnSaySpec.post enc Try.prog Try.f6 false true false false) := by
  refine returnsInHanded_of_change_sized (C := Try.checked) own started (by kernel_rfl) Try.func6
    (ChangeSpec.witness6 (enc := enc) (C := Try.checked) false ⟨#[], #[.slice none 0 0, .slice none 0 0], []⟩ 40 (by kernel_rfl) (by kernel_rfl) (by kernel_rfl) (by kernel_rfl)) ?_
  intro W base args ds gs before hval0 hW hcnd hsz0 _
  have hval : ∀ (j : Nat) t v, Try.f6.params[j]? = some t → args[j]? = some v → Value.okWide Try.prog W .any base t v := hval0
  have hW' := hW
  obtain ⟨p, q, hA0, hV, rfl, hfz, hnd⟩ := hW
  have hA : DataW.TrodAll enc Try.prog W 0 (fun _ => true) true Try.f6.params.toList args.toList ds p := hA0
  rw [Try.params6] at hA hval
  obtain ⟨v0, vs0, d0, ds0, p0, q0, hargs, rfl, rfl, h0, r0⟩ := trodAll_cons hA
  obtain ⟨v1, vs1, d1, ds1, p1, q1, rfl, rfl, rfl, h1, r1⟩ := trodAll_cons r0
  obtain ⟨rfl, rfl, rfl⟩ := trodAll_nil r1
  obtain rfl : args = #[v0, v1] := by cases args; simp_all
  obtain ⟨rfl, rfl⟩ := trodVars_none hV
  have hlt : ∀ x ∈ p0 ++ p1, x.block < W.heap.size := fun x hx => by simpa using hW'.lt x (by simpa using hx)
  obtain ⟨m0, y0, a0, n0, c0, g0, x0, e0, ok0⟩ := arg_slice (m := 20) (s := Sh.byte) Try.underlying22 (by kernel_rfl) (hval 0 _ v0 rfl rfl) h0 IGood.nil
  obtain ⟨m1, y1, a1, n1, c1, g1, x1, e1, ok1⟩ := arg_slice (m := 20) (s := Sh.byte) Try.underlying22 (by kernel_rfl) (hval 1 _ v1 rfl rfl) h1 g0
  have x0 := x0.mono (inHeap_le (more := m1))
  have e0 := e0.mono (inLay_le (more := m1))
  obtain ⟨w, hE, hA2, rfl⟩ := lawFSay _ inHeap_wf a0 n0 c0 y0 x0 ok0 a1 n1 c1 y1 x1 ok1
  refine (law_calls hA2 g1.rel (arel2 e0 e1)).mono fun e W' ⟨he, bel⟩ => ?_
  subst he
  exact ⟨_, rfl, _, _, _, [], _, [], hW', trodAll_mk1 (shut_bool Try.underlying4 _), (trodAll_cons_mk (Below.trod laid (by kernel_rfl) (of_decide_eq_true (by kernel_rfl)) h0 bel (fun x hx => by first | (cases hx; done) | exact hlt x (by simp [hx]))) (trodAll_mk1 (Below.trod laid (by kernel_rfl) (of_decide_eq_true (by kernel_rfl)) h1 bel (fun x hx => by first | (cases hx; done) | exact hlt x (by simp [hx]))))), rfl, bel.frame _, fun h => by cases h⟩
theorem over : Rows.fnSayRow.holds Try.pinned (OpenSpec.ofChange Rows.fnSaySpec) :=
  OpenClaim.holds_of_wide 6 Try.f6 rfl rfl rfl rfl rfl rfl rfl ⟨rfl, rfl, rfl, rfl, rfl⟩ rfl rfl rfl rfl rfl (by kernel_rfl) Try.func6 (by kernel_rfl)
    (of_decide_eq_true (by kernel_rfl)) (by unfold Func.isWrapper; first | (rw [if_pos (by decide +kernel)]; kernel_rfl) | (rw [if_neg (by decide +kernel)]; exact ⟨rfl, rfl⟩))
    (fun os started H enc _ => lifted os started H enc)
theorem proved : Rows.FnSaySaid := over
#print axioms proved
end Go.Proofs.Ytanienlcebkijaa.fnSay
namespace Go.Proofs.Ytanienlcebkijaa
theorem fnSay_holds : Rows.FnSaySaid := fnSay.proved
end Go.Proofs.Ytanienlcebkijaa
