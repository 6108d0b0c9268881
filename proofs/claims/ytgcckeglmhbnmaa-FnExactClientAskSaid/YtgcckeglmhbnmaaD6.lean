/- The row of FnExactClientAsk: whatever the input, the law tells true and leaves its input as it was. -/
import Derived.Test.YtgcckeglmhbnmaaRows
import Derived.Test.YtgcckeglmhbnmaaK2
import Derived.Test.YtgcckeglmhbnmaaA30
import Derived.WalkKit
import Derived.ProofKit
import Derived.OpenShut
import Derived.ShutString
import Derived.ChangeOld
import Derived.Below
import Derived.SizedLaws
import Derived.Carry
namespace Go.Proofs.Ytgcckeglmhbnmaa.fnExactClientAsk
open Go.ChangeShapes Go.WideShapes Go.ChangeAt Go.RowKit
open Go.ChangeMaps (open_string shut_string)
open Go.Abs Go.Dat
theorem laid : laidOutB Try.prog = true := by kernel_rfl
theorem own : ownKnob Try.prog.godebug = none := by kernel_rfl
set_option maxRecDepth 100000 in
set_option maxHeartbeats 4000000 in
theorem lifted (os : Os) (started : os.Started) (H : Type) (enc : TypeId × Value → H) :
    ReturnsInHanded {} Try.checked os 12 .any (Rows.fnExactClientAskSpec.pre6 enc Try.prog Try.f12 Rows.fnExactClientAskRow.domain false) (Rows.fnExactClientAskSpec.post enc Try.prog Try.f12 false true false false) := by
  refine returnsInHanded_of_change_sized (C := Try.checked) own started (by kernel_rfl) Try.func12
    (ChangeSpec.witness6 (enc := enc) (C := Try.checked) false ⟨#[], #[.agg #[.int .i64 0, .int .i64 0, .bool false, .slice none 0 0, .string ByteArray.empty], .agg #[.int .i64 0, .int .i64 0, .int .i64 0, .string ByteArray.empty, .string ByteArray.empty, .string ByteArray.empty, .int .i64 0]], []⟩ 40 (by kernel_rfl) (by kernel_rfl) (by kernel_rfl) (by kernel_rfl)) ?_
  intro W base args ds gs before hval0 hW hcnd hsz0 _
  have hval : ∀ (j : Nat) t v, Try.f12.params[j]? = some t → args[j]? = some v → Value.okWide Try.prog W .any base t v := hval0
  have hW' := hW
  obtain ⟨p, q, hA0, hV, rfl, hfz, hnd⟩ := hW
  have hA : DataW.TrodAll enc Try.prog W 0 (fun _ => true) true Try.f12.params.toList args.toList ds p := hA0
  rw [Try.params12] at hA hval
  obtain ⟨v0, vs0, d0, ds0, p0, q0, hargs, rfl, rfl, h0, r0⟩ := trodAll_cons hA
  obtain ⟨v1, vs1, d1, ds1, p1, q1, rfl, rfl, rfl, h1, r1⟩ := trodAll_cons r0
  obtain ⟨rfl, rfl, rfl⟩ := trodAll_nil r1
  obtain rfl : args = #[v0, v1] := by cases args; simp_all
  obtain ⟨rfl, rfl⟩ := trodVars_none hV
  have hlt : ∀ x ∈ p0 ++ p1, x.block < W.heap.size := fun x hx => by simpa using hW'.lt x (by simpa using hx)
  obtain ⟨m0, y0, cs0, g0, x0, e0, ok0⟩ := arg_struct (m := 20) (s := clientSh) Try.underlying45 (by kernel_rfl) (hval 0 _ v0 rfl rfl) h0 IGood.nil
  obtain ⟨m1, y1, cs1, g1, x1, e1, ok1⟩ := arg_struct (m := 20) (s := commandSh) Try.underlying72 (by kernel_rfl) (hval 1 _ v1 rfl rfl) h1 g0
  have x0 := x0.mono (inHeap_le (more := m1))
  have e0 := e0.mono (inLay_le (more := m1))
  obtain ⟨u0_0, ec0, s0_0⟩ := rd_client.1 x0
  subst ec0
  have ec1 := rd_command.1 x1
  subst ec1
  obtain ⟨w, hE, hA2, rfl⟩ := lawClientAsk _ inHeap_wf y0 _ s0_0 ok0 y1 ok1
  refine (law_calls hA2 g1.rel (arel2 e0 e1)).mono fun e W' ⟨he, bel⟩ => ?_
  subst he
  exact ⟨_, rfl, _, _, _, [], _, [], hW', trodAll_mk1 (shut_bool Try.underlying4 _), (trodAll_cons_mk (Below.trod laid (by kernel_rfl) (of_decide_eq_true (by kernel_rfl)) h0 bel (fun x hx => hlt x (by simp [hx]))) (trodAll_mk1 (Below.trod laid (by kernel_rfl) (of_decide_eq_true (by kernel_rfl)) h1 bel (fun x hx => hlt x (by simp [hx]))))), rfl, bel.frame _, fun h => by cases h⟩
theorem over : Rows.fnExactClientAskRow.holds Try.pinned (OpenSpec.ofChange Rows.fnExactClientAskSpec) :=
  OpenClaim.holds_of_wide 12 Try.f12 rfl rfl rfl rfl rfl rfl rfl ⟨rfl, rfl, rfl, rfl, rfl⟩ rfl rfl rfl rfl rfl (by kernel_rfl) Try.func12 (by kernel_rfl)
    (of_decide_eq_true (by kernel_rfl)) (by unfold Func.isWrapper; first | (rw [if_pos (by decide +kernel)]; kernel_rfl) | (rw [if_neg (by decide +kernel)]; exact ⟨rfl, rfl⟩))
    (fun os started H enc _ => lifted os started H enc)
theorem proved : Rows.FnExactClientAskSaid := over
#print axioms proved
end Go.Proofs.Ytgcckeglmhbnmaa.fnExactClientAsk
namespace Go.Proofs.Ytgcckeglmhbnmaa
/-- The row, under a short name, for the claim. -/
theorem fnExactClientAsk_holds : Rows.FnExactClientAskSaid := fnExactClientAsk.proved
end Go.Proofs.Ytgcckeglmhbnmaa
