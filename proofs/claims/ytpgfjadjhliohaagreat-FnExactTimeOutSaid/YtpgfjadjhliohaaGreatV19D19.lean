/- D19. -/
import Derived.Test.YtpgfjadjhliohaaGreatRows
import Derived.Test.YtpgfjadjhliohaaGreatV19S12
import Derived.Test.YtpgfjadjhliohaaGreatV19R1
import Derived.WalkKit
import Derived.ProofKit
import Derived.OpenShut
import Derived.ShutString
import Derived.ChangeOld
import Derived.Below
import Derived.SizedLaws
import Derived.Carry
namespace Go.Proofs.YtpgfjadjhliohaaGreat.fnExactTimeOut
open Go.ChangeShapes Go.WideShapes Go.ChangeAt Go.RowKit
open Go.ChangeMaps (open_string shut_string)
open Go.Abs Go.Dat
theorem laid : laidOutB Tryz.prog = true := by kernel_rfl
theorem own : ownKnob Tryz.prog.godebug = none := by kernel_rfl
set_option maxRecDepth 100000 in
set_option maxHeartbeats 4000000 in
theorem lifted (os : Os) (started : os.Started) (H : Type) (enc : TypeId × Value → H) :
    ReturnsInHanded {} Tryz.checked os 6 .any (Rows.fnExactTimeOutSpec.pre6 enc Tryz.prog Tryz.f6 Rows.fnExactTimeOutRow.domain false) (Rows.fnExactTimeOutSpec.post enc Tryz.prog Tryz.f6 false true false false) := by
  refine returnsInHanded_of_change_sized (C := Tryz.checked) own started (by kernel_rfl) Tryz.func6
    (ChangeSpec.witness6 (enc := enc) (C := Tryz.checked) false ⟨#[], #[.agg #[.int .i64 0, .int .i64 0, .bool false, .int .i64 0, .slice none 0 0, .slice none 0 0, .int .i64 0, .int .i64 0, .int .i64 0, .int .i64 0, .string ByteArray.empty, .slice none 0 0, .slice none 0 0]], []⟩ 40 (by kernel_rfl) (by kernel_rfl) (by kernel_rfl) (by kernel_rfl)) ?_
  intro W base args ds gs before hval0 hW hcnd hsz0 _
  have hval : ∀ (j : Nat) t v, Tryz.f6.params[j]? = some t → args[j]? = some v → Value.okWide Tryz.prog W .any base t v := hval0
  have hW' := hW
  obtain ⟨p, q, hA0, hV, rfl, hfz, hnd⟩ := hW
  have hA : DataW.TrodAll enc Tryz.prog W 0 (fun _ => true) true Tryz.f6.params.toList args.toList ds p := hA0
  rw [Tryz.params6] at hA hval
  obtain ⟨v0, vs0, d0, ds0, p0, q0, hargs, rfl, rfl, h0, r0⟩ := trodAll_cons hA
  obtain ⟨rfl, rfl, rfl⟩ := trodAll_nil r0
  obtain rfl : args = #[v0] := by cases args; simp_all
  obtain ⟨rfl, rfl⟩ := trodVars_none hV
  have hlt : ∀ x ∈ p0, x.block < W.heap.size := fun x hx => by simpa using hW'.lt x (by simpa using hx)
  obtain ⟨m0, y0, cs0, g0, x0, e0, ok0⟩ := arg_struct (m := 20) (s := replicaSh) Tryz.underlying28 (by kernel_rfl) (hval 0 _ v0 rfl rfl) h0 IGood.nil
  obtain ⟨u0_0, u0_1, u0_2, u0_3, ec0, s0_0, s0_1, s0_2, s0_3⟩ := rd_replica.1 x0
  subst ec0
  obtain ⟨w, hE, hA2, rfl⟩ := lawTimeOut _ inHeap_wf y0 _ _ _ _ s0_0 s0_1 s0_2 s0_3 ok0
  refine (law_calls hA2 g0.rel (arel1 e0)).mono fun e W' ⟨he, bel⟩ => ?_
  subst he
  exact ⟨_, rfl, _, _, _, [], _, [], hW', trodAll_mk1 (shut_bool Tryz.underlying4 _), (trodAll_mk1 (Below.trod laid (by kernel_rfl) (of_decide_eq_true (by kernel_rfl)) h0 bel (fun x hx => by first | (cases hx; done) | exact hlt x (by simp [hx])))), rfl, bel.frame _, fun h => by cases h⟩
theorem over : Rows.fnExactTimeOutRow.holds Tryz.pinned (OpenSpec.ofChange Rows.fnExactTimeOutSpec) :=
  OpenClaim.holds_of_wide 6 Tryz.f6 rfl rfl rfl rfl rfl rfl rfl ⟨rfl, rfl, rfl, rfl, rfl⟩ rfl rfl rfl rfl rfl (by kernel_rfl) Tryz.func6 (by kernel_rfl)
    (of_decide_eq_true (by kernel_rfl)) (by unfold Func.isWrapper; first | (rw [if_pos (by decide +kernel)]; kernel_rfl) | (rw [if_neg (by decide +kernel)]; exact ⟨rfl, rfl⟩))
    (fun os started H enc _ => lifted os started H enc)
theorem proved : Rows.FnExactTimeOutSaid := over
#print axioms proved
end Go.Proofs.YtpgfjadjhliohaaGreat.fnExactTimeOut
namespace Go.Proofs.YtpgfjadjhliohaaGreat
theorem fnExactTimeOut_holds : Rows.FnExactTimeOutSaid := fnExactTimeOut.proved
end Go.Proofs.YtpgfjadjhliohaaGreat
