/- The law FnExactClientNew at its plain functions: after some rounds they tell true. Condition: the argument is an int64. -/
import Derived.Test.YtgcckeglmhbnmaaPFnExactClientNewx2
namespace Go.Proofs.Ytgcckeglmhbnmaa.Pure
open Go.RowKit Go.Proofs.Ytgcckeglmhbnmaa.PFnExactClientNew Go.Proofs.YtgcckeglmhbnmaaW.PrintWords Go.Proofs.YtgcckeglmhbnmaaW.PrintLast

theorem FnExactClientNew : laws_FnExactClientNew.Pure := fun a0 _ => ⟨2, by
  have e : impl_ClientNew.f a0 = spec_ClientNew.f a0 := rfl
  unfold laws_FnExactClientNew.f
  rw [e]
  have key : ∀ r : Int × Int × Bool × (List S119) × ByteArray, r.2.2.2.1 = [] → (laws_eqClient.f 2 r.1 r.2.1 r.2.2.1 r.2.2.2.1 r.2.2.2.2 r.1 r.2.1 r.2.2.1 r.2.2.2.1 r.2.2.2.2) = some true ∧
      laws_markClient.f 2 r.1 r.2.1 r.2.2.1 r.2.2.2.1 r.2.2.2.2 1 = some (1, []) ∧ laws_heldClient.f 2 r.1 r.2.1 r.2.2.1 [] r.2.2.2.2 1 = some 1 := by
    rintro ⟨r0, r1, r2, r3, r4⟩ h
    dsimp at h
    subst h
    refine ⟨?_, rfl, rfl⟩
    simp [laws_eqClient.f, laws_eqHeardS.f, laws_eqHeardS.l0]
  have h2 : ∃ r, spec_ClientNew.f a0 = some r ∧ r.2.2.2.1 = [] := by
    unfold spec_ClientNew.f spec_l03Is.f
    by_cases h1 : a0 ≥ 1
    · by_cases h2 : a0 ≤ 9
      · exact ⟨(a0, 0, false, [], ⟨#[]⟩), by simp [h1, h2], rfl⟩
      · exact ⟨(0, 0, false, [], ⟨#[]⟩), by simp [h1, h2], rfl⟩
    · exact ⟨(0, 0, false, [], ⟨#[]⟩), by simp [h1], rfl⟩
  obtain ⟨r, hr, hn⟩ := h2
  obtain ⟨k1, k2, k3⟩ := key r hn
  simp only [hr, Option.bind_some, k1, k2, k3, if_true]
  rfl⟩

end Go.Proofs.Ytgcckeglmhbnmaa.Pure
