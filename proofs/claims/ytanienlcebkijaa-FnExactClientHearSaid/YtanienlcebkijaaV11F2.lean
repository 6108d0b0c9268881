/- Contracts: topics that are right, in the reference. -/
import Derived.Test.YtanienlcebkijaaV11F1
namespace Go.Dat
open Go.Abs
def HeldOk (hs : List Sh.str.T) (i : Nat) : Prop := ∃ t : ByteArray, hs[i]? = some t ∧ MsgOk t
def GrpOk (gs : List groupSh.T) (lo hi : Int) (i : Nat) : Prop := ∃ (n : ByteArray) (k : Int), gs[i]? = some (n, k) ∧ NameOk n ∧ (lo ≤ k ∧ k ≤ hi) ∧ ∀ j, i = j + 1 → ∃ (m : ByteArray) (l : Int), gs[j]? = some (m, l) ∧ Op.bytesLess m.toList n.toList = true
def TopicOk (name : ByteArray) (base : Int) (held : List Sh.str.T) (gs : List groupSh.T) : Prop :=
  NameOk name ∧ (0 ≤ base ∧ base ≤ 1000000000) ∧ held.length ≤ 20 ∧ gs.length ≤ 4 ∧ base + held.length ≤ 1000000000 ∧ (∀ i, i < held.length → HeldOk held i) ∧ ∀ i, i < gs.length → GrpOk gs base (base + held.length) i
theorem GrpOk.mk0 {gs : List groupSh.T} {lo hi k : Int} {n : ByteArray} {i : Nat} (e : gs[i]? = some (n, k)) (h1 : NameOk n) (h2 : lo ≤ k ∧ k ≤ hi) (hi0 : i = 0) : GrpOk gs lo hi i := ⟨n, k, e, h1, h2, fun j hj => by omega⟩
theorem GrpOk.out {gs : List groupSh.T} {lo hi k : Int} {n : ByteArray} {i : Nat} (H : GrpOk gs lo hi i) (e : gs[i]? = some (n, k)) : NameOk n ∧ lo ≤ k ∧ k ≤ hi ∧ ∀ m l, 0 < i → gs[i - 1]? = some (m, l) → Op.bytesLess m.toList n.toList = true := by
  obtain ⟨n', k', e', h1, h2, h3⟩ := H
  rw [e] at e'
  cases e'
  refine ⟨h1, h2.1, h2.2, fun m l hp e2 => ?_⟩
  obtain ⟨m', l', e3, h4⟩ := h3 (i - 1) (by omega)
  rw [e2] at e3
  cases e3
  exact h4
theorem HeldOk.out {hs : List Sh.str.T} {t : ByteArray} {i : Nat} (H : HeldOk hs i) (e : hs[i]? = some t) : MsgOk t := by
  obtain ⟨t', e', h1⟩ := H
  rw [e] at e'
  cases e'
  exact h1
end Go.Dat
namespace Go.Proofs.Ytanienlcebkijaa
open Go.Abs Go.Dat
set_option maxRecDepth 100000
set_option maxHeartbeats 4000000
end Go.Proofs.Ytanienlcebkijaa
