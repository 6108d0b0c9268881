/- Contracts: brokers that are right. -/
import Derived.Test.YtanienlcebkijaaV11F4
namespace Go.Dat
open Go.Abs
def TopAt (ts : List topicSh.T) (i : Nat) : Prop := ∃ (n : ByteArray) (b : Int) (hs : List Sh.str.T) (gs : List groupSh.T), ts[i]? = some (n, b, hs, gs) ∧ TopicOk n b hs gs ∧ ∀ j, i = j + 1 → ∃ (m : ByteArray) (x : Int × List Sh.str.T × List groupSh.T), ts[j]? = some (m, x) ∧ Op.bytesLess m.toList n.toList = true
def RepAt (rs : List replySh.T) (i : Nat) : Prop := ∃ (c n : Int) (t : ByteArray), rs[i]? = some (c, n, t) ∧ (1 ≤ c ∧ c ≤ 9) ∧ (1 ≤ n ∧ n ≤ 1000000000) ∧ t.size ≤ 900 ∧ ∀ j, i = j + 1 → ∃ (d : Int) (x : Int × ByteArray), rs[j]? = some (d, x) ∧ d < c
def BrokerOk (ts : List topicSh.T) (rs : List replySh.T) : Prop := ts.length ≤ 4 ∧ rs.length ≤ 9 ∧ (∀ i, i < ts.length → TopAt ts i) ∧ ∀ i, i < rs.length → RepAt rs i
theorem TopAt.mk0 {ts : List topicSh.T} {n : ByteArray} {b : Int} {hs : List Sh.str.T} {gs : List groupSh.T} {i : Nat} (e : ts[i]? = some (n, b, hs, gs)) (h1 : TopicOk n b hs gs) (hi0 : i = 0) : TopAt ts i := ⟨n, b, hs, gs, e, h1, fun j hj => by omega⟩
theorem TopAt.out {ts : List topicSh.T} {n : ByteArray} {b : Int} {hs : List Sh.str.T} {gs : List groupSh.T} {i : Nat} (H : TopAt ts i) (e : ts[i]? = some (n, b, hs, gs)) : TopicOk n b hs gs ∧ ∀ m x, 0 < i → ts[i - 1]? = some (m, x) → Op.bytesLess m.toList n.toList = true := by
  obtain ⟨n', b', hs', gs', e', h1, h3⟩ := H
  rw [e] at e'
  cases e'
  refine ⟨h1, fun m l hp e2 => ?_⟩
  obtain ⟨m', l', e3, h4⟩ := h3 (i - 1) (by omega)
  rw [e2] at e3
  cases e3
  exact h4
theorem RepAt.mk0 {rs : List replySh.T} {c n : Int} {t : ByteArray} {i : Nat} (e : rs[i]? = some (c, n, t)) (h1 : 1 ≤ c ∧ c ≤ 9) (h2 : 1 ≤ n ∧ n ≤ 1000000000) (h3 : t.size ≤ 900) (hi0 : i = 0) : RepAt rs i := ⟨c, n, t, e, h1, h2, h3, fun j hj => by omega⟩
theorem RepAt.out {rs : List replySh.T} {c n : Int} {t : ByteArray} {i : Nat} (H : RepAt rs i) (e : rs[i]? = some (c, n, t)) : (1 ≤ c ∧ c ≤ 9) ∧ (1 ≤ n ∧ n ≤ 1000000000) ∧ t.size ≤ 900 ∧ ∀ (d : Int) (x : Int × ByteArray), 0 < i → rs[i - 1]? = some (d, x) → d < c := by
  obtain ⟨c', n', t', e', h1, h2, h3, h5⟩ := H
  rw [e] at e'
  cases e'
  refine ⟨h1, h2, h3, fun d x hp e2 => ?_⟩
  obtain ⟨d', x', e3, h4⟩ := h5 (i - 1) (by omega)
  rw [e2] at e3
  cases e3
  exact h4
end Go.Dat
namespace Go.Proofs.Ytanienlcebkijaa
open Go.Abs Go.Dat
set_option maxRecDepth 100000
set_option maxHeartbeats 4000000
end Go.Proofs.Ytanienlcebkijaa
