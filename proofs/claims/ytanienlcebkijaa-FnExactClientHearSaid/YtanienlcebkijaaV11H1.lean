/- Contracts: numbers in bytes. -/
import Derived.Test.YtanienlcebkijaaV11J1
namespace Go.Dat
open Go.Abs
def foldN (n : Int) : Nat := if n < 0 then (2 * (-(n + 1)) + 1).toNat else (2 * n).toNat
def oneB (v : Nat) : ByteArray := ⟨#[UInt8.ofNat v]⟩
def vb (u : Nat) : ByteArray := if u < 128 then oneB u else oneB (u % 128 + 128) ++ vb (u / 128)
termination_by u
decreasing_by omega
theorem vb_lo {u : Nat} (h : u < 128) : vb u = oneB u := by rw [vb, if_pos h]
theorem vb_hi {u : Nat} (h : ¬ u < 128) : vb u = oneB (u % 128 + 128) ++ vb (u / 128) := by rw [vb, if_neg h]
theorem oneB_size (v : Nat) : (oneB v).size = 1 := rfl
theorem vb_size : ∀ (k u : Nat), u < 128 ^ (k + 1) → (vb u).size ≤ k + 1
  | 0, u, h => by rw [vb_lo (by simpa using h)]; exact Nat.le_refl _
  | k + 1, u, h => by
    by_cases hu : u < 128
    · rw [vb_lo hu, oneB_size]; omega
    · rw [vb_hi hu, ByteArray.size_append, oneB_size]
      have := vb_size k (u / 128) (by rw [Nat.div_lt_iff_lt_mul (by omega), ← Nat.pow_succ]; exact h)
      omega
theorem foldN_lt {n : Int} (h : -9223372036854775808 ≤ n ∧ n ≤ 9223372036854775807) : foldN n < 18446744073709551616 := by
  unfold foldN; split <;> omega
theorem BInv.push {h0 h : AHeap} {a : Option Addr} {n c : Nat} {b : ByteArray} (I : BInv h0 h a n c b) (o : AObj) : BInv h0 (h.push o) a n c b :=
  ⟨I.le.trans (.push I.wf _), I.wf.push _, I.wf0, I.nb, I.at_.imp id fun ⟨l, e, h1, h2, h3⟩ => ⟨l, e, h1, (AHeap.Le.push I.wf o).get l _ h2, h3⟩⟩
theorem BInv.nil {h : AHeap} (hw : h.wf) : BInv h h none 0 0 ⟨#[]⟩ := ⟨.refl _, hw, hw, rfl, .inl ⟨rfl, rfl, rfl⟩⟩
end Go.Dat
namespace Go.Proofs.Ytanienlcebkijaa
open Go.Abs Go.Dat
set_option maxRecDepth 100000
set_option maxHeartbeats 4000000
end Go.Proofs.Ytanienlcebkijaa
