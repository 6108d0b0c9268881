/- Contracts: texts that mark, equality of rows of strings. -/
import Derived.Test.YtanienlcebkijaaV11G0
namespace Go.Dat
def digB (k : Nat) : ByteArray := ⟨#[UInt8.ofNat (48 + k % 10)]⟩
def mtl (k : Nat) (out : ByteArray) : ByteArray := if k = 0 then out else mtl (k / 10) (digB k ++ out)
termination_by k
decreasing_by omega
def mtext (k : Int) : ByteArray := if k ≤ 0 then ⟨#[109, 48]⟩ else ⟨#[109]⟩ ++ mtl k.toNat ⟨#[]⟩
end Go.Dat
namespace Go.Proofs.Ytanienlcebkijaa
open Go.Abs Go.Dat
set_option maxRecDepth 100000
def mtL (k0 : Int) : LSpec where
  ι := Int × ByteArray × AHeap
  κ := ByteArray × AHeap
  I := fun i => 0 ≤ i.1 ∧ i.2.2.wf ∧ (i.2.1.size : Int) + i.1 ≤ k0
  μ := fun i => i.1.toNat
  head := fun i => ⟨[(0, .int .i64 i.1), (3, .string i.2.1)], [], i.2.2⟩
  post := fun j => ⟨[(3, .string j.1)], [], j.2⟩
  R := fun i j => j.1 = mtl i.1.toNat i.2.1 ∧ i.2.2.Le j.2 ∧ j.2.wf ∧ (j.1.size : Int) ≤ k0
  ret := fun _ _ _ => False
theorem digB_rows (k : Int) (hk : 0 ≤ k ∧ k ≤ 9223372036854775807) : [[Value.int .u8 (IntKind.wrap .u8 (IntKind.wrap .i64 (48 + Int.tmod k 10)))]] = bytesRows (digB k.toNat) := by
  have e : Int.tmod k 10 = k % 10 := Int.tmod_eq_emod_of_nonneg hk.1
  rw [e, wrap_i64 (by omega)]
  have e2 : IntKind.wrap .u8 (48 + k % 10) = 48 + k % 10 := by
    rw [wrap_u8]; omega
  rw [e2]
  unfold bytesRows digB
  simp only [List.map_cons, List.map_nil]
  congr 3
  rw [UInt8.toNat_ofNat']
  omega
theorem mt_spec (k : Int) (h : AHeap) (hw : h.wf) (hk : k ≤ 1000000000000000000)  : PCall Try.prog 150 [.int .i64 k] h fun v _ => v = .string (mtext k) := by
  refine acall_by (fun _ => true) (fun _ => []) (fun _ => mtL k) mixed Try.func150 rfl rfl rfl (Nat.le_of_ble_eq_true rfl) ?_ ?_
  · refine Eq.mp (by kernel_rfl : (True ∧ (True ∧ (True ∧ True) ∧ True) ∧ True ∧ ((∀ (i : Int × ByteArray × AHeap), (0 : Int) ≤ Prod.fst i ∧ AHeap.wf (Prod.snd (Prod.snd i)) ∧ (↑(ByteArray.size (Prod.fst (Prod.snd i))) : Int) + Prod.fst i ≤ k → bs (decide (Prod.fst i > (0 : Int))) ((10 : Int) ≠ (0 : Int) ∧ ∃ (s : ByteArray), AHeap.rowsOf (AHeap.push (Prod.snd (Prod.snd i)) (AObj.mk [[Value.int IntKind.u8 (IntKind.wrap IntKind.u8 (IntKind.wrap IntKind.i64 ((48 : Int) + Int.tmod (Prod.fst i) (10 : Int))))]] (1 : Nat) true)) (Value.slice (some (Addr.mk (AHeap.n (Prod.snd (Prod.snd i))) (0 : Nat) (some (1 : Nat)))) (1 : Nat) (2 : Nat)) = some (bytesRows s) ∧ ByteArray.size s + ByteArray.size (Prod.fst (Prod.snd i)) ≤ (9223372036854775807 : Nat) ∧ (10 : Int) ≠ (0 : Int) ∧ ∃ (j : Int × ByteArray × AHeap), Value.int IntKind.i64 (IntKind.wrap IntKind.i64 (Int.tdiv (Prod.fst i) (10 : Int))) = Value.int IntKind.i64 (Prod.fst j) ∧ Value.string (Append.append s (Prod.fst (Prod.snd i))) = Value.string (Prod.fst (Prod.snd j)) ∧ Prod.snd (Prod.snd j) = AHeap.push (Prod.snd (Prod.snd i)) (AObj.mk [[Value.int IntKind.u8 (IntKind.wrap IntKind.u8 (IntKind.wrap IntKind.i64 ((48 : Int) + Int.tmod (Prod.fst i) (10 : Int))))]] (1 : Nat) true) ∧ ((0 : Int) ≤ Prod.fst j ∧ AHeap.wf (Prod.snd (Prod.snd j)) ∧ (↑(ByteArray.size (Prod.fst (Prod.snd j))) : Int) + Prod.fst j ≤ k) ∧ Int.toNat (Prod.fst j) < Int.toNat (Prod.fst i) ∧ (∀ (k_1 : ByteArray × AHeap), Prod.fst k_1 = mtl (Int.toNat (Prod.fst j)) (Prod.fst (Prod.snd j)) ∧ AHeap.Le (Prod.snd (Prod.snd j)) (Prod.snd k_1) ∧ AHeap.wf (Prod.snd k_1) ∧ (↑(ByteArray.size (Prod.fst k_1)) : Int) ≤ k → Prod.fst k_1 = mtl (Int.toNat (Prod.fst i)) (Prod.fst (Prod.snd i)) ∧ AHeap.Le (Prod.snd (Prod.snd i)) (Prod.snd k_1) ∧ AHeap.wf (Prod.snd k_1) ∧ (↑(ByteArray.size (Prod.fst k_1)) : Int) ≤ k) ∧ ∀ (v : Value) (h : AHeap), False → False) (∃ (j : ByteArray × AHeap), Value.string (Prod.fst (Prod.snd i)) = Value.string (Prod.fst j) ∧ Prod.snd j = Prod.snd (Prod.snd i) ∧ Prod.fst j = mtl (Int.toNat (Prod.fst i)) (Prod.fst (Prod.snd i)) ∧ AHeap.Le (Prod.snd (Prod.snd i)) (Prod.snd j) ∧ AHeap.wf (Prod.snd j) ∧ (↑(ByteArray.size (Prod.fst j)) : Int) ≤ k)) ∧ (True ∧ True ∧ True) ∧ True ∧ True) ∧ True ∧ True) = _) ?_
    simp only [true_and, and_true]
    rintro ⟨i, out, h1⟩ ⟨h0, hw1, hs⟩
    dsimp only at *
    refine bs_dec (fun hp => ?_) (fun hp => ?_)
    · rw [digB_rows i (by omega)]
      have e1 : Int.tdiv i 10 = i / 10 := Int.tdiv_eq_ediv_of_nonneg h0
      have e2 : (digB i.toNat).size = 1 := rfl
      refine ⟨by omega, digB i.toNat, ?_, by rw [e2]; omega, by omega, (i / 10, digB i.toNat ++ out, h1.push ⟨bytesRows (digB i.toNat), 1, true⟩), by rw [e1, wrap_i64 (by omega)], rfl, rfl, ⟨by dsimp only; omega, hw1.push _, ?_⟩, by dsimp only; omega, ?_, fun _ _ h => h⟩
      · unfold AHeap.rowsOf
        dsimp only
        rw [AHeap.get_push_eq]
        rfl
      · dsimp only; rw [ByteArray.size_append, e2]; omega
      · rintro ⟨o2, h2⟩ ⟨a, b, c, d⟩
        dsimp only at *
        refine ⟨?_, (AHeap.Le.push hw1 _).trans b, c, d⟩
        rw [mtl, if_neg (by omega), a]
        congr 1
        omega
    · refine ⟨(out, h1), rfl, rfl, ?_, .refl _, hw1, by dsimp only; omega⟩
      rw [mtl, if_pos (by omega)]
  · refine Eq.mp (by kernel_rfl : (bs (decide (k ≤ (0 : Int))) (AHeap.Le h h ∧ AHeap.wf h ∧ Value.string (ByteArray.mk (Array.mk [(109 : UInt8), (48 : UInt8)])) = Value.string (mtext k)) (∃ (i : Int × ByteArray × AHeap), Value.int IntKind.i64 k = Value.int IntKind.i64 (Prod.fst i) ∧ Value.string (ByteArray.mk (Array.mk [])) = Value.string (Prod.fst (Prod.snd i)) ∧ Prod.snd (Prod.snd i) = h ∧ ((0 : Int) ≤ Prod.fst i ∧ AHeap.wf (Prod.snd (Prod.snd i)) ∧ (↑(ByteArray.size (Prod.fst (Prod.snd i))) : Int) + Prod.fst i ≤ k) ∧ (∀ (j : ByteArray × AHeap), Prod.fst j = mtl (Int.toNat (Prod.fst i)) (Prod.fst (Prod.snd i)) ∧ AHeap.Le (Prod.snd (Prod.snd i)) (Prod.snd j) ∧ AHeap.wf (Prod.snd j) ∧ (↑(ByteArray.size (Prod.fst j)) : Int) ≤ k → ByteArray.size (ByteArray.mk (Array.mk [(109 : UInt8)])) + ByteArray.size (Prod.fst j) ≤ (9223372036854775807 : Nat) ∧ AHeap.Le h (Prod.snd j) ∧ AHeap.wf (Prod.snd j) ∧ Value.string (Append.append (ByteArray.mk (Array.mk [(109 : UInt8)])) (Prod.fst j)) = Value.string (mtext k)) ∧ ∀ (v : Value) (h_1 : AHeap), False → AHeap.Le h h_1 ∧ AHeap.wf h_1 ∧ v = Value.string (mtext k))) = _) ?_
    refine bs_dec (fun hp => ?_) (fun hp => ?_)
    · exact ⟨.refl _, hw, by unfold mtext; rw [if_pos hp]⟩
    · refine ⟨(k, ⟨#[]⟩, h), rfl, rfl, rfl, ⟨by dsimp only; omega, hw, ?_⟩, ?_, fun _ _ h => h.elim⟩
      · show ((0 : Nat) : Int) + k ≤ k; omega
      · rintro ⟨o, h2⟩ ⟨a, b, c, d⟩
        dsimp only at *
        refine ⟨?_, b, c, ?_⟩
        · show 1 + o.size ≤ _; omega
        · unfold mtext; rw [if_neg hp, a]; rfl
end Go.Proofs.Ytanienlcebkijaa
