/- Contracts: marks on what is empty. Written by gen.py. -/
import Derived.Test.YtgcckeglmhbnmaaG1
namespace Go.Abs
def nilLp (h : AHeap) (k : Int) : LSpec where
  ι := Unit
  κ := Unit
  I := fun _ => True
  μ := fun _ => 0
  head := fun _ => ⟨[(0, .slice none 0 0), (1, .int .i64 k), (5, .int .i64 0)], [], h⟩
  post := fun _ => ⟨[(1, .int .i64 k)], [], h⟩
  R := fun _ _ => True
  ret := fun _ _ _ => False
end Go.Abs
namespace Go.Proofs.Ytgcckeglmhbnmaa
open Go.Abs Go.Dat
set_option maxRecDepth 100000
set_option maxHeartbeats 4000000
theorem markInt64S_nil (h : AHeap) (k : Int) : ACall Try.prog 156 [.slice none 0 0, .int .i64 k] h (.int .i64 k) h := by
  refine acall_out (acall_vc (fun _ => false) (fun _ => []) (fun _ => nilLp h k) mixed Try.func156 rfl rfl rfl (Nat.le_of_ble_eq_true rfl) ?_ ?_)
  · refine vc_mp (by kernel_rfl : (True ∧ (True ∧ (∀ (i : Unit), True → ∃ (j : Unit), Value.int IntKind.i64 k = Value.int IntKind.i64 k ∧ h = h ∧ True) ∧ (True ∧ True ∧ True) ∧ (True ∧ True) ∧ True) ∧ True ∧ True) = _) ?_
    simp only [true_and, and_true]
    exact fun _ _ => ⟨(), trivial⟩
  · refine vc_mp (by kernel_rfl : (∃ (i : Unit), Value.slice none (0 : Nat) (0 : Nat) = Value.slice none (0 : Nat) (0 : Nat) ∧ Value.int IntKind.i64 k = Value.int IntKind.i64 k ∧ Value.int IntKind.i64 (0 : Int) = Value.int IntKind.i64 (0 : Int) ∧ h = h ∧ True ∧ (∀ (j : Unit), True → Value.int IntKind.i64 k = Value.int IntKind.i64 k ∧ h = h) ∧ ∀ (v : Value) (h_1 : AHeap), False → v = Value.int IntKind.i64 k ∧ h_1 = h) = _) ?_
    exact ⟨(), rfl, rfl, rfl, rfl, trivial, fun _ _ => ⟨rfl, rfl⟩, fun _ _ h => h.elim⟩
theorem heldInt64S_nil (h : AHeap) (k : Int) : ACall Try.prog 157 [.slice none 0 0, .int .i64 k] h (.int .i64 k) h := by
  refine acall_out (acall_vc (fun _ => false) (fun _ => []) (fun _ => nilLp h k) mixed Try.func157 rfl rfl rfl (Nat.le_of_ble_eq_true rfl) ?_ ?_)
  · refine vc_mp (by kernel_rfl : (True ∧ (True ∧ (∀ (i : Unit), True → ∃ (j : Unit), Value.int IntKind.i64 k = Value.int IntKind.i64 k ∧ h = h ∧ True) ∧ (True ∧ True ∧ True) ∧ ((True ∧ (True ∧ True) ∧ True) ∧ True) ∧ True) ∧ True ∧ True) = _) ?_
    simp only [true_and, and_true]
    exact fun _ _ => ⟨(), trivial⟩
  · refine vc_mp (by kernel_rfl : (∃ (i : Unit), Value.slice none (0 : Nat) (0 : Nat) = Value.slice none (0 : Nat) (0 : Nat) ∧ Value.int IntKind.i64 k = Value.int IntKind.i64 k ∧ Value.int IntKind.i64 (0 : Int) = Value.int IntKind.i64 (0 : Int) ∧ h = h ∧ True ∧ (∀ (j : Unit), True → Value.int IntKind.i64 k = Value.int IntKind.i64 k ∧ h = h) ∧ ∀ (v : Value) (h_1 : AHeap), False → v = Value.int IntKind.i64 k ∧ h_1 = h) = _) ?_
    exact ⟨(), rfl, rfl, rfl, rfl, trivial, fun _ _ => ⟨rfl, rfl⟩, fun _ _ h => h.elim⟩
theorem markStringS_nil (h : AHeap) (k : Int) : ACall Try.prog 18 [.slice none 0 0, .int .i64 k] h (.int .i64 k) h := by
  refine acall_out (acall_vc (fun _ => false) (fun _ => []) (fun _ => nilLp h k) mixed Try.func18 rfl rfl rfl (Nat.le_of_ble_eq_true rfl) ?_ ?_)
  · refine vc_mp (by kernel_rfl : (True ∧ (True ∧ (∀ (i : Unit), True → ∃ (j : Unit), Value.int IntKind.i64 k = Value.int IntKind.i64 k ∧ h = h ∧ True) ∧ (True ∧ True ∧ True) ∧ (True ∧ True) ∧ True) ∧ True ∧ True) = _) ?_
    simp only [true_and, and_true]
    exact fun _ _ => ⟨(), trivial⟩
  · refine vc_mp (by kernel_rfl : (∃ (i : Unit), Value.slice none (0 : Nat) (0 : Nat) = Value.slice none (0 : Nat) (0 : Nat) ∧ Value.int IntKind.i64 k = Value.int IntKind.i64 k ∧ Value.int IntKind.i64 (0 : Int) = Value.int IntKind.i64 (0 : Int) ∧ h = h ∧ True ∧ (∀ (j : Unit), True → Value.int IntKind.i64 k = Value.int IntKind.i64 k ∧ h = h) ∧ ∀ (v : Value) (h_1 : AHeap), False → v = Value.int IntKind.i64 k ∧ h_1 = h) = _) ?_
    exact ⟨(), rfl, rfl, rfl, rfl, trivial, fun _ _ => ⟨rfl, rfl⟩, fun _ _ h => h.elim⟩
theorem heldStringS_nil (h : AHeap) (k : Int) : ACall Try.prog 19 [.slice none 0 0, .int .i64 k] h (.int .i64 k) h := by
  refine acall_out (acall_vc (fun _ => false) (fun r => match r with | 4 => [(0, 0, []), (1, 0, []), (2, 0, []), (4, 0, []), (3, 1, []), (5, 3, [3]), (6, 0, [])] | _ => []) (fun _ => nilLp h k) mixed Try.func19 rfl rfl rfl (Nat.le_of_ble_eq_true rfl) ?_ ?_)
  · refine vc_mp (by kernel_rfl : (True ∧ (True ∧ (∀ (i : Unit), True → ∃ (j : Unit), Value.int IntKind.i64 k = Value.int IntKind.i64 k ∧ h = h ∧ True) ∧ (True ∧ True ∧ True) ∧ ((True ∧ (True ∧ True) ∧ True) ∧ True) ∧ True) ∧ True ∧ True) = _) ?_
    simp only [true_and, and_true]
    exact fun _ _ => ⟨(), trivial⟩
  · refine vc_mp (by kernel_rfl : (∃ (i : Unit), Value.slice none (0 : Nat) (0 : Nat) = Value.slice none (0 : Nat) (0 : Nat) ∧ Value.int IntKind.i64 k = Value.int IntKind.i64 k ∧ Value.int IntKind.i64 (0 : Int) = Value.int IntKind.i64 (0 : Int) ∧ h = h ∧ True ∧ (∀ (j : Unit), True → Value.int IntKind.i64 k = Value.int IntKind.i64 k ∧ h = h) ∧ ∀ (v : Value) (h_1 : AHeap), False → v = Value.int IntKind.i64 k ∧ h_1 = h) = _) ?_
    exact ⟨(), rfl, rfl, rfl, rfl, trivial, fun _ _ => ⟨rfl, rfl⟩, fun _ _ h => h.elim⟩
theorem markProofS_nil (h : AHeap) (k : Int) : ACall Try.prog 130 [.slice none 0 0, .int .i64 k] h (.int .i64 k) h := by
  refine acall_out (acall_vc (fun _ => false) (fun _ => []) (fun _ => nilLp h k) mixed Try.func130 rfl rfl rfl (Nat.le_of_ble_eq_true rfl) ?_ ?_)
  · refine vc_mp (by kernel_rfl : (True ∧ (True ∧ (∀ (i : Unit), True → ∃ (j : Unit), Value.int IntKind.i64 k = Value.int IntKind.i64 k ∧ h = h ∧ True) ∧ (True ∧ True ∧ True) ∧ (True ∧ True ∧ True ∧ True ∧ True ∧ True ∧ True) ∧ True) ∧ True ∧ True) = _) ?_
    simp only [true_and, and_true]
    exact fun _ _ => ⟨(), trivial⟩
  · refine vc_mp (by kernel_rfl : (∃ (i : Unit), Value.slice none (0 : Nat) (0 : Nat) = Value.slice none (0 : Nat) (0 : Nat) ∧ Value.int IntKind.i64 k = Value.int IntKind.i64 k ∧ Value.int IntKind.i64 (0 : Int) = Value.int IntKind.i64 (0 : Int) ∧ h = h ∧ True ∧ (∀ (j : Unit), True → Value.int IntKind.i64 k = Value.int IntKind.i64 k ∧ h = h) ∧ ∀ (v : Value) (h_1 : AHeap), False → v = Value.int IntKind.i64 k ∧ h_1 = h) = _) ?_
    exact ⟨(), rfl, rfl, rfl, rfl, trivial, fun _ _ => ⟨rfl, rfl⟩, fun _ _ h => h.elim⟩
theorem heldProofS_nil (h : AHeap) (k : Int) : ACall Try.prog 131 [.slice none 0 0, .int .i64 k] h (.int .i64 k) h := by
  refine acall_out (acall_vc (fun _ => false) (fun r => match r with | 10 => [(0, 0, []), (1, 0, []), (2, 0, []), (3, 0, []), (5, 0, []), (4, 1, []), (6, 3, [4]), (7, 0, [])] | _ => []) (fun _ => nilLp h k) mixed Try.func131 rfl rfl rfl (Nat.le_of_ble_eq_true rfl) ?_ ?_)
  · refine vc_mp (by kernel_rfl : (True ∧ (True ∧ (∀ (i : Unit), True → ∃ (j : Unit), Value.int IntKind.i64 k = Value.int IntKind.i64 k ∧ h = h ∧ True) ∧ (True ∧ True ∧ True) ∧ ((True ∧ (True ∧ True) ∧ True) ∧ True ∧ (True ∧ (True ∧ True) ∧ True) ∧ True ∧ (True ∧ (True ∧ True) ∧ True) ∧ True ∧ True ∧ True ∧ (True ∧ True) ∧ True) ∧ True) ∧ True ∧ True) = _) ?_
    simp only [true_and, and_true]
    exact fun _ _ => ⟨(), trivial⟩
  · refine vc_mp (by kernel_rfl : (∃ (i : Unit), Value.slice none (0 : Nat) (0 : Nat) = Value.slice none (0 : Nat) (0 : Nat) ∧ Value.int IntKind.i64 k = Value.int IntKind.i64 k ∧ Value.int IntKind.i64 (0 : Int) = Value.int IntKind.i64 (0 : Int) ∧ h = h ∧ True ∧ (∀ (j : Unit), True → Value.int IntKind.i64 k = Value.int IntKind.i64 k ∧ h = h) ∧ ∀ (v : Value) (h_1 : AHeap), False → v = Value.int IntKind.i64 k ∧ h_1 = h) = _) ?_
    exact ⟨(), rfl, rfl, rfl, rfl, trivial, fun _ _ => ⟨rfl, rfl⟩, fun _ _ h => h.elim⟩
theorem markChangeS_nil (h : AHeap) (k : Int) : ACall Try.prog 96 [.slice none 0 0, .int .i64 k] h (.int .i64 k) h := by
  refine acall_out (acall_vc (fun _ => false) (fun _ => []) (fun _ => nilLp h k) mixed Try.func96 rfl rfl rfl (Nat.le_of_ble_eq_true rfl) ?_ ?_)
  · refine vc_mp (by kernel_rfl : (True ∧ (True ∧ (∀ (i : Unit), True → ∃ (j : Unit), Value.int IntKind.i64 k = Value.int IntKind.i64 k ∧ h = h ∧ True) ∧ (True ∧ True ∧ True) ∧ (True ∧ True ∧ True ∧ True ∧ True) ∧ True) ∧ True ∧ True) = _) ?_
    simp only [true_and, and_true]
    exact fun _ _ => ⟨(), trivial⟩
  · refine vc_mp (by kernel_rfl : (∃ (i : Unit), Value.slice none (0 : Nat) (0 : Nat) = Value.slice none (0 : Nat) (0 : Nat) ∧ Value.int IntKind.i64 k = Value.int IntKind.i64 k ∧ Value.int IntKind.i64 (0 : Int) = Value.int IntKind.i64 (0 : Int) ∧ h = h ∧ True ∧ (∀ (j : Unit), True → Value.int IntKind.i64 k = Value.int IntKind.i64 k ∧ h = h) ∧ ∀ (v : Value) (h_1 : AHeap), False → v = Value.int IntKind.i64 k ∧ h_1 = h) = _) ?_
    exact ⟨(), rfl, rfl, rfl, rfl, trivial, fun _ _ => ⟨rfl, rfl⟩, fun _ _ h => h.elim⟩
theorem heldChangeS_nil (h : AHeap) (k : Int) : ACall Try.prog 99 [.slice none 0 0, .int .i64 k] h (.int .i64 k) h := by
  refine acall_out (acall_vc (fun _ => false) (fun _ => []) (fun _ => nilLp h k) mixed Try.func99 rfl rfl rfl (Nat.le_of_ble_eq_true rfl) ?_ ?_)
  · refine vc_mp (by kernel_rfl : (True ∧ (True ∧ (∀ (i : Unit), True → ∃ (j : Unit), Value.int IntKind.i64 k = Value.int IntKind.i64 k ∧ h = h ∧ True) ∧ (True ∧ True ∧ True) ∧ ((True ∧ (True ∧ True) ∧ True) ∧ True ∧ (True ∧ (True ∧ True) ∧ True) ∧ True ∧ True ∧ True ∧ (True ∧ True) ∧ True) ∧ True) ∧ True ∧ True) = _) ?_
    simp only [true_and, and_true]
    exact fun _ _ => ⟨(), trivial⟩
  · refine vc_mp (by kernel_rfl : (∃ (i : Unit), Value.slice none (0 : Nat) (0 : Nat) = Value.slice none (0 : Nat) (0 : Nat) ∧ Value.int IntKind.i64 k = Value.int IntKind.i64 k ∧ Value.int IntKind.i64 (0 : Int) = Value.int IntKind.i64 (0 : Int) ∧ h = h ∧ True ∧ (∀ (j : Unit), True → Value.int IntKind.i64 k = Value.int IntKind.i64 k ∧ h = h) ∧ ∀ (v : Value) (h_1 : AHeap), False → v = Value.int IntKind.i64 k ∧ h_1 = h) = _) ?_
    exact ⟨(), rfl, rfl, rfl, rfl, trivial, fun _ _ => ⟨rfl, rfl⟩, fun _ _ h => h.elim⟩
theorem markVoteS_nil (h : AHeap) (k : Int) : ACall Try.prog 95 [.slice none 0 0, .int .i64 k] h (.int .i64 k) h := by
  refine acall_out (acall_vc (fun _ => false) (fun _ => []) (fun _ => nilLp h k) mixed Try.func95 rfl rfl rfl (Nat.le_of_ble_eq_true rfl) ?_ ?_)
  · refine vc_mp (by kernel_rfl : (True ∧ (True ∧ (∀ (i : Unit), True → ∃ (j : Unit), Value.int IntKind.i64 k = Value.int IntKind.i64 k ∧ h = h ∧ True) ∧ (True ∧ True ∧ True) ∧ (True ∧ True ∧ True ∧ True ∧ True ∧ True ∧ True ∧ True ∧ True ∧ True) ∧ True) ∧ True ∧ True) = _) ?_
    simp only [true_and, and_true]
    exact fun _ _ => ⟨(), trivial⟩
  · refine vc_mp (by kernel_rfl : (∃ (i : Unit), Value.slice none (0 : Nat) (0 : Nat) = Value.slice none (0 : Nat) (0 : Nat) ∧ Value.int IntKind.i64 k = Value.int IntKind.i64 k ∧ Value.int IntKind.i64 (0 : Int) = Value.int IntKind.i64 (0 : Int) ∧ h = h ∧ True ∧ (∀ (j : Unit), True → Value.int IntKind.i64 k = Value.int IntKind.i64 k ∧ h = h) ∧ ∀ (v : Value) (h_1 : AHeap), False → v = Value.int IntKind.i64 k ∧ h_1 = h) = _) ?_
    exact ⟨(), rfl, rfl, rfl, rfl, trivial, fun _ _ => ⟨rfl, rfl⟩, fun _ _ h => h.elim⟩
theorem heldVoteS_nil (h : AHeap) (k : Int) : ACall Try.prog 98 [.slice none 0 0, .int .i64 k] h (.int .i64 k) h := by
  refine acall_out (acall_vc (fun _ => false) (fun r => match r with | 13 => [(0, 0, []), (1, 0, []), (2, 0, []), (3, 0, []), (5, 0, []), (4, 1, []), (6, 3, [4]), (7, 0, [])] | _ => []) (fun _ => nilLp h k) mixed Try.func98 rfl rfl rfl (Nat.le_of_ble_eq_true rfl) ?_ ?_)
  · refine vc_mp (by kernel_rfl : (True ∧ (True ∧ (∀ (i : Unit), True → ∃ (j : Unit), Value.int IntKind.i64 k = Value.int IntKind.i64 k ∧ h = h ∧ True) ∧ (True ∧ True ∧ True) ∧ ((True ∧ (True ∧ True) ∧ True) ∧ True ∧ (True ∧ (True ∧ True) ∧ True) ∧ True ∧ (True ∧ (True ∧ True) ∧ True) ∧ True ∧ (True ∧ (True ∧ True) ∧ True) ∧ True ∧ (True ∧ (True ∧ True) ∧ True) ∧ True) ∧ True) ∧ True ∧ True) = _) ?_
    simp only [true_and, and_true]
    exact fun _ _ => ⟨(), trivial⟩
  · refine vc_mp (by kernel_rfl : (∃ (i : Unit), Value.slice none (0 : Nat) (0 : Nat) = Value.slice none (0 : Nat) (0 : Nat) ∧ Value.int IntKind.i64 k = Value.int IntKind.i64 k ∧ Value.int IntKind.i64 (0 : Int) = Value.int IntKind.i64 (0 : Int) ∧ h = h ∧ True ∧ (∀ (j : Unit), True → Value.int IntKind.i64 k = Value.int IntKind.i64 k ∧ h = h) ∧ ∀ (v : Value) (h_1 : AHeap), False → v = Value.int IntKind.i64 k ∧ h_1 = h) = _) ?_
    exact ⟨(), rfl, rfl, rfl, rfl, trivial, fun _ _ => ⟨rfl, rfl⟩, fun _ _ h => h.elim⟩
theorem markHeardS_nil (h : AHeap) (k : Int) : ACall Try.prog 70 [.slice none 0 0, .int .i64 k] h (.int .i64 k) h := by
  refine acall_out (acall_vc (fun _ => false) (fun _ => []) (fun _ => nilLp h k) mixed Try.func70 rfl rfl rfl (Nat.le_of_ble_eq_true rfl) ?_ ?_)
  · refine vc_mp (by kernel_rfl : (True ∧ (True ∧ (∀ (i : Unit), True → ∃ (j : Unit), Value.int IntKind.i64 k = Value.int IntKind.i64 k ∧ h = h ∧ True) ∧ (True ∧ True ∧ True) ∧ (True ∧ True ∧ True ∧ True) ∧ True) ∧ True ∧ True) = _) ?_
    simp only [true_and, and_true]
    exact fun _ _ => ⟨(), trivial⟩
  · refine vc_mp (by kernel_rfl : (∃ (i : Unit), Value.slice none (0 : Nat) (0 : Nat) = Value.slice none (0 : Nat) (0 : Nat) ∧ Value.int IntKind.i64 k = Value.int IntKind.i64 k ∧ Value.int IntKind.i64 (0 : Int) = Value.int IntKind.i64 (0 : Int) ∧ h = h ∧ True ∧ (∀ (j : Unit), True → Value.int IntKind.i64 k = Value.int IntKind.i64 k ∧ h = h) ∧ ∀ (v : Value) (h_1 : AHeap), False → v = Value.int IntKind.i64 k ∧ h_1 = h) = _) ?_
    exact ⟨(), rfl, rfl, rfl, rfl, trivial, fun _ _ => ⟨rfl, rfl⟩, fun _ _ h => h.elim⟩
theorem heldHeardS_nil (h : AHeap) (k : Int) : ACall Try.prog 71 [.slice none 0 0, .int .i64 k] h (.int .i64 k) h := by
  refine acall_out (acall_vc (fun _ => false) (fun r => match r with | 7 => [(0, 0, []), (1, 0, []), (2, 0, []), (3, 0, []), (5, 0, []), (4, 1, []), (6, 3, [4]), (7, 0, [])] | _ => []) (fun _ => nilLp h k) mixed Try.func71 rfl rfl rfl (Nat.le_of_ble_eq_true rfl) ?_ ?_)
  · refine vc_mp (by kernel_rfl : (True ∧ (True ∧ (∀ (i : Unit), True → ∃ (j : Unit), Value.int IntKind.i64 k = Value.int IntKind.i64 k ∧ h = h ∧ True) ∧ (True ∧ True ∧ True) ∧ ((True ∧ (True ∧ True) ∧ True) ∧ True ∧ (True ∧ (True ∧ True) ∧ True) ∧ True) ∧ True) ∧ True ∧ True) = _) ?_
    simp only [true_and, and_true]
    exact fun _ _ => ⟨(), trivial⟩
  · refine vc_mp (by kernel_rfl : (∃ (i : Unit), Value.slice none (0 : Nat) (0 : Nat) = Value.slice none (0 : Nat) (0 : Nat) ∧ Value.int IntKind.i64 k = Value.int IntKind.i64 k ∧ Value.int IntKind.i64 (0 : Int) = Value.int IntKind.i64 (0 : Int) ∧ h = h ∧ True ∧ (∀ (j : Unit), True → Value.int IntKind.i64 k = Value.int IntKind.i64 k ∧ h = h) ∧ ∀ (v : Value) (h_1 : AHeap), False → v = Value.int IntKind.i64 k ∧ h_1 = h) = _) ?_
    exact ⟨(), rfl, rfl, rfl, rfl, trivial, fun _ _ => ⟨rfl, rfl⟩, fun _ _ h => h.elim⟩
theorem markSay_nil (h : AHeap) (x : saySh.T) (k : Int) : ACall Try.prog 97 [.agg #[.int .i64 x.1, .int .i64 x.2.1, .int .i64 x.2.2.1, .int .i64 x.2.2.2.1, .string x.2.2.2.2.1, .slice none 0 0], .int .i64 k] h (.int .i64 k) h := by
  obtain ⟨x1, x2, x3, x4, x5, x6⟩ := x
  try dsimp only at *
  refine acall_out (acall_vc (fun _ => false) (fun _ => []) (fun _ => .none) mixed Try.func97 rfl rfl rfl (Nat.le_of_ble_eq_true rfl) (by refine vc_mp (by kernel_rfl : (True ∧ True ∧ True ∧ True) = _) ?_; simp only [and_self]) ?_)
  refine vc_mp (by kernel_rfl : (∃ (x : Int), ∃ (h' : AHeap), ACall Try.prog (96 : Nat) [Value.slice none (0 : Nat) (0 : Nat), Value.int IntKind.i64 k] h (Value.int IntKind.i64 x) h' ∧ Value.int IntKind.i64 x = Value.int IntKind.i64 k ∧ h' = h) = _) ?_
  refine ⟨_, _, markChangeS_nil h k, ?_⟩
  exact ⟨rfl, rfl⟩
theorem heldSay_nil (h : AHeap) (x : saySh.T) (k : Int) (hk : 0 ≤ k) : ACall Try.prog 100 [.agg #[.int .i64 x.1, .int .i64 x.2.1, .int .i64 x.2.2.1, .int .i64 x.2.2.2.1, .string x.2.2.2.2.1, .slice none 0 0], .int .i64 k] h (.int .i64 k) h := by
  obtain ⟨x1, x2, x3, x4, x5, x6⟩ := x
  try dsimp only at *
  refine acall_out (acall_vc (fun _ => false) (fun _ => []) (fun _ => .none) mixed Try.func100 rfl rfl rfl (Nat.le_of_ble_eq_true rfl) (by refine vc_mp (by kernel_rfl : (True ∧ True ∧ (True ∧ (True ∧ True) ∧ True) ∧ True ∧ True) = _) ?_; simp only [and_self]) ?_)
  refine vc_mp (by kernel_rfl : (∃ (x : Int), ∃ (h' : AHeap), ACall Try.prog (99 : Nat) [Value.slice none (0 : Nat) (0 : Nat), Value.int IntKind.i64 k] h (Value.int IntKind.i64 x) h' ∧ bs (decide (x < (0 : Int))) (Value.int IntKind.i64 (-1 : Int) = Value.int IntKind.i64 k ∧ h' = h) (Value.int IntKind.i64 x = Value.int IntKind.i64 k ∧ h' = h)) = _) ?_
  refine ⟨_, _, heldChangeS_nil h k, ?_⟩
  refine bs_d (fun e => absurd hk (by omega)) (fun _ => ?_)
  exact ⟨rfl, rfl⟩
theorem markReplica_nil (h : AHeap) (x : replicaSh.T) (k : Int) : ACall Try.prog 47 [.agg #[.int .i64 x.1, .int .i64 x.2.1, .bool x.2.2.1, .int .i64 x.2.2.2.1, .slice none 0 0, .slice none 0 0, .int .i64 x.2.2.2.2.2.2.1.1, .int .i64 x.2.2.2.2.2.2.1.2.1, .int .i64 x.2.2.2.2.2.2.1.2.2.1, .int .i64 x.2.2.2.2.2.2.1.2.2.2.1, .string x.2.2.2.2.2.2.1.2.2.2.2.1, .slice none 0 0, .slice none 0 0], .int .i64 k] h (.int .i64 k) h := by
  obtain ⟨x1, x2, x3, x4, x5, x6, ⟨x7, x8, x9, x10, x11, x12⟩, x13⟩ := x
  try dsimp only at *
  refine acall_out (acall_vc (fun _ => false) (fun _ => []) (fun _ => .none) mixed Try.func47 rfl rfl rfl (Nat.le_of_ble_eq_true rfl) (by refine vc_mp (by kernel_rfl : (True ∧ True ∧ True ∧ True ∧ True ∧ True ∧ True) = _) ?_; simp only [and_self]) ?_)
  refine vc_mp (by kernel_rfl : (∃ (x : Int), ∃ (h' : AHeap), ACall Try.prog (95 : Nat) [Value.slice none (0 : Nat) (0 : Nat), Value.int IntKind.i64 k] h (Value.int IntKind.i64 x) h' ∧ ∃ (x_1 : Int), ∃ (h'_1 : AHeap), ACall Try.prog (96 : Nat) [Value.slice none (0 : Nat) (0 : Nat), Value.int IntKind.i64 x] h' (Value.int IntKind.i64 x_1) h'_1 ∧ ∃ (x : Int), ∃ (h' : AHeap), ACall Try.prog (97 : Nat) [Value.agg (Array.mk [Value.int IntKind.i64 x7, Value.int IntKind.i64 x8, Value.int IntKind.i64 x9, Value.int IntKind.i64 x10, Value.string x11, Value.slice none (0 : Nat) (0 : Nat)]), Value.int IntKind.i64 x_1] h'_1 (Value.int IntKind.i64 x) h' ∧ ∃ (x_2 : Int), ∃ (h'_2 : AHeap), ACall Try.prog (18 : Nat) [Value.slice none (0 : Nat) (0 : Nat), Value.int IntKind.i64 x] h' (Value.int IntKind.i64 x_2) h'_2 ∧ Value.int IntKind.i64 x_2 = Value.int IntKind.i64 k ∧ h'_2 = h) = _) ?_
  refine ⟨_, _, markVoteS_nil h k, ?_⟩
  refine ⟨_, _, markChangeS_nil h k, ?_⟩
  refine ⟨_, _, markSay_nil h (x7, x8, x9, x10, x11, x12) k, ?_⟩
  refine ⟨_, _, markStringS_nil h k, ?_⟩
  exact ⟨rfl, rfl⟩
theorem heldReplica_nil (h : AHeap) (x : replicaSh.T) (k : Int) (hk : 0 ≤ k) : ACall Try.prog 48 [.agg #[.int .i64 x.1, .int .i64 x.2.1, .bool x.2.2.1, .int .i64 x.2.2.2.1, .slice none 0 0, .slice none 0 0, .int .i64 x.2.2.2.2.2.2.1.1, .int .i64 x.2.2.2.2.2.2.1.2.1, .int .i64 x.2.2.2.2.2.2.1.2.2.1, .int .i64 x.2.2.2.2.2.2.1.2.2.2.1, .string x.2.2.2.2.2.2.1.2.2.2.2.1, .slice none 0 0, .slice none 0 0], .int .i64 k] h (.int .i64 k) h := by
  obtain ⟨x1, x2, x3, x4, x5, x6, ⟨x7, x8, x9, x10, x11, x12⟩, x13⟩ := x
  try dsimp only at *
  refine acall_out (acall_vc (fun _ => false) (fun _ => []) (fun _ => .none) mixed Try.func48 rfl rfl rfl (Nat.le_of_ble_eq_true rfl) (by refine vc_mp (by kernel_rfl : (True ∧ True ∧ (True ∧ (True ∧ True) ∧ True) ∧ True ∧ (True ∧ (True ∧ True) ∧ True) ∧ True ∧ (True ∧ (True ∧ True) ∧ True) ∧ True ∧ (True ∧ (True ∧ True) ∧ True) ∧ True ∧ True) = _) ?_; simp only [and_self]) ?_)
  refine vc_mp (by kernel_rfl : (∃ (x : Int), ∃ (h' : AHeap), ACall Try.prog (98 : Nat) [Value.slice none (0 : Nat) (0 : Nat), Value.int IntKind.i64 k] h (Value.int IntKind.i64 x) h' ∧ bs (decide (x < (0 : Int))) (Value.int IntKind.i64 (-1 : Int) = Value.int IntKind.i64 k ∧ h' = h) (∃ (x_1 : Int), ∃ (h'_1 : AHeap), ACall Try.prog (99 : Nat) [Value.slice none (0 : Nat) (0 : Nat), Value.int IntKind.i64 x] h' (Value.int IntKind.i64 x_1) h'_1 ∧ bs (decide (x_1 < (0 : Int))) (Value.int IntKind.i64 (-1 : Int) = Value.int IntKind.i64 k ∧ h'_1 = h) (∃ (x : Int), ∃ (h' : AHeap), ACall Try.prog (100 : Nat) [Value.agg (Array.mk [Value.int IntKind.i64 x7, Value.int IntKind.i64 x8, Value.int IntKind.i64 x9, Value.int IntKind.i64 x10, Value.string x11, Value.slice none (0 : Nat) (0 : Nat)]), Value.int IntKind.i64 x_1] h'_1 (Value.int IntKind.i64 x) h' ∧ bs (decide (x < (0 : Int))) (Value.int IntKind.i64 (-1 : Int) = Value.int IntKind.i64 k ∧ h' = h) (∃ (x_2 : Int), ∃ (h'_2 : AHeap), ACall Try.prog (19 : Nat) [Value.slice none (0 : Nat) (0 : Nat), Value.int IntKind.i64 x] h' (Value.int IntKind.i64 x_2) h'_2 ∧ bs (decide (x_2 < (0 : Int))) (Value.int IntKind.i64 (-1 : Int) = Value.int IntKind.i64 k ∧ h'_2 = h) (Value.int IntKind.i64 x_2 = Value.int IntKind.i64 k ∧ h'_2 = h))))) = _) ?_
  refine ⟨_, _, heldVoteS_nil h k, ?_⟩
  refine bs_d (fun e => absurd hk (by omega)) (fun _ => ?_)
  refine ⟨_, _, heldChangeS_nil h k, ?_⟩
  refine bs_d (fun e => absurd hk (by omega)) (fun _ => ?_)
  refine ⟨_, _, heldSay_nil h (x7, x8, x9, x10, x11, x12) k hk, ?_⟩
  refine bs_d (fun e => absurd hk (by omega)) (fun _ => ?_)
  refine ⟨_, _, heldStringS_nil h k, ?_⟩
  refine bs_d (fun e => absurd hk (by omega)) (fun _ => ?_)
  exact ⟨rfl, rfl⟩
theorem markClient_nil (h : AHeap) (x : clientSh.T) (k : Int) : ACall Try.prog 25 [.agg #[.int .i64 x.1, .int .i64 x.2.1, .bool x.2.2.1, .slice none 0 0, .string x.2.2.2.2], .int .i64 k] h (.int .i64 k) h := by
  obtain ⟨x1, x2, x3, x4, x5⟩ := x
  try dsimp only at *
  refine acall_out (acall_vc (fun _ => false) (fun _ => []) (fun _ => .none) mixed Try.func25 rfl rfl rfl (Nat.le_of_ble_eq_true rfl) (by refine vc_mp (by kernel_rfl : (True ∧ True ∧ True ∧ True) = _) ?_; simp only [and_self]) ?_)
  refine vc_mp (by kernel_rfl : (∃ (x : Int), ∃ (h' : AHeap), ACall Try.prog (70 : Nat) [Value.slice none (0 : Nat) (0 : Nat), Value.int IntKind.i64 k] h (Value.int IntKind.i64 x) h' ∧ Value.int IntKind.i64 x = Value.int IntKind.i64 k ∧ h' = h) = _) ?_
  refine ⟨_, _, markHeardS_nil h k, ?_⟩
  exact ⟨rfl, rfl⟩
theorem heldClient_nil (h : AHeap) (x : clientSh.T) (k : Int) (hk : 0 ≤ k) : ACall Try.prog 26 [.agg #[.int .i64 x.1, .int .i64 x.2.1, .bool x.2.2.1, .slice none 0 0, .string x.2.2.2.2], .int .i64 k] h (.int .i64 k) h := by
  obtain ⟨x1, x2, x3, x4, x5⟩ := x
  try dsimp only at *
  refine acall_out (acall_vc (fun _ => false) (fun _ => []) (fun _ => .none) mixed Try.func26 rfl rfl rfl (Nat.le_of_ble_eq_true rfl) (by refine vc_mp (by kernel_rfl : (True ∧ True ∧ (True ∧ (True ∧ True) ∧ True) ∧ True ∧ True) = _) ?_; simp only [and_self]) ?_)
  refine vc_mp (by kernel_rfl : (∃ (x : Int), ∃ (h' : AHeap), ACall Try.prog (71 : Nat) [Value.slice none (0 : Nat) (0 : Nat), Value.int IntKind.i64 k] h (Value.int IntKind.i64 x) h' ∧ bs (decide (x < (0 : Int))) (Value.int IntKind.i64 (-1 : Int) = Value.int IntKind.i64 k ∧ h' = h) (Value.int IntKind.i64 x = Value.int IntKind.i64 k ∧ h' = h)) = _) ?_
  refine ⟨_, _, heldHeardS_nil h k, ?_⟩
  refine bs_d (fun e => absurd hk (by omega)) (fun _ => ?_)
  exact ⟨rfl, rfl⟩
theorem markClientOut_nil (h : AHeap) (x : clientOutSh.T) (k : Int) : ACall Try.prog 54 [.agg #[.int .i64 x.1.1, .int .i64 x.1.2.1, .bool x.1.2.2.1, .slice none 0 0, .string x.1.2.2.2.2, .string x.2.1, .int .i64 x.2.2], .int .i64 k] h (.int .i64 k) h := by
  obtain ⟨⟨x1, x2, x3, x4, x5⟩, x6, x7⟩ := x
  try dsimp only at *
  refine acall_out (acall_vc (fun _ => false) (fun _ => []) (fun _ => .none) mixed Try.func54 rfl rfl rfl (Nat.le_of_ble_eq_true rfl) (by refine vc_mp (by kernel_rfl : (True ∧ True ∧ True ∧ True) = _) ?_; simp only [and_self]) ?_)
  refine vc_mp (by kernel_rfl : (∃ (x : Int), ∃ (h' : AHeap), ACall Try.prog (25 : Nat) [Value.agg (Array.mk [Value.int IntKind.i64 x1, Value.int IntKind.i64 x2, Value.bool x3, Value.slice none (0 : Nat) (0 : Nat), Value.string x5]), Value.int IntKind.i64 k] h (Value.int IntKind.i64 x) h' ∧ Value.int IntKind.i64 x = Value.int IntKind.i64 k ∧ h' = h) = _) ?_
  refine ⟨_, _, markClient_nil h (x1, x2, x3, x4, x5) k, ?_⟩
  exact ⟨rfl, rfl⟩
theorem heldClientOut_nil (h : AHeap) (x : clientOutSh.T) (k : Int) (hk : 0 ≤ k) : ACall Try.prog 55 [.agg #[.int .i64 x.1.1, .int .i64 x.1.2.1, .bool x.1.2.2.1, .slice none 0 0, .string x.1.2.2.2.2, .string x.2.1, .int .i64 x.2.2], .int .i64 k] h (.int .i64 k) h := by
  obtain ⟨⟨x1, x2, x3, x4, x5⟩, x6, x7⟩ := x
  try dsimp only at *
  refine acall_out (acall_vc (fun _ => false) (fun _ => []) (fun _ => .none) mixed Try.func55 rfl rfl rfl (Nat.le_of_ble_eq_true rfl) (by refine vc_mp (by kernel_rfl : (True ∧ True ∧ (True ∧ (True ∧ True) ∧ True) ∧ True ∧ True) = _) ?_; simp only [and_self]) ?_)
  refine vc_mp (by kernel_rfl : (∃ (x : Int), ∃ (h' : AHeap), ACall Try.prog (26 : Nat) [Value.agg (Array.mk [Value.int IntKind.i64 x1, Value.int IntKind.i64 x2, Value.bool x3, Value.slice none (0 : Nat) (0 : Nat), Value.string x5]), Value.int IntKind.i64 k] h (Value.int IntKind.i64 x) h' ∧ bs (decide (x < (0 : Int))) (Value.int IntKind.i64 (-1 : Int) = Value.int IntKind.i64 k ∧ h' = h) (Value.int IntKind.i64 x = Value.int IntKind.i64 k ∧ h' = h)) = _) ?_
  refine ⟨_, _, heldClient_nil h (x1, x2, x3, x4, x5) k hk, ?_⟩
  refine bs_d (fun e => absurd hk (by omega)) (fun _ => ?_)
  exact ⟨rfl, rfl⟩
end Go.Proofs.Ytgcckeglmhbnmaa
