/- Contracts: the agreed digest, in the program: the search. -/
import Derived.Test.YtgcckeglmhbnmaaC5
namespace Go.Dat
open Go.Abs
def fI (os : List Opn) (d : ByteArray) (i : Nat) : Int := if i < os.length then (if (opAt os i).2 = d then (i : Int) else fI os d (i + 1)) else -1
termination_by os.length - i
end Go.Dat
namespace Go.Proofs.Ytgcckeglmhbnmaa
open Go.Abs Go.Dat
set_option maxRecDepth 100000

theorem closure1 (p : Opn) (lo : Nat) (d : ByteArray) (h : AHeap) (hd : h.ld lo 0 1 1 = some [.string d]) : ACall Try.prog 77 [opV p, .pointer (some ⟨lo, 0, some 0⟩)] h (.bool (decide (p.2 = d))) h := by
  unfold opV
  refine acall_out (acall_by (fun _ => false) (fun _ => []) (fun _ => .none) mixed Try.func77 rfl rfl rfl (Nat.le_of_ble_eq_true rfl) (by refine Eq.mp (by kernel_rfl : (True ∧ True ∧ True) = _) ?_; simp only [and_self]) ?_)
  refine Eq.mp (by kernel_rfl : (∃ (x : ByteArray), AHeap.ld h lo (0 : Nat) (1 : Nat) (1 : Nat) = some [Value.string x] ∧ Value.bool (decide (Prod.snd p = x)) = Value.bool (decide (Prod.snd p = d)) ∧ h = h) = _) ?_
  exact ⟨d, hd, rfl, rfl⟩

def clo (lo : Nat) : Value := .func (.func 77) #[] #[.pointer (some ⟨lo, 0, some 0⟩)]

def ixL (l r n c lo : Nat) (h : AHeap) (os : List Opn) (d : ByteArray) : LSpec where
  ι := Nat
  κ := Unit
  I := fun i => i ≤ n ∧ fI os d i = fI os d 0
  μ := fun i => n - i
  head := fun i => ⟨[(0, .slice (some ⟨l, r, some 2⟩) n c), (1, clo lo), (7, .int .i64 n), (8, .int .i64 i)], [], h⟩
  post := fun _ => ⟨[], [], h⟩
  R := fun _ _ => fI os d 0 = -1
  ret := fun _ v h' => v = .int .i64 (fI os d 0) ∧ h' = h

theorem indexFunc_spec (l r n c lo : Nat) (h : AHeap) (os : List Opn) (d : ByteArray) (hd : h.ld lo 0 1 1 = some [.string d]) (hr : h.rowsOf (.slice (some ⟨l, r, some 2⟩) n c) = some (os.map opRow)) (hn : n ≤ 1048576) :
    ACall Try.prog 118 [.slice (some ⟨l, r, some 2⟩) n c, clo lo] h (.int .i64 (fI os d 0)) h := by
  have en := rows_len hr
  rw [List.length_map] at en
  refine acall_out (acall_by (fun _ => true) (fun _ => []) (fun _ => ixL l r n c lo h os d) mixed Try.func118 rfl rfl rfl (Nat.le_of_ble_eq_true rfl) ?_ ?_)
  · refine Eq.mp (by kernel_rfl : (True ∧ (True ∧ (∀ (i : Nat), i ≤ n ∧ fI os d i = fI os d (0 : Nat) → bs (decide ((↑i : Int) < (↑n : Int))) (∃ (l_1 : Nat), ∃ (r_1 : Nat), some (Addr.mk l r (some (2 : Nat))) = some (Addr.mk l_1 r_1 (some (2 : Nat))) ∧ (0 : Int) ≤ (↑i : Int) ∧ (↑i : Int) < (↑n : Int) ∧ ∃ (x : Int), ∃ (x_1 : ByteArray), AHeap.ld h l_1 (r_1 + Int.toNat (↑i : Int)) (0 : Nat) (2 : Nat) = some [Value.int IntKind.i64 x, Value.string x_1] ∧ ∃ (x_2 : Bool), ∃ (h' : AHeap), ACall Try.prog (77 : FuncId) [Value.agg (Array.mk [Value.int IntKind.i64 x, Value.string x_1]), Value.pointer (some (Addr.mk lo (0 : Nat) (some (0 : Nat))))] h (Value.bool x_2) h' ∧ bs x_2 (Value.int IntKind.i64 (↑i : Int) = Value.int IntKind.i64 (fI os d (0 : Nat)) ∧ h' = h) (∃ (j : Nat), Value.slice (some (Addr.mk l r (some (2 : Nat)))) n c = Value.slice (some (Addr.mk l r (some (2 : Nat)))) n c ∧ Value.func (Fn.func (77 : FuncId)) (Array.mk []) (Array.mk [Value.pointer (some (Addr.mk lo (0 : Nat) (some (0 : Nat))))]) = Value.func (Fn.func (77 : FuncId)) (Array.mk []) (Array.mk [Value.pointer (some (Addr.mk lo (0 : Nat) (some (0 : Nat))))]) ∧ Value.int IntKind.i64 (↑n : Int) = Value.int IntKind.i64 (↑n : Int) ∧ Value.int IntKind.i64 (IntKind.wrap IntKind.i64 ((↑i : Int) + (1 : Int))) = Value.int IntKind.i64 (↑j : Int) ∧ h = h' ∧ (j ≤ n ∧ fI os d j = fI os d (0 : Nat)) ∧ n - j < n - i ∧ (∀ (k : Unit), fI os d (0 : Nat) = (-1 : Int) → fI os d (0 : Nat) = (-1 : Int)) ∧ ∀ (v : Value) (h_1 : AHeap), v = Value.int IntKind.i64 (fI os d (0 : Nat)) ∧ h_1 = h → v = Value.int IntKind.i64 (fI os d (0 : Nat)) ∧ h_1 = h)) (∃ (j : Unit), h = h ∧ fI os d (0 : Nat) = (-1 : Int))) ∧ True ∧ (True ∧ True) ∧ (True ∧ True ∧ (True ∧ True) ∧ True) ∧ True) ∧ True ∧ True) = _) ?_
    simp only [true_and, and_true]
    rintro i ⟨hi, he⟩
    refine bs_dec (fun hlt => ?_) (fun hge => ?_)
    · have hio : i < os.length := by omega
      rw [fI, if_pos hio] at he
      refine ⟨l, r, rfl, Int.natCast_nonneg _, hlt, _, _, opRow_ld hr (opAt_get hio), _, _, closure1 (opAt os i) lo d h hd, bs_dec (fun hy => ?_) (fun hy => ?_)⟩
      · rw [if_pos hy] at he; rw [he]; exact ⟨rfl, rfl⟩
      · rw [if_neg hy] at he
        exact ⟨i + 1, by rw [wrap_i64 (by omega)]; rfl, rfl, ⟨by omega, he⟩, by omega, fun _ h => h, fun _ _ h => h⟩
    · rw [fI, if_neg (by omega)] at he
      exact ⟨(), he.symm⟩
  · refine Eq.mp (by kernel_rfl : (∃ (i : Nat), Value.slice (some (Addr.mk l r (some (2 : Nat)))) n c = Value.slice (some (Addr.mk l r (some (2 : Nat)))) n c ∧ Value.func (Fn.func (77 : FuncId)) (Array.mk []) (Array.mk [Value.pointer (some (Addr.mk lo (0 : Nat) (some (0 : Nat))))]) = Value.func (Fn.func (77 : FuncId)) (Array.mk []) (Array.mk [Value.pointer (some (Addr.mk lo (0 : Nat) (some (0 : Nat))))]) ∧ Value.int IntKind.i64 (↑n : Int) = Value.int IntKind.i64 (↑n : Int) ∧ Value.int IntKind.i64 (0 : Int) = Value.int IntKind.i64 (↑i : Int) ∧ h = h ∧ (i ≤ n ∧ fI os d i = fI os d (0 : Nat)) ∧ (∀ (j : Unit), fI os d (0 : Nat) = (-1 : Int) → Value.int IntKind.i64 (-1 : Int) = Value.int IntKind.i64 (fI os d (0 : Nat)) ∧ h = h) ∧ ∀ (v : Value) (h_1 : AHeap), v = Value.int IntKind.i64 (fI os d (0 : Nat)) ∧ h_1 = h → v = Value.int IntKind.i64 (fI os d (0 : Nat)) ∧ h_1 = h) = _) ?_
    exact ⟨(0 : Nat), rfl, rfl, rfl, rfl, rfl, ⟨Nat.zero_le _, rfl⟩, fun _ e => ⟨by rw [e], rfl⟩, fun _ _ h => h⟩

theorem containsFunc_spec (l r n c lo : Nat) (h : AHeap) (os : List Opn) (d : ByteArray) (hd : h.ld lo 0 1 1 = some [.string d]) (hr : h.rowsOf (.slice (some ⟨l, r, some 2⟩) n c) = some (os.map opRow)) (hn : n ≤ 1048576) :
    ACall Try.prog 76 [.slice (some ⟨l, r, some 2⟩) n c, clo lo] h (.bool (decide (0 ≤ fI os d 0))) h := by
  refine acall_out (acall_by (fun _ => true) (fun _ => []) (fun _ => .none) mixed Try.func76 rfl rfl rfl (Nat.le_of_ble_eq_true rfl) (by refine Eq.mp (by kernel_rfl : (True ∧ True ∧ True) = _) ?_; simp only [and_self]) ?_)
  refine Eq.mp (by kernel_rfl : (∃ (x : Int), ∃ (h' : AHeap), ACall Try.prog (118 : Nat) [Value.slice (some (Addr.mk l r (some (2 : Nat)))) n c, Value.func (Fn.func (77 : FuncId)) (Array.mk []) (Array.mk [Value.pointer (some (Addr.mk lo (0 : Nat) (some (0 : Nat))))])] h (Value.int IntKind.i64 x) h' ∧ Value.bool (decide (x ≥ (0 : Int))) = Value.bool (decide ((0 : Int) ≤ fI os d (0 : Nat))) ∧ h' = h) = _) ?_
  exact ⟨_, _, indexFunc_spec l r n c lo h os d hd hr hn, rfl, rfl⟩
end Go.Proofs.Ytgcckeglmhbnmaa
