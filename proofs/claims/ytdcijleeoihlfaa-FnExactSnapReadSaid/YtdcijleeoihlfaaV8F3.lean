/- Contracts: topics that are right, in the program. -/
import Derived.Test.YtdcijleeoihlfaaV8F2
namespace Go.Proofs.Ytdcijleeoihlfaa
open Go.Abs Go.Dat
set_option maxRecDepth 100000
set_option maxHeartbeats 4000000
theorem isTopic1_spec (h : AHeap) (t : ByteArray) : ACall Try.prog 165 [.string t] h (.bool (tr (¬ MsgOk t))) h := by
  refine acall_out (acall_vc (fun _ => false) (fun _ => []) (fun _ => .none) mixed Try.func165 rfl rfl rfl (Nat.le_of_ble_eq_true rfl) (by refine vc_mp (by kernel_rfl : (True ∧ True ∧ True) = _) ?_; simp only [and_self]) ?_)
  refine vc_mp (by kernel_rfl : (∃ (x : Bool), ∃ (h' : AHeap), ACall Try.prog (166 : Nat) [Value.string t] h (Value.bool x) h' ∧ (Value.bool !x) = Value.bool (tr ¬MsgOk t) ∧ h' = h) = _) ?_
  refine ⟨_, _, isMessage_spec h t, congrArg _ ?_, rfl⟩
  by_cases e : MsgOk t
  · rw [← tr_true e]; exact tr_false (fun H => H e)
  · rw [← tr_false e]; exact tr_true e
def ixsL (a : Option Addr) (n c : Nat) (h : AHeap) (xs : List Sh.str.T) : LSpec where
  ι := Nat
  κ := Unit
  I := fun i => i ≤ n ∧ ∀ (j : Nat) (t : ByteArray), j < i → xs[j]? = some t → ¬ ¬ MsgOk t
  μ := fun i => n - i
  head := fun i => ⟨[(0, .slice a n c), (1, .func (.func 165) #[] #[]), (7, .int .i64 n), (8, .int .i64 i)], [], h⟩
  post := fun _ => ⟨[], [], h⟩
  R := fun _ _ => ∀ (j : Nat) (t : ByteArray), xs[j]? = some t → ¬ ¬ MsgOk t
  ret := fun _ v h' => ∃ r : Int, v = .int .i64 r ∧ h' = h ∧ 0 ≤ r ∧ ∃ (j : Nat) (t : ByteArray), xs[j]? = some t ∧ ¬ MsgOk t
theorem indexStr_spec (h : AHeap) (a : Option Addr) (n c : Nat) (xs : List Sh.str.T) (hx : Sl h Sh.str xs (.slice a n c)) (hn : n ≤ 9223372036854775807) :
    ∃ v h', ACall Try.prog 150 [.slice a n c, .func (.func 165) #[] #[]] h v h' ∧ ∃ r : Int, v = .int .i64 r ∧ h' = h ∧ (0 ≤ r ↔ ∃ (j : Nat) (t : ByteArray), xs[j]? = some t ∧ ¬ MsgOk t) := by
  have en := hx.len
  refine acall_vc (fun _ => true) (fun _ => []) (fun _ => ixsL a n c h xs) mixed Try.func150 rfl rfl rfl (Nat.le_of_ble_eq_true rfl) ?_ ?_
  · refine vc_mp (by kernel_rfl : (True ∧ (True ∧ (∀ (i : Nat), (i ≤ n ∧ ∀ (j : Nat) (t : ByteArray), j < i → xs[j]? = some t → ¬¬MsgOk t) → bs (decide ((↑i : Int) < (↑n : Int))) (∃ (l : Nat), ∃ (r : Nat), a = some (Addr.mk l r (some (1 : Nat))) ∧ (0 : Int) ≤ (↑i : Int) ∧ (↑i : Int) < (↑n : Int) ∧ ∃ (x : ByteArray), AHeap.ld h l (r + Int.toNat (↑i : Int)) (0 : Nat) (1 : Nat) = some [Value.string x] ∧ ∃ (x_1 : Bool), ∃ (h' : AHeap), ACall Try.prog (165 : FuncId) [Value.string x] h (Value.bool x_1) h' ∧ bs x_1 (∃ (r : Int), Value.int IntKind.i64 (↑i : Int) = Value.int IntKind.i64 r ∧ h' = h ∧ (0 : Int) ≤ r ∧ ∃ (j : Nat), ∃ (t : ByteArray), xs[j]? = some t ∧ ¬MsgOk t) (∃ (j : Nat), Value.slice a n c = Value.slice a n c ∧ Value.func (Fn.func (165 : FuncId)) (Array.mk []) (Array.mk []) = Value.func (Fn.func (165 : FuncId)) (Array.mk []) (Array.mk []) ∧ Value.int IntKind.i64 (↑n : Int) = Value.int IntKind.i64 (↑n : Int) ∧ Value.int IntKind.i64 (IntKind.wrap IntKind.i64 ((↑i : Int) + (1 : Int))) = Value.int IntKind.i64 (↑j : Int) ∧ h = h' ∧ (j ≤ n ∧ ∀ (j_1 : Nat) (t : ByteArray), j_1 < j → xs[j_1]? = some t → ¬¬MsgOk t) ∧ n - j < n - i ∧ (∀ (k : Unit), (∀ (j : Nat) (t : ByteArray), xs[j]? = some t → ¬¬MsgOk t) → ∀ (j : Nat) (t : ByteArray), xs[j]? = some t → ¬¬MsgOk t) ∧ ∀ (v : Value) (h_1 : AHeap), (∃ (r : Int), v = Value.int IntKind.i64 r ∧ h_1 = h ∧ (0 : Int) ≤ r ∧ ∃ (j : Nat), ∃ (t : ByteArray), xs[j]? = some t ∧ ¬MsgOk t) → ∃ (r : Int), v = Value.int IntKind.i64 r ∧ h_1 = h ∧ (0 : Int) ≤ r ∧ ∃ (j : Nat), ∃ (t : ByteArray), xs[j]? = some t ∧ ¬MsgOk t)) (∃ (j : Unit), h = h ∧ ∀ (j : Nat) (t : ByteArray), xs[j]? = some t → ¬¬MsgOk t)) ∧ True ∧ (True ∧ True) ∧ (True ∧ True ∧ (True ∧ True) ∧ True) ∧ True) ∧ True ∧ True) = _) ?_
    simp only [true_and, and_true]
    rintro (i : Nat) ⟨hi, hall⟩
    refine bs_d (fun hlt => ?_) (fun hge => ?_)
    · have hio : i < xs.length := by omega
      obtain ⟨t, hat⟩ : ∃ y : ByteArray, xs[i]? = some y := ⟨_, List.getElem?_eq_getElem hio⟩
      obtain ⟨l, r, row, ha, _, hrd, hld⟩ := hx.elem hat
      obtain rfl : row = [.string t] := hrd
      refine ⟨l, r, ha, Int.natCast_nonneg _, hlt, _, hld, _, _, isTopic1_spec h t, bs_of (fun e => ⟨_, rfl, rfl, Int.natCast_nonneg _, i, t, hat, of_tr e⟩) (fun e => ?_)⟩
      refine ⟨i + 1, by rw [wrap_i64 (by omega)]; rfl, rfl, ⟨by omega, fun j t' hj hj2 => ?_⟩, by omega, fun _ h => h, fun _ _ h => h⟩
      rcases Nat.lt_succ_iff_lt_or_eq.1 hj with hj | rfl
      · exact hall j t' hj hj2
      · rw [hat] at hj2; cases hj2; exact of_trn e
    · refine ⟨(), fun j t hj => hall j t ?_ hj⟩
      have := (List.getElem?_eq_some_iff.1 hj).1
      omega
  · refine vc_mp (by kernel_rfl : (∃ (i : Nat), Value.slice a n c = Value.slice a n c ∧ Value.func (Fn.func (165 : FuncId)) (Array.mk []) (Array.mk []) = Value.func (Fn.func (165 : FuncId)) (Array.mk []) (Array.mk []) ∧ Value.int IntKind.i64 (↑n : Int) = Value.int IntKind.i64 (↑n : Int) ∧ Value.int IntKind.i64 (0 : Int) = Value.int IntKind.i64 (↑i : Int) ∧ h = h ∧ (i ≤ n ∧ ∀ (j : Nat) (t : ByteArray), j < i → xs[j]? = some t → ¬¬MsgOk t) ∧ (∀ (j : Unit), (∀ (j : Nat) (t : ByteArray), xs[j]? = some t → ¬¬MsgOk t) → ∃ (r : Int), Value.int IntKind.i64 (-1 : Int) = Value.int IntKind.i64 r ∧ h = h ∧ ((0 : Int) ≤ r ↔ ∃ (j : Nat), ∃ (t : ByteArray), xs[j]? = some t ∧ ¬MsgOk t)) ∧ ∀ (v : Value) (h_1 : AHeap), (∃ (r : Int), v = Value.int IntKind.i64 r ∧ h_1 = h ∧ (0 : Int) ≤ r ∧ ∃ (j : Nat), ∃ (t : ByteArray), xs[j]? = some t ∧ ¬MsgOk t) → ∃ (r : Int), v = Value.int IntKind.i64 r ∧ h_1 = h ∧ ((0 : Int) ≤ r ↔ ∃ (j : Nat), ∃ (t : ByteArray), xs[j]? = some t ∧ ¬MsgOk t)) = _) ?_
    refine ⟨(0 : Nat), rfl, rfl, rfl, rfl, rfl, ⟨Nat.zero_le _, fun j _ hj => absurd hj (Nat.not_lt_zero _)⟩, fun _ e => ⟨_, rfl, rfl, ?_⟩, fun _ _ ⟨r, e1, e2, e3, e4⟩ => ⟨r, e1, e2, fun _ => e4, fun _ => e3⟩⟩
    exact ⟨fun e' => absurd e' (by omega), fun ⟨j, t, h1, h2⟩ => absurd h2 (e j t h1)⟩
theorem containsStr_spec (h : AHeap) (a : Option Addr) (n c : Nat) (xs : List Sh.str.T) (hx : Sl h Sh.str xs (.slice a n c)) (hn : n ≤ 9223372036854775807) :
    ACall Try.prog 107 [.slice a n c, .func (.func 165) #[] #[]] h (.bool (tr (∃ (j : Nat) (t : ByteArray), xs[j]? = some t ∧ ¬ MsgOk t))) h := by
  obtain ⟨v0, h0, hA, r, ev, e0, hr⟩ := indexStr_spec h a n c xs hx hn
  rw [e0, ev] at hA
  refine acall_out (acall_vc (fun _ => true) (fun _ => []) (fun _ => .none) mixed Try.func107 rfl rfl rfl (Nat.le_of_ble_eq_true rfl) (by refine vc_mp (by kernel_rfl : (True ∧ True ∧ True) = _) ?_; simp only [and_self]) ?_)
  refine vc_mp (by kernel_rfl : (∃ (x : Int), ∃ (h' : AHeap), ACall Try.prog (150 : Nat) [Value.slice a n c, Value.func (Fn.func (165 : FuncId)) (Array.mk []) (Array.mk [])] h (Value.int IntKind.i64 x) h' ∧ Value.bool (decide (x ≥ (0 : Int))) = Value.bool (tr (∃ (j : Nat), ∃ (t : ByteArray), xs[j]? = some t ∧ ¬MsgOk t)) ∧ h' = h) = _) ?_
  refine ⟨_, _, hA, congrArg _ ?_, rfl⟩
  by_cases e : 0 ≤ r
  · rw [decide_eq_true e]; exact tr_true (hr.1 e)
  · rw [decide_eq_false e]; exact tr_false fun H => e (hr.2 H)
theorem sizeStr_spec (h : AHeap) (a : Option Addr) (n c : Nat) : ACall Try.prog 131 [.slice a n c] h (.int .i64 n) h := by
  refine acall_out (acall_vc (fun _ => false) (fun _ => []) (fun _ => .none) mixed Try.func131 rfl rfl rfl (Nat.le_of_ble_eq_true rfl) (by refine vc_mp (by kernel_rfl : (True ∧ True ∧ True) = _) ?_; simp only [and_self]) ?_)
  refine vc_mp (by kernel_rfl : (Value.int IntKind.i64 (↑n : Int) = Value.int IntKind.i64 (↑n : Int) ∧ h = h) = _) ?_
  exact ⟨rfl, rfl⟩
theorem topicEnd_spec (h : AHeap) (l r : Nat) (name : ByteArray) (base : Int) (a : Option Addr) (n c : Nat) (v : Value) (hb : 0 ≤ base ∧ base ≤ 1000000000) (hn : n ≤ 1000000000) (hl : h.ld l r 0 4 = some [.string name, .int .i64 base, .slice a n c, v]) :
    ACall Try.prog 164 [.pointer (some ⟨l, r, some 0⟩)] h (.int .i64 (base + n)) h := by
  refine acall_out (acall_vc (fun _ => false) (fun _ => [(0, 0, []), (1, 0, []), (2, 0, []), (4, 0, []), (5, 0, []), (6, 0, []), (3, 1, []), (7, 1, []), (8, 3, [3]), (9, 0, []), (10, 0, [])]) (fun _ => .none) mixed Try.func164 rfl rfl rfl (Nat.le_of_ble_eq_true rfl) (by refine vc_mp (by kernel_rfl : (True ∧ True ∧ True) = _) ?_; simp only [and_self]) ?_)
  refine vc_mp (by kernel_rfl : (∃ (x : Int), AHeap.ld h l r (1 : Nat) (1 : Nat) = some [Value.int IntKind.i64 x] ∧ ∃ (a : Option Addr), ∃ (n_1 : Nat), ∃ (c : Nat), AHeap.ld h l r (2 : Nat) (1 : Nat) = some [Value.slice a n_1 c] ∧ ∃ (x_1 : Int), ∃ (h' : AHeap), ACall Try.prog (131 : Nat) [Value.slice a n_1 c] h (Value.int IntKind.i64 x_1) h' ∧ (∃ (x_2 : Int), AHeap.ld h' l r (1 : Nat) (1 : Nat) = some [Value.int IntKind.i64 x_2] ∧ Value.int IntKind.i64 x_2 = Value.int IntKind.i64 x) ∧ Value.int IntKind.i64 (IntKind.wrap IntKind.i64 (x + x_1)) = Value.int IntKind.i64 (base + (↑n : Int)) ∧ h' = h) = _) ?_
  have l1 := ld_cells (k := 1) (m := 1) hl (by simp)
  have l2 := ld_cells (k := 2) (m := 1) hl (by simp)
  refine ⟨_, l1, _, _, _, l2, _, _, sizeStr_spec h a n c, ⟨_, l1, rfl⟩, ?_, rfl⟩
  rw [wrap_i64 (by omega)]
end Go.Proofs.Ytdcijleeoihlfaa
