/- Contracts: clients that are right. -/
import Derived.Test.YtdcijleeoihlfaaC3
import Derived.Test.YtdcijleeoihlfaaG1
namespace Go.Dat
open Go.Abs
open Classical in
noncomputable def tr (p : Prop) : Bool := decide p
theorem tr_true {p : Prop} (h : p) : true = tr p := by unfold tr; simp [h]
theorem tr_false {p : Prop} (h : ¬ p) : false = tr p := by unfold tr; simp [h]
theorem of_tr {p : Prop} (h : tr p = true) : p := by unfold tr at h; simpa using h
theorem of_trn {p : Prop} (h : tr p = false) : ¬ p := by unfold tr at h; simpa using h
/-- One of the replies that a client heard. -/
def HOk (hs : List heardSh.T) (i : Nat) : Prop := ∃ (f : Int) (t : ByteArray), hs[i]? = some (f, t) ∧ (0 ≤ f ∧ f ≤ 3) ∧ t.size ≤ 900 ∧ ∀ j, i = j + 1 → ∃ (g : Int) (u : ByteArray), hs[j]? = some (g, u) ∧ g < f
def ClientOk (id number : Int) (asked : Bool) (hs : List heardSh.T) (told : ByteArray) : Prop :=
  (1 ≤ id ∧ id ≤ 9) ∧ (0 ≤ number ∧ number ≤ 1000000000) ∧ told.size ≤ 900 ∧ ¬ ((asked = true ∨ number = 0) ∧ told ≠ ⟨#[]⟩) ∧ ¬ (asked = true ∧ number = 0) ∧ ¬ (asked = false ∧ 0 < hs.length) ∧ ∀ i, i < hs.length → HOk hs i
end Go.Dat
namespace Go.Proofs.Ytdcijleeoihlfaa
open Go.Abs Go.Dat
set_option maxRecDepth 100000
set_option maxHeartbeats 4000000

theorem isTime_spec (n : Int) (h : AHeap) : ACall Try.prog 76 [.int .i64 n] h (.bool (decide (0 ≤ n) && decide (n ≤ 1000000000))) h := by
  refine acall_out (acall_vc (fun _ => true) (fun _ => []) (fun _ => .none) mixed Try.func76 rfl rfl rfl (Nat.le_of_ble_eq_true rfl) (by refine vc_mp (by kernel_rfl : (True ∧ True ∧ True) = _) ?_; simp only [and_self]) ?_)
  refine vc_mp (by kernel_rfl : (∃ (x : Bool), ∃ (h' : AHeap), ACall Try.prog (93 : Nat) [Value.int IntKind.i64 n, Value.int IntKind.i64 (0 : Int), Value.int IntKind.i64 (1000000000 : Int)] h (Value.bool x) h' ∧ Value.bool x = Value.bool (decide ((0 : Int) ≤ n) && decide (n ≤ (1000000000 : Int))) ∧ h' = h) = _) ?_
  exact ⟨_, _, within_spec _ _ _ _, rfl, rfl⟩

def crL (id number : Int) (asked : Bool) (a : Option Addr) (c : Nat) (hs : List heardSh.T) (told : ByteArray) (h : AHeap) : LSpec where
  ι := Nat
  κ := Unit
  I := fun i => i ≤ hs.length ∧ ∀ j, j < i → HOk hs j
  μ := fun i => hs.length - i
  head := fun i => ⟨[(1, .complex .f32 0 0), (3, .int .i64 i)], [[.int .i64 id, .int .i64 number, .bool asked, .slice a hs.length c, .string told]], h⟩
  post := fun _ => ⟨[], [[.int .i64 id, .int .i64 number, .bool asked, .slice a hs.length c, .string told]], h⟩
  R := fun _ _ => ∀ j, j < hs.length → HOk hs j
  ret := fun _ v h' => v = .bool false ∧ h' = h ∧ ∃ j, j < hs.length ∧ ¬ HOk hs j

def ciL (id number : Int) (asked : Bool) (a : Option Addr) (c : Nat) (hs : List heardSh.T) (told : ByteArray) (h : AHeap) : LSpec where
  ι := Nat
  κ := Unit
  I := fun i => i ≤ hs.length ∧ ∀ j, j < i → HOk hs j
  μ := fun i => hs.length - i
  head := fun i => ⟨[(1, .complex .f32 0 0), (56, .slice a hs.length c), (57, .int .i64 hs.length), (58, .int .i64 i)], [[.int .i64 id, .int .i64 number, .bool asked, .slice a hs.length c, .string told]], h⟩
  post := fun _ => ⟨[], [[.int .i64 id, .int .i64 number, .bool asked, .slice a hs.length c, .string told]], h⟩
  R := fun _ _ => ∀ j, j < hs.length → HOk hs j
  ret := fun _ v h' => v = .bool false ∧ h' = h ∧ ∃ j, j < hs.length ∧ ¬ HOk hs j

end Go.Proofs.Ytdcijleeoihlfaa
