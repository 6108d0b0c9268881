/- Contracts: the agreed digest, in the reference. -/
import Derived.Test.YtgcckeglmhbnmaaC4
namespace Go.Dat
open Go.Abs
def opAt (os : List Opn) (i : Nat) : Opn := os.getD i (0, ⟨#[]⟩)
def badOp (os : List Opn) (i : Nat) : Prop := ¬ (0 ≤ (opAt os i).1 ∧ (opAt os i).1 ≤ 3) ∨ (0 < i ∧ (opAt os (i - 1)).1 ≥ (opAt os i).1) ∨ (opAt os i).2.size ≠ 32
instance (os : List Opn) (i : Nat) : Decidable (badOp os i) := by unfold badOp; exact inferInstance
theorem opAt_get {os : List Opn} {i : Nat} (h : i < os.length) : os[i]? = some (opAt os i) := by
  unfold opAt; rw [List.getD_eq_getElem?_getD, List.getElem?_eq_getElem h]; rfl
def updB (os : List Opn) (i k : Nat) (best : ByteArray) : ByteArray := if (opAt os k).2 = (opAt os i).2 ∧ (best = ⟨#[]⟩ ∨ Op.bytesLess (opAt os i).2.toList best.toList = true) then (opAt os i).2 else best
def innB (os : List Opn) (i k : Nat) (best : ByteArray) : ByteArray := if k < i then innB os i (k + 1) (updB os i k best) else best
termination_by i - k
def agB (os : List Opn) (i : Nat) (best : ByteArray) : ByteArray := if i < os.length then (if badOp os i then ⟨#[]⟩ else agB os (i + 1) (innB os i 0 best)) else best
termination_by os.length - i
def agreedB (os : List Opn) : ByteArray := if os.length > 4 then ⟨#[]⟩ else agB os 0 ⟨#[]⟩
end Go.Dat
namespace Go.Proofs.Ytgcckeglmhbnmaa
open Go.Abs Go.Dat
set_option maxRecDepth 100000

theorem ld_part {h : AHeap} {l r n : Nat} {vs ws : List Value} (e : h.ld l r 0 n = some vs) (c m : Nat) (hw : (if c + m ≤ vs.length then some ((vs.drop c).take m) else none) = some ws) : h.ld l r c m = some ws := by
  unfold AHeap.ld at e ⊢
  split at e
  case h_2 => cases e
  rename_i o ho
  split at e
  case h_2 => cases e
  rename_i row hrow
  cases hc : decide (0 + n ≤ row.length) with
  | false => rw [hc] at e; cases e
  | true =>
    rw [hc] at e
    have hlen := of_decide_eq_true hc
    obtain rfl := Option.some.inj e
    split at hw
    case isFalse => cases hw
    rename_i hcm
    obtain rfl := Option.some.inj hw
    simp only [List.drop_zero, List.length_take] at hcm ⊢
    rw [decide_eq_true (show c + m ≤ row.length by omega)]
    simp only [cond_true]
    rw [List.drop_take, List.take_take, Nat.min_eq_left (by omega)]

theorem op_from {h : AHeap} {l r n c : Nat} {os : List Opn} (hr : h.rowsOf (.slice (some ⟨l, r, some 2⟩) n c) = some (os.map opRow)) {i : Nat} (hi : i < os.length) : h.ld l (r + i) 0 1 = some [.int .i64 (opAt os i).1] := by
  exact ld_part (opRow_ld hr (opAt_get hi)) 0 1 rfl
theorem op_dig {h : AHeap} {l r n c : Nat} {os : List Opn} (hr : h.rowsOf (.slice (some ⟨l, r, some 2⟩) n c) = some (os.map opRow)) {i : Nat} (hi : i < os.length) : h.ld l (r + i) 1 1 = some [.string (opAt os i).2] := by
  exact ld_part (opRow_ld hr (opAt_get hi)) 1 1 rfl

def agL0 (l r n c : Nat) (h : AHeap) (os : List Opn) (res : ByteArray) : LSpec where
  ι := Nat × ByteArray
  κ := ByteArray
  I := fun i => i.1 ≤ n ∧ agB os i.1 i.2 = res
  μ := fun i => n - i.1
  head := fun i => ⟨[(0, .slice (some ⟨l, r, some 2⟩) n c), (3, .string i.2), (4, .int .i64 i.1)], [], h⟩
  post := fun j => ⟨[(3, .string j)], [], h⟩
  R := fun _ j => j = res
  ret := fun _ v h' => v = .string res ∧ h' = h
def agL2 (l r n c : Nat) (h : AHeap) (os : List Opn) : LSpec where
  ι := Nat × Nat × ByteArray
  κ := Nat × ByteArray
  I := fun i => i.1 < n ∧ i.2.1 ≤ i.1
  μ := fun i => i.1 - i.2.1
  head := fun i => ⟨[(0, .slice (some ⟨l, r, some 2⟩) n c), (3, .string i.2.2), (4, .int .i64 i.1), (5, .int .i64 i.2.1)], [], h⟩
  post := fun j => ⟨[(0, .slice (some ⟨l, r, some 2⟩) n c), (3, .string j.2), (4, .int .i64 j.1)], [], h⟩
  R := fun i j => j.1 = i.1 ∧ j.2 = innB os i.1 i.2.1 i.2.2
  ret := fun _ _ _ => False
def agD : Nat → List Stp
  | 7 => [(0, 0, []), (1, 0, []), (2, 0, []), (3, 0, []), (4, 1, []), (5, 3, []), (6, 0, []), (7, 0, []), (8, 0, []), (9, 0, []), (10, 0, []), (11, 0, []), (12, 0, []), (13, 0, []), (14, 0, []), (15, 0, []), (17, 0, []), (18, 0, []), (19, 0, []), (20, 0, []), (16, 1, []), (21, 1, []), (22, 0, []), (23, 0, []), (24, 0, []), (25, 0, []), (26, 0, []), (27, 0, []), (28, 0, []), (29, 0, []), (30, 1, []), (31, 0, []), (32, 0, []), (33, 0, [])]
  | _ => [(0, 0, []), (1, 0, []), (2, 0, []), (3, 0, []), (5, 0, []), (6, 0, []), (7, 0, []), (8, 0, []), (4, 1, []), (9, 1, []), (10, 0, []), (11, 0, []), (12, 0, []), (13, 0, []), (14, 0, []), (15, 0, []), (16, 0, []), (17, 0, []), (18, 0, []), (20, 0, []), (19, 1, []), (21, 0, []), (22, 0, []), (23, 0, [])]

theorem specAgreed (l r n c : Nat) (h : AHeap) (os : List Opn) (hr : h.rowsOf (.slice (some ⟨l, r, some 2⟩) n c) = some (os.map opRow)) (hn : n ≤ 1048576) :
    ACall Try.prog 28 [.slice (some ⟨l, r, some 2⟩) n c] h (.string (agreedB os)) h := by
  have en := rows_len hr
  rw [List.length_map] at en
  refine acall_out (acall_by (fun _ => false) agD (fun b => match b with | 0 => agL0 l r n c h os (agB os 0 ⟨#[]⟩) | _ => agL2 l r n c h os) mixed Try.func28 rfl rfl rfl (Nat.le_of_ble_eq_true rfl) ?_ ?_)
  · refine Eq.mp (by kernel_rfl : (True ∧ (True ∧ (True ∧ True) ∧ True) ∧ True ∧ (True ∧ (∀ (i : Nat × ByteArray), Prod.fst i ≤ n ∧ agB os (Prod.fst i) (Prod.snd i) = agB os (0 : Nat) (ByteArray.mk (Array.mk [])) → bs (decide ((↑(Prod.fst i) : Int) < (↑n : Int))) (∃ (l_1 : Nat), ∃ (r_1 : Nat), some (Addr.mk l r (some (2 : Nat))) = some (Addr.mk l_1 r_1 (some (2 : Nat))) ∧ (0 : Int) ≤ (↑(Prod.fst i) : Int) ∧ (↑(Prod.fst i) : Int) < (↑n : Int) ∧ ∃ (x : Int), AHeap.ld h l_1 (r_1 + Int.toNat (↑(Prod.fst i) : Int)) (0 : Nat) (1 : Nat) = some [Value.int IntKind.i64 x] ∧ ∃ (x_1 : Bool), ∃ (h' : AHeap), ACall Try.prog (73 : Nat) [Value.int IntKind.i64 x] h (Value.bool x_1) h' ∧ bs (!x_1) (Value.string (ByteArray.mk (Array.mk [])) = Value.string (agB os (0 : Nat) (ByteArray.mk (Array.mk []))) ∧ h' = h) (bs (decide ((↑(Prod.fst i) : Int) > (0 : Int))) (∃ (l_2 : Nat), ∃ (r_2 : Nat), some (Addr.mk l r (some (2 : Nat))) = some (Addr.mk l_2 r_2 (some (2 : Nat))) ∧ (0 : Int) ≤ IntKind.wrap IntKind.i64 ((↑(Prod.fst i) : Int) - (1 : Int)) ∧ IntKind.wrap IntKind.i64 ((↑(Prod.fst i) : Int) - (1 : Int)) < (↑n : Int) ∧ ∃ (l_3 : Nat), ∃ (r_3 : Nat), some (Addr.mk l r (some (2 : Nat))) = some (Addr.mk l_3 r_3 (some (2 : Nat))) ∧ (0 : Int) ≤ (↑(Prod.fst i) : Int) ∧ (↑(Prod.fst i) : Int) < (↑n : Int) ∧ ∃ (x : Int), AHeap.ld h' l_2 (r_2 + Int.toNat (IntKind.wrap IntKind.i64 ((↑(Prod.fst i) : Int) - (1 : Int)))) (0 : Nat) (1 : Nat) = some [Value.int IntKind.i64 x] ∧ ∃ (x_2 : Int), AHeap.ld h' l_3 (r_3 + Int.toNat (↑(Prod.fst i) : Int)) (0 : Nat) (1 : Nat) = some [Value.int IntKind.i64 x_2] ∧ bs (decide (x ≥ x_2)) (Value.string (ByteArray.mk (Array.mk [])) = Value.string (agB os (0 : Nat) (ByteArray.mk (Array.mk []))) ∧ h' = h) (∃ (l_4 : Nat), ∃ (r_4 : Nat), some (Addr.mk l r (some (2 : Nat))) = some (Addr.mk l_4 r_4 (some (2 : Nat))) ∧ (0 : Int) ≤ (↑(Prod.fst i) : Int) ∧ (↑(Prod.fst i) : Int) < (↑n : Int) ∧ ∃ (x : ByteArray), AHeap.ld h' l_4 (r_4 + Int.toNat (↑(Prod.fst i) : Int)) (1 : Nat) (1 : Nat) = some [Value.string x] ∧ bs (!decide ((↑(ByteArray.size x) : Int) = (32 : Int))) (Value.string (ByteArray.mk (Array.mk [])) = Value.string (agB os (0 : Nat) (ByteArray.mk (Array.mk []))) ∧ h' = h) (∃ (i_1 : Nat × Nat × ByteArray), Value.slice (some (Addr.mk l r (some (2 : Nat)))) n c = Value.slice (some (Addr.mk l r (some (2 : Nat)))) n c ∧ Value.string (Prod.snd i) = Value.string (Prod.snd (Prod.snd i_1)) ∧ Value.int IntKind.i64 (↑(Prod.fst i) : Int) = Value.int IntKind.i64 (↑(Prod.fst i_1) : Int) ∧ Value.int IntKind.i64 (0 : Int) = Value.int IntKind.i64 (↑(Prod.fst (Prod.snd i_1)) : Int) ∧ h = h' ∧ (Prod.fst i_1 < n ∧ Prod.fst (Prod.snd i_1) ≤ Prod.fst i_1) ∧ (∀ (j : Nat × ByteArray), Prod.fst j = Prod.fst i_1 ∧ Prod.snd j = innB os (Prod.fst i_1) (Prod.fst (Prod.snd i_1)) (Prod.snd (Prod.snd i_1)) → ∃ (j_1 : Nat × ByteArray), Value.slice (some (Addr.mk l r (some (2 : Nat)))) n c = Value.slice (some (Addr.mk l r (some (2 : Nat)))) n c ∧ Value.string (Prod.snd j) = Value.string (Prod.snd j_1) ∧ Value.int IntKind.i64 (IntKind.wrap IntKind.i64 ((↑(Prod.fst j) : Int) + (1 : Int))) = Value.int IntKind.i64 (↑(Prod.fst j_1) : Int) ∧ h = h ∧ (Prod.fst j_1 ≤ n ∧ agB os (Prod.fst j_1) (Prod.snd j_1) = agB os (0 : Nat) (ByteArray.mk (Array.mk []))) ∧ n - Prod.fst j_1 < n - Prod.fst i ∧ (∀ (k : ByteArray), k = agB os (0 : Nat) (ByteArray.mk (Array.mk [])) → k = agB os (0 : Nat) (ByteArray.mk (Array.mk []))) ∧ ∀ (v : Value) (h_1 : AHeap), v = Value.string (agB os (0 : Nat) (ByteArray.mk (Array.mk []))) ∧ h_1 = h → v = Value.string (agB os (0 : Nat) (ByteArray.mk (Array.mk []))) ∧ h_1 = h) ∧ ∀ (v : Value) (h_1 : AHeap), False → v = Value.string (agB os (0 : Nat) (ByteArray.mk (Array.mk []))) ∧ h_1 = h))) (∃ (l_2 : Nat), ∃ (r_2 : Nat), some (Addr.mk l r (some (2 : Nat))) = some (Addr.mk l_2 r_2 (some (2 : Nat))) ∧ (0 : Int) ≤ (↑(Prod.fst i) : Int) ∧ (↑(Prod.fst i) : Int) < (↑n : Int) ∧ ∃ (x : ByteArray), AHeap.ld h' l_2 (r_2 + Int.toNat (↑(Prod.fst i) : Int)) (1 : Nat) (1 : Nat) = some [Value.string x] ∧ bs (!decide ((↑(ByteArray.size x) : Int) = (32 : Int))) (Value.string (ByteArray.mk (Array.mk [])) = Value.string (agB os (0 : Nat) (ByteArray.mk (Array.mk []))) ∧ h' = h) (∃ (i_1 : Nat × Nat × ByteArray), Value.slice (some (Addr.mk l r (some (2 : Nat)))) n c = Value.slice (some (Addr.mk l r (some (2 : Nat)))) n c ∧ Value.string (Prod.snd i) = Value.string (Prod.snd (Prod.snd i_1)) ∧ Value.int IntKind.i64 (↑(Prod.fst i) : Int) = Value.int IntKind.i64 (↑(Prod.fst i_1) : Int) ∧ Value.int IntKind.i64 (0 : Int) = Value.int IntKind.i64 (↑(Prod.fst (Prod.snd i_1)) : Int) ∧ h = h' ∧ (Prod.fst i_1 < n ∧ Prod.fst (Prod.snd i_1) ≤ Prod.fst i_1) ∧ (∀ (j : Nat × ByteArray), Prod.fst j = Prod.fst i_1 ∧ Prod.snd j = innB os (Prod.fst i_1) (Prod.fst (Prod.snd i_1)) (Prod.snd (Prod.snd i_1)) → ∃ (j_1 : Nat × ByteArray), Value.slice (some (Addr.mk l r (some (2 : Nat)))) n c = Value.slice (some (Addr.mk l r (some (2 : Nat)))) n c ∧ Value.string (Prod.snd j) = Value.string (Prod.snd j_1) ∧ Value.int IntKind.i64 (IntKind.wrap IntKind.i64 ((↑(Prod.fst j) : Int) + (1 : Int))) = Value.int IntKind.i64 (↑(Prod.fst j_1) : Int) ∧ h = h ∧ (Prod.fst j_1 ≤ n ∧ agB os (Prod.fst j_1) (Prod.snd j_1) = agB os (0 : Nat) (ByteArray.mk (Array.mk []))) ∧ n - Prod.fst j_1 < n - Prod.fst i ∧ (∀ (k : ByteArray), k = agB os (0 : Nat) (ByteArray.mk (Array.mk [])) → k = agB os (0 : Nat) (ByteArray.mk (Array.mk []))) ∧ ∀ (v : Value) (h_1 : AHeap), v = Value.string (agB os (0 : Nat) (ByteArray.mk (Array.mk []))) ∧ h_1 = h → v = Value.string (agB os (0 : Nat) (ByteArray.mk (Array.mk []))) ∧ h_1 = h) ∧ ∀ (v : Value) (h_1 : AHeap), False → v = Value.string (agB os (0 : Nat) (ByteArray.mk (Array.mk []))) ∧ h_1 = h)))) (∃ (j : ByteArray), Value.string (Prod.snd i) = Value.string j ∧ h = h ∧ j = agB os (0 : Nat) (ByteArray.mk (Array.mk [])))) ∧ (True ∧ True ∧ True) ∧ ((True ∧ (True ∧ True) ∧ True) ∧ True ∧ (∀ (i : Nat × Nat × ByteArray), Prod.fst i < n ∧ Prod.fst (Prod.snd i) ≤ Prod.fst i → bs (decide ((↑(Prod.fst (Prod.snd i)) : Int) < (↑(Prod.fst i) : Int))) (∃ (l_1 : Nat), ∃ (r_1 : Nat), some (Addr.mk l r (some (2 : Nat))) = some (Addr.mk l_1 r_1 (some (2 : Nat))) ∧ (0 : Int) ≤ (↑(Prod.fst (Prod.snd i)) : Int) ∧ (↑(Prod.fst (Prod.snd i)) : Int) < (↑n : Int) ∧ ∃ (l_2 : Nat), ∃ (r_2 : Nat), some (Addr.mk l r (some (2 : Nat))) = some (Addr.mk l_2 r_2 (some (2 : Nat))) ∧ (0 : Int) ≤ (↑(Prod.fst i) : Int) ∧ (↑(Prod.fst i) : Int) < (↑n : Int) ∧ ∃ (x : ByteArray), AHeap.ld h l_1 (r_1 + Int.toNat (↑(Prod.fst (Prod.snd i)) : Int)) (1 : Nat) (1 : Nat) = some [Value.string x] ∧ ∃ (x_1 : ByteArray), AHeap.ld h l_2 (r_2 + Int.toNat (↑(Prod.fst i) : Int)) (1 : Nat) (1 : Nat) = some [Value.string x_1] ∧ bs (decide (x = x_1)) (bs (decide (Prod.snd (Prod.snd i) = ByteArray.mk (Array.mk []))) (∃ (l_3 : Nat), ∃ (r_3 : Nat), some (Addr.mk l r (some (2 : Nat))) = some (Addr.mk l_3 r_3 (some (2 : Nat))) ∧ (0 : Int) ≤ (↑(Prod.fst i) : Int) ∧ (↑(Prod.fst i) : Int) < (↑n : Int) ∧ ∃ (x : ByteArray), AHeap.ld h l_3 (r_3 + Int.toNat (↑(Prod.fst i) : Int)) (1 : Nat) (1 : Nat) = some [Value.string x] ∧ ∃ (j : Nat × Nat × ByteArray), Value.slice (some (Addr.mk l r (some (2 : Nat)))) n c = Value.slice (some (Addr.mk l r (some (2 : Nat)))) n c ∧ Value.string x = Value.string (Prod.snd (Prod.snd j)) ∧ Value.int IntKind.i64 (↑(Prod.fst i) : Int) = Value.int IntKind.i64 (↑(Prod.fst j) : Int) ∧ Value.int IntKind.i64 (IntKind.wrap IntKind.i64 ((↑(Prod.fst (Prod.snd i)) : Int) + (1 : Int))) = Value.int IntKind.i64 (↑(Prod.fst (Prod.snd j)) : Int) ∧ h = h ∧ (Prod.fst j < n ∧ Prod.fst (Prod.snd j) ≤ Prod.fst j) ∧ Prod.fst j - Prod.fst (Prod.snd j) < Prod.fst i - Prod.fst (Prod.snd i) ∧ (∀ (k : Nat × ByteArray), Prod.fst k = Prod.fst j ∧ Prod.snd k = innB os (Prod.fst j) (Prod.fst (Prod.snd j)) (Prod.snd (Prod.snd j)) → Prod.fst k = Prod.fst i ∧ Prod.snd k = innB os (Prod.fst i) (Prod.fst (Prod.snd i)) (Prod.snd (Prod.snd i))) ∧ ∀ (v : Value) (h : AHeap), False → False) (∃ (l_3 : Nat), ∃ (r_3 : Nat), some (Addr.mk l r (some (2 : Nat))) = some (Addr.mk l_3 r_3 (some (2 : Nat))) ∧ (0 : Int) ≤ (↑(Prod.fst i) : Int) ∧ (↑(Prod.fst i) : Int) < (↑n : Int) ∧ ∃ (x : ByteArray), AHeap.ld h l_3 (r_3 + Int.toNat (↑(Prod.fst i) : Int)) (1 : Nat) (1 : Nat) = some [Value.string x] ∧ bs (Op.bytesLess (ByteArray.toList x) (ByteArray.toList (Prod.snd (Prod.snd i)))) (∃ (l_4 : Nat), ∃ (r_4 : Nat), some (Addr.mk l r (some (2 : Nat))) = some (Addr.mk l_4 r_4 (some (2 : Nat))) ∧ (0 : Int) ≤ (↑(Prod.fst i) : Int) ∧ (↑(Prod.fst i) : Int) < (↑n : Int) ∧ ∃ (x : ByteArray), AHeap.ld h l_4 (r_4 + Int.toNat (↑(Prod.fst i) : Int)) (1 : Nat) (1 : Nat) = some [Value.string x] ∧ ∃ (j : Nat × Nat × ByteArray), Value.slice (some (Addr.mk l r (some (2 : Nat)))) n c = Value.slice (some (Addr.mk l r (some (2 : Nat)))) n c ∧ Value.string x = Value.string (Prod.snd (Prod.snd j)) ∧ Value.int IntKind.i64 (↑(Prod.fst i) : Int) = Value.int IntKind.i64 (↑(Prod.fst j) : Int) ∧ Value.int IntKind.i64 (IntKind.wrap IntKind.i64 ((↑(Prod.fst (Prod.snd i)) : Int) + (1 : Int))) = Value.int IntKind.i64 (↑(Prod.fst (Prod.snd j)) : Int) ∧ h = h ∧ (Prod.fst j < n ∧ Prod.fst (Prod.snd j) ≤ Prod.fst j) ∧ Prod.fst j - Prod.fst (Prod.snd j) < Prod.fst i - Prod.fst (Prod.snd i) ∧ (∀ (k : Nat × ByteArray), Prod.fst k = Prod.fst j ∧ Prod.snd k = innB os (Prod.fst j) (Prod.fst (Prod.snd j)) (Prod.snd (Prod.snd j)) → Prod.fst k = Prod.fst i ∧ Prod.snd k = innB os (Prod.fst i) (Prod.fst (Prod.snd i)) (Prod.snd (Prod.snd i))) ∧ ∀ (v : Value) (h : AHeap), False → False) (∃ (j : Nat × Nat × ByteArray), Value.slice (some (Addr.mk l r (some (2 : Nat)))) n c = Value.slice (some (Addr.mk l r (some (2 : Nat)))) n c ∧ Value.string (Prod.snd (Prod.snd i)) = Value.string (Prod.snd (Prod.snd j)) ∧ Value.int IntKind.i64 (↑(Prod.fst i) : Int) = Value.int IntKind.i64 (↑(Prod.fst j) : Int) ∧ Value.int IntKind.i64 (IntKind.wrap IntKind.i64 ((↑(Prod.fst (Prod.snd i)) : Int) + (1 : Int))) = Value.int IntKind.i64 (↑(Prod.fst (Prod.snd j)) : Int) ∧ h = h ∧ (Prod.fst j < n ∧ Prod.fst (Prod.snd j) ≤ Prod.fst j) ∧ Prod.fst j - Prod.fst (Prod.snd j) < Prod.fst i - Prod.fst (Prod.snd i) ∧ (∀ (k : Nat × ByteArray), Prod.fst k = Prod.fst j ∧ Prod.snd k = innB os (Prod.fst j) (Prod.fst (Prod.snd j)) (Prod.snd (Prod.snd j)) → Prod.fst k = Prod.fst i ∧ Prod.snd k = innB os (Prod.fst i) (Prod.fst (Prod.snd i)) (Prod.snd (Prod.snd i))) ∧ ∀ (v : Value) (h : AHeap), False → False))) (∃ (j : Nat × Nat × ByteArray), Value.slice (some (Addr.mk l r (some (2 : Nat)))) n c = Value.slice (some (Addr.mk l r (some (2 : Nat)))) n c ∧ Value.string (Prod.snd (Prod.snd i)) = Value.string (Prod.snd (Prod.snd j)) ∧ Value.int IntKind.i64 (↑(Prod.fst i) : Int) = Value.int IntKind.i64 (↑(Prod.fst j) : Int) ∧ Value.int IntKind.i64 (IntKind.wrap IntKind.i64 ((↑(Prod.fst (Prod.snd i)) : Int) + (1 : Int))) = Value.int IntKind.i64 (↑(Prod.fst (Prod.snd j)) : Int) ∧ h = h ∧ (Prod.fst j < n ∧ Prod.fst (Prod.snd j) ≤ Prod.fst j) ∧ Prod.fst j - Prod.fst (Prod.snd j) < Prod.fst i - Prod.fst (Prod.snd i) ∧ (∀ (k : Nat × ByteArray), Prod.fst k = Prod.fst j ∧ Prod.snd k = innB os (Prod.fst j) (Prod.fst (Prod.snd j)) (Prod.snd (Prod.snd j)) → Prod.fst k = Prod.fst i ∧ Prod.snd k = innB os (Prod.fst i) (Prod.fst (Prod.snd i)) (Prod.snd (Prod.snd i))) ∧ ∀ (v : Value) (h : AHeap), False → False)) (∃ (j : Nat × ByteArray), Value.slice (some (Addr.mk l r (some (2 : Nat)))) n c = Value.slice (some (Addr.mk l r (some (2 : Nat)))) n c ∧ Value.string (Prod.snd (Prod.snd i)) = Value.string (Prod.snd j) ∧ Value.int IntKind.i64 (↑(Prod.fst i) : Int) = Value.int IntKind.i64 (↑(Prod.fst j) : Int) ∧ h = h ∧ Prod.fst j = Prod.fst i ∧ Prod.snd j = innB os (Prod.fst i) (Prod.fst (Prod.snd i)) (Prod.snd (Prod.snd i)))) ∧ (True ∧ True ∧ True) ∧ (True ∧ True ∧ True) ∧ True) ∧ True) ∧ True ∧ True) = _) ?_
    simp only [true_and, and_true]
    refine ⟨?_, ?_⟩
    · rintro ⟨i, best⟩ ⟨hi, he⟩
      dsimp only at *
      refine bs_dec (fun hlt => ?_) (fun hge => ?_)
      · have hio : i < os.length := by omega
        rw [agB, if_pos hio] at he
        simp only [Int.toNat_natCast]
        refine ⟨l, r, rfl, Int.natCast_nonneg _, hlt, _, op_from hr hio, _, _, l09Who_spec _ h, ?_⟩
        refine bs_of (fun hb => ?_) (fun hb => ?_)
        · have : badOp os i := .inl fun h => by simp [h] at hb
          rw [if_pos this] at he; rw [← he]; exact ⟨rfl, by trivial⟩
        have hin : 0 ≤ (opAt os i).1 ∧ (opAt os i).1 ≤ 3 := by simpa using hb
        have fin : ¬ badOp os i → ∀ j : Nat × ByteArray, j.1 = i ∧ j.2 = innB os i 0 best → agB os (j.1 + 1) j.2 = agB os 0 ⟨#[]⟩ := fun hb j hj => by
          rw [if_neg hb] at he; rw [hj.1, hj.2]; exact he
        refine bs_dec (fun hpos => ?_) (fun hpos => ?_)
        · have e1 : IntKind.i64.wrap ((i : Int) - 1) = ((i - 1 : Nat) : Int) := by rw [wrap_i64 (by omega)]; omega
          rw [e1]
          simp only [Int.toNat_natCast]
          refine ⟨l, r, rfl, Int.natCast_nonneg _, by omega, l, r, rfl, Int.natCast_nonneg _, hlt, _, op_from hr (by omega), _, op_from hr hio, ?_⟩
          refine bs_dec (fun hge => ?_) (fun hge => ?_)
          · have : badOp os i := .inr (.inl ⟨by omega, hge⟩)
            rw [if_pos this] at he; rw [← he]; exact ⟨rfl, by trivial⟩
          refine ⟨l, r, rfl, Int.natCast_nonneg _, hlt, _, op_dig hr hio, bs_dec_not (fun hs => ?_) (fun hs => ?_)⟩
          · have : badOp os i := .inr (.inr fun e => hs (by rw [e]; rfl))
            rw [if_pos this] at he; rw [← he]; exact ⟨rfl, by trivial⟩
          · have hb : ¬ badOp os i := fun h => h.elim (fun h => h hin) fun h => h.elim (fun h => hge h.2) fun h => h (by omega)
            exact ⟨(i, 0, best), rfl, rfl, rfl, by trivial, ⟨by omega, Nat.zero_le _⟩, fun j hj => ⟨(j.1 + 1, j.2), rfl, by rw [wrap_i64 (by omega)]; rfl, ⟨by dsimp only; omega, fin hb j hj⟩, by dsimp only; omega, fun _ h => h, fun _ _ h => h⟩, fun _ _ h => h.elim⟩
        · refine ⟨l, r, rfl, Int.natCast_nonneg _, hlt, _, op_dig hr hio, bs_dec_not (fun hs => ?_) (fun hs => ?_)⟩
          · have : badOp os i := .inr (.inr fun e => hs (by rw [e]; rfl))
            rw [if_pos this] at he; rw [← he]; exact ⟨rfl, by trivial⟩
          · have hb : ¬ badOp os i := fun h => h.elim (fun h => h hin) fun h => h.elim (fun h => hpos (by omega)) fun h => h (by omega)
            exact ⟨(i, 0, best), rfl, rfl, rfl, by trivial, ⟨by omega, Nat.zero_le _⟩, fun j hj => ⟨(j.1 + 1, j.2), rfl, by rw [wrap_i64 (by omega)]; rfl, ⟨by dsimp only; omega, fin hb j hj⟩, by dsimp only; omega, fun _ h => h, fun _ _ h => h⟩, fun _ _ h => h.elim⟩
      · have e : i = os.length := by omega
        subst e
        rw [agB, if_neg (by omega)] at he
        exact ⟨best, rfl, he⟩
    · rintro ⟨i, k, best⟩ ⟨hi, hk⟩
      dsimp only at *
      refine bs_dec (fun hlt => ?_) (fun hge => ?_)
      · have hik : k < i := by omega
        have hki : k < os.length := by omega
        have hii : i < os.length := by omega
        have w : IntKind.i64.wrap ((k : Int) + 1) = ((k + 1 : Nat) : Int) := by rw [wrap_i64 (by omega)]; rfl
        have step : ∀ b, b = updB os i k best → ∀ j : Nat × ByteArray, j.1 = i ∧ j.2 = innB os i (k + 1) b → j.1 = i ∧ j.2 = innB os i k best := fun b hb j hj => ⟨hj.1, by rw [innB, if_pos hik, ← hb]; exact hj.2⟩
        rw [w]
        simp only [Int.toNat_natCast]
        refine ⟨l, r, rfl, Int.natCast_nonneg _, by omega, l, r, rfl, Int.natCast_nonneg _, by omega, _, op_dig hr hki, _, op_dig hr hii, bs_dec (fun heq => ?_) (fun hne => ?_)⟩
        · refine bs_dec (fun hb => ?_) (fun hb => ?_)
          · refine ⟨l, r, rfl, Int.natCast_nonneg _, by omega, _, op_dig hr hii, (i, k + 1, _), rfl, rfl, rfl, ⟨hi, hik⟩, by dsimp only; omega, step _ ?_, fun _ _ h => h⟩
            unfold updB; rw [if_pos ⟨heq, .inl hb⟩]
          · refine ⟨l, r, rfl, Int.natCast_nonneg _, by omega, _, op_dig hr hii, bs_of (fun hl => ?_) (fun hl => ?_)⟩
            · refine ⟨l, r, rfl, Int.natCast_nonneg _, by omega, _, op_dig hr hii, (i, k + 1, _), rfl, rfl, rfl, ⟨hi, hik⟩, by dsimp only; omega, step _ ?_, fun _ _ h => h⟩
              unfold updB; rw [if_pos ⟨heq, .inr hl⟩]
            · refine ⟨(i, k + 1, best), rfl, rfl, rfl, ⟨hi, hik⟩, by dsimp only; omega, step _ ?_, fun _ _ h => h⟩
              unfold updB; rw [if_neg (by rintro ⟨_, h | h⟩; exact hb h; rw [h] at hl; cases hl)]
        · refine ⟨(i, k + 1, best), rfl, rfl, rfl, ⟨hi, hik⟩, by dsimp only; omega, step _ ?_, fun _ _ h => h⟩
          unfold updB; rw [if_neg (fun h => hne h.1)]
      · exact ⟨(i, best), rfl, rfl, rfl, by rw [innB, if_neg (by omega)]⟩
  · refine Eq.mp (by kernel_rfl : (bs (decide ((↑n : Int) > (4 : Int))) (Value.string (ByteArray.mk (Array.mk [])) = Value.string (agreedB os) ∧ h = h) (∃ (i : Nat × ByteArray), Value.slice (some (Addr.mk l r (some (2 : Nat)))) n c = Value.slice (some (Addr.mk l r (some (2 : Nat)))) n c ∧ Value.string (ByteArray.mk (Array.mk [])) = Value.string (Prod.snd i) ∧ Value.int IntKind.i64 (0 : Int) = Value.int IntKind.i64 (↑(Prod.fst i) : Int) ∧ h = h ∧ (Prod.fst i ≤ n ∧ agB os (Prod.fst i) (Prod.snd i) = agB os (0 : Nat) (ByteArray.mk (Array.mk []))) ∧ (∀ (j : ByteArray), j = agB os (0 : Nat) (ByteArray.mk (Array.mk [])) → Value.string j = Value.string (agreedB os) ∧ h = h) ∧ ∀ (v : Value) (h_1 : AHeap), v = Value.string (agB os (0 : Nat) (ByteArray.mk (Array.mk []))) ∧ h_1 = h → v = Value.string (agreedB os) ∧ h_1 = h)) = _) ?_
    refine bs_dec (fun e => ?_) (fun e => ?_)
    · unfold agreedB; rw [if_pos (by omega)]; exact ⟨rfl, by trivial⟩
    · have ea : agreedB os = agB os 0 ⟨#[]⟩ := by unfold agreedB; rw [if_neg (by omega)]
      rw [ea]
      exact ⟨(0, ⟨#[]⟩), rfl, rfl, rfl, rfl, ⟨Nat.zero_le _, rfl⟩, fun j hj => ⟨by rw [hj], rfl⟩, fun _ _ h => h⟩
end Go.Proofs.Ytgcckeglmhbnmaa
