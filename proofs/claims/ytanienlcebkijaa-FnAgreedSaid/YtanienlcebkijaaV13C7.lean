/- C5, C6, C7. -/
import Derived.Test.YtanienlcebkijaaV13C4
section
namespace Go.Dat
open Go.Abs
def opAt (os : List Opn) (i : Nat) : Opn := os.getD i (0, ⟨#[]⟩)
def badOp (os : List Opn) (i : Nat) : Prop := ¬ (0 ≤ (opAt os i).1 ∧ (opAt os i).1 ≤ 3) ∨ (0 < i ∧ (opAt os (i - 1)).1 ≥ (opAt os i).1) ∨ (opAt os i).2.size ≠ 32
instance (os : List Opn) (i : Nat) : Decidable (badOp os i) := by unfold badOp; exact inferInstance
theorem opAt_get {os : List Opn} {i : Nat} (h : i < os.length) : os[i]? = some (opAt os i) := by
  unfold opAt; rw [List.getD_eq_getElem?_getD, List.getElem?_eq_getElem h]; rfl
def updB (os : List Opn) (i k : Nat) (best : ByteArray) : ByteArray := if (opAt os k).2 = (opAt os i).2 ∧ (best = ⟨#[]⟩ ∨ Op.bytesLess (opAt os i).2.toList best.toList = true) then (opAt os i).2 else best
def innB (os : List Opn) (i k : Nat) (best : ByteArray) : ByteArray := if k < i then innB os i (k + 1) (updB os i k best) else best
termination_by i - k
def agB (os : List Opn) (i : Nat) (best : ByteArray) : ByteArray := if i < os.length then (if badOp os i then ⟨#[]⟩ else agB os (i + 1) (innB os i 0 best)) else best
termination_by os.length - i
def agreedB (os : List Opn) : ByteArray := if os.length > 4 then ⟨#[]⟩ else agB os 0 ⟨#[]⟩
end Go.Dat
namespace Go.Proofs.Ytanienlcebkijaa
open Go.Abs Go.Dat
set_option maxRecDepth 100000
theorem ld_part {h : AHeap} {l r n : Nat} {vs ws : List Value} (e : h.ld l r 0 n = some vs) (c m : Nat) (hw : (if c + m ≤ vs.length then some ((vs.drop c).take m) else none) = some ws) : h.ld l r c m = some ws := by
  unfold AHeap.ld at e ⊢
  split at e
  case h_2 => cases e
  rename_i o ho
  split at e
  case h_2 => cases e
  rename_i row hrow
  cases hc : decide (0 + n ≤ row.length) with
  | false => rw [hc] at e; cases e
  | true =>
    rw [hc] at e
    have hlen := of_decide_eq_true hc
    obtain rfl := Option.some.inj e
    split at hw
    case isFalse => cases hw
    rename_i hcm
    obtain rfl := Option.some.inj hw
    simp only [List.drop_zero, List.length_take] at hcm ⊢
    rw [decide_eq_true (show c + m ≤ row.length by omega)]
    simp only [cond_true]
    rw [List.drop_take, List.take_take, Nat.min_eq_left (by omega)]
theorem op_from {h : AHeap} {l r n c : Nat} {os : List Opn} (hr : h.rowsOf (.slice (some ⟨l, r, some 2⟩) n c) = some (os.map opRow)) {i : Nat} (hi : i < os.length) : h.ld l (r + i) 0 1 = some [.int .i64 (opAt os i).1] := by
  exact ld_part (opRow_ld hr (opAt_get hi)) 0 1 rfl
theorem op_dig {h : AHeap} {l r n c : Nat} {os : List Opn} (hr : h.rowsOf (.slice (some ⟨l, r, some 2⟩) n c) = some (os.map opRow)) {i : Nat} (hi : i < os.length) : h.ld l (r + i) 1 1 = some [.string (opAt os i).2] := by
  exact ld_part (opRow_ld hr (opAt_get hi)) 1 1 rfl
def agL0 (l r n c : Nat) (h : AHeap) (os : List Opn) (res : ByteArray) : LSpec where
  ι := Nat × ByteArray
  κ := ByteArray
  I := fun i => i.1 ≤ n ∧ agB os i.1 i.2 = res
  μ := fun i => n - i.1
  head := fun i => ⟨[(0, .slice (some ⟨l, r, some 2⟩) n c), (3, .string i.2), (4, .int .i64 i.1)], [], h⟩
  post := fun j => ⟨[(3, .string j)], [], h⟩
  R := fun _ j => j = res
  ret := fun _ v h' => v = .string res ∧ h' = h
def agL2 (l r n c : Nat) (h : AHeap) (os : List Opn) : LSpec where
  ι := Nat × Nat × ByteArray
  κ := Nat × ByteArray
  I := fun i => i.1 < n ∧ i.2.1 ≤ i.1
  μ := fun i => i.1 - i.2.1
  head := fun i => ⟨[(0, .slice (some ⟨l, r, some 2⟩) n c), (3, .string i.2.2), (4, .int .i64 i.1), (5, .int .i64 i.2.1)], [], h⟩
  post := fun j => ⟨[(0, .slice (some ⟨l, r, some 2⟩) n c), (3, .string j.2), (4, .int .i64 j.1)], [], h⟩
  R := fun i j => j.1 = i.1 ∧ j.2 = innB os i.1 i.2.1 i.2.2
  ret := fun _ _ _ => False
def agD : Nat → List Stp
  | 7 => [(0, 0, []), (1, 0, []), (2, 0, []), (3, 0, []), (4, 1, []), (5, 3, []), (6, 0, []), (7, 0, []), (8, 0, []), (9, 0, []), (10, 0, []), (11, 0, []), (12, 0, []), (13, 0, []), (14, 0, []), (15, 0, []), (17, 0, []), (18, 0, []), (19, 0, []), (20, 0, []), (16, 1, []), (21, 1, []), (22, 0, []), (23, 0, []), (24, 0, []), (25, 0, []), (26, 0, []), (27, 0, []), (28, 0, []), (29, 0, []), (30, 1, []), (31, 0, []), (32, 0, []), (33, 0, [])]
  | _ => [(0, 0, []), (1, 0, []), (2, 0, []), (3, 0, []), (5, 0, []), (6, 0, []), (7, 0, []), (8, 0, []), (4, 1, []), (9, 1, []), (10, 0, []), (11, 0, []), (12, 0, []), (13, 0, []), (14, 0, []), (15, 0, []), (16, 0, []), (17, 0, []), (18, 0, []), (20, 0, []), (19, 1, []), (21, 0, []), (22, 0, []), (23, 0, [])]
theorem specAgreed (l r n c : Nat) (h : AHeap) (os : List Opn) (hr : h.rowsOf (.slice (some ⟨l, r, some 2⟩) n c) = some (os.map opRow)) (hn : n ≤ 1048576) :
    ACall Try.prog 11 [.slice (some ⟨l, r, some 2⟩) n c] h (.string (agreedB os)) h := by
  have en := rows_len hr
  rw [List.length_map] at en
  refine acall_out (acall_by (fun _ => false) agD (fun b => match b with | 0 => agL0 l r n c h os (agB os 0 ⟨#[]⟩) | _ => agL2 l r n c h os) mixed Try.func11 rfl rfl rfl (Nat.le_of_ble_eq_true rfl) ?_ ?_)
  · refine Eq.mp (by kernel_rfl : (True ∧ (True ∧ (True ∧ True) ∧ True) ∧ True ∧ (True ∧ (∀ (i : Nat × ByteArray), Prod.fst i ≤ n ∧ agB os (Prod.fst i) (Prod.snd i) = agB os (0 : Nat) (ByteArray.mk (Array.mk [])) → bs (decide ((↑(Prod.fst i) : Int) < (↑n : Int))) (∃ (l_1 : Nat), ∃ (r_1 : Nat), some (Addr.mk l r (some (2 : Nat))) = some (Addr.mk l_1 r_1 (some (2 : Nat))) ∧ (0 : Int) ≤ (↑(Prod.fst i) : Int) ∧ (↑(Prod.fst i) : Int) < (↑n : Int) ∧ ∃ (x : Int), AHeap.ld h l_1 (r_1 + Int.toNat (↑(Prod.fst i) : Int)) (0 : Nat) (1 : Nat) = some [Value.int IntKind.i64 x] ∧ ∃ (x_1 : Bool), ∃ (h' : AHeap), ACall Try.prog (73 : Nat) [Value.int IntKind.i64 x] h (Value.bool x_1) h' ∧ bs (!x_1) (Value.string (ByteArray.mk (Array.mk [])) = Value.string (agB os (0 : Nat) (ByteArray.mk (Array.mk []))) ∧ h' = h) (bs (decide ((↑(Prod.fst i) : Int) > (0 : Int))) (∃ (l_2 : Nat), ∃ (r_2 : Nat), some (Addr.mk l r (some (2 : Nat))) = some (Addr.mk l_2 r_2 (some (2 : Nat))) ∧ (0 : Int) ≤ IntKind.wrap IntKind.i64 ((↑(Prod.fst i) : Int) - (1 : Int)) ∧ IntKind.wrap IntKind.i64 ((↑(Prod.fst i) : Int) - (1 : Int)) < (↑n : Int) ∧ ∃ (l_3 : Nat), ∃ (r_3 : Nat), some (Addr.mk l r (some (2 : Nat))) = some (Addr.mk l_3 r_3 (some (2 : Nat))) ∧ (0 : Int) ≤ (↑(Prod.fst i) : Int) ∧ (↑(Prod.fst i) : Int) < (↑n : Int) ∧ ∃ (x : Int), AHeap.ld h' l_2 (r_2 + Int.toNat (IntKind.wrap IntKind.i64 ((↑(Prod.fst i) : Int) - (1 : Int)))) (0 : Nat) (1 : Nat) = some [Value.int IntKind.i64 x] ∧ ∃ (x_2 : Int), AHeap.ld h' l_3 (r_3 + Int.toNat (↑(Prod.fst i) : Int)) (0 : Nat) (1 : Nat) = some [Value.int IntKind.i64 x_2] ∧ bs (decide (x ≥ x_2)) (Value.string (ByteArray.mk (Array.mk [])) = Value.string (agB os (0 : Nat) (ByteArray.mk (Array.mk []))) ∧ h' = h) (∃ (l_4 : Nat), ∃ (r_4 : Nat), some (Addr.mk l r (some (2 : Nat))) = some (Addr.mk l_4 r_4 (some (2 : Nat))) ∧ (0 : Int) ≤ (↑(Prod.fst i) : Int) ∧ (↑(Prod.fst i) : Int) < (↑n : Int) ∧ ∃ (x : ByteArray), AHeap.ld h' l_4 (r_4 + Int.toNat (↑(Prod.fst i) : Int)) (1 : Nat) (1 : Nat) = some [Value.string x] ∧ bs (!decide ((↑(ByteArray.size x) : Int) = (32 : Int))) (Value.string (ByteArray.mk (Array.mk [])) = Value.string (agB os (0 : Nat) (ByteArray.mk (Array.mk []))) ∧ h' = h) (∃ (i_1 : Nat × Nat × ByteArray), Value.slice (some (Addr.mk l r (some (2 : Nat)))) n c = Value.slice (some (Addr.mk l r (some (2 : Nat)))) n c ∧ Value.string (Prod.snd i) = Value.string (Prod.snd (Prod.snd i_1)) ∧ Value.int IntKind.i64 (↑(Prod.fst i) : Int) = Value.int IntKind.i64 (↑(Prod.fst i_1) : Int) ∧ Value.int IntKind.i64 (0 : Int) = Value.int IntKind.i64 (↑(Prod.fst (Prod.snd i_1)) : Int) ∧ h = h' ∧ (Prod.fst i_1 < n ∧ Prod.fst (Prod.snd i_1) ≤ Prod.fst i_1) ∧ (∀ (j : Nat × ByteArray), Prod.fst j = Prod.fst i_1 ∧ Prod.snd j = innB os (Prod.fst i_1) (Prod.fst (Prod.snd i_1)) (Prod.snd (Prod.snd i_1)) → ∃ (j_1 : Nat × ByteArray), Value.slice (some (Addr.mk l r (some (2 : Nat)))) n c = Value.slice (some (Addr.mk l r (some (2 : Nat)))) n c ∧ Value.string (Prod.snd j) = Value.string (Prod.snd j_1) ∧ Value.int IntKind.i64 (IntKind.wrap IntKind.i64 ((↑(Prod.fst j) : Int) + (1 : Int))) = Value.int IntKind.i64 (↑(Prod.fst j_1) : Int) ∧ h = h ∧ (Prod.fst j_1 ≤ n ∧ agB os (Prod.fst j_1) (Prod.snd j_1) = agB os (0 : Nat) (ByteArray.mk (Array.mk []))) ∧ n - Prod.fst j_1 < n - Prod.fst i ∧ (∀ (k : ByteArray), k = agB os (0 : Nat) (ByteArray.mk (Array.mk [])) → k = agB os (0 : Nat) (ByteArray.mk (Array.mk []))) ∧ ∀ (v : Value) (h_1 : AHeap), v = Value.string (agB os (0 : Nat) (ByteArray.mk (Array.mk []))) ∧ h_1 = h → v = Value.string (agB os (0 : Nat) (ByteArray.mk (Array.mk []))) ∧ h_1 = h) ∧ ∀ (v : Value) (h_1 : AHeap), False → v = Value.string (agB os (0 : Nat) (ByteArray.mk (Array.mk []))) ∧ h_1 = h))) (∃ (l_2 : Nat), ∃ (r_2 : Nat), some (Addr.mk l r (some (2 : Nat))) = some (Addr.mk l_2 r_2 (some (2 : Nat))) ∧ (0 : Int) ≤ (↑(Prod.fst i) : Int) ∧ (↑(Prod.fst i) : Int) < (↑n : Int) ∧ ∃ (x : ByteArray), AHeap.ld h' l_2 (r_2 + Int.toNat (↑(Prod.fst i) : Int)) (1 : Nat) (1 : Nat) = some [Value.string x] ∧ bs (!decide ((↑(ByteArray.size x) : Int) = (32 : Int))) (Value.string (ByteArray.mk (Array.mk [])) = Value.string (agB os (0 : Nat) (ByteArray.mk (Array.mk []))) ∧ h' = h) (∃ (i_1 : Nat × Nat × ByteArray), Value.slice (some (Addr.mk l r (some (2 : Nat)))) n c = Value.slice (some (Addr.mk l r (some (2 : Nat)))) n c ∧ Value.string (Prod.snd i) = Value.string (Prod.snd (Prod.snd i_1)) ∧ Value.int IntKind.i64 (↑(Prod.fst i) : Int) = Value.int IntKind.i64 (↑(Prod.fst i_1) : Int) ∧ Value.int IntKind.i64 (0 : Int) = Value.int IntKind.i64 (↑(Prod.fst (Prod.snd i_1)) : Int) ∧ h = h' ∧ (Prod.fst i_1 < n ∧ Prod.fst (Prod.snd i_1) ≤ Prod.fst i_1) ∧ (∀ (j : Nat × ByteArray), Prod.fst j = Prod.fst i_1 ∧ Prod.snd j = innB os (Prod.fst i_1) (Prod.fst (Prod.snd i_1)) (Prod.snd (Prod.snd i_1)) → ∃ (j_1 : Nat × ByteArray), Value.slice (some (Addr.mk l r (some (2 : Nat)))) n c = Value.slice (some (Addr.mk l r (some (2 : Nat)))) n c ∧ Value.string (Prod.snd j) = Value.string (Prod.snd j_1) ∧ Value.int IntKind.i64 (IntKind.wrap IntKind.i64 ((↑(Prod.fst j) : Int) + (1 : Int))) = Value.int IntKind.i64 (↑(Prod.fst j_1) : Int) ∧ h = h ∧ (Prod.fst j_1 ≤ n ∧ agB os (Prod.fst j_1) (Prod.snd j_1) = agB os (0 : Nat) (ByteArray.mk (Array.mk []))) ∧ n - Prod.fst j_1 < n - Prod.fst i ∧ (∀ (k : ByteArray), k = agB os (0 : Nat) (ByteArray.mk (Array.mk [])) → k = agB os (0 : Nat) (ByteArray.mk (Array.mk []))) ∧ ∀ (v : Value) (h_1 : AHeap), v = Value.string (agB os (0 : Nat) (ByteArray.mk (Array.mk []))) ∧ h_1 = h → v = Value.string (agB os (0 : Nat) (ByteArray.mk (Array.mk []))) ∧ h_1 = h) ∧ ∀ (v : Value) (h_1 : AHeap), False → v = Value.string (agB os (0 : Nat) (ByteArray.mk (Array.mk []))) ∧ h_1 = h)))) (∃ (j : ByteArray), Value.string (Prod.snd i) = Value.string j ∧ h = h ∧ j = agB os (0 : Nat) (ByteArray.mk (Array.mk [])))) ∧ (True ∧ True ∧ True) ∧ ((True ∧ (True ∧ True) ∧ True) ∧ True ∧ (∀ (i : Nat × Nat × ByteArray), Prod.fst i < n ∧ Prod.fst (Prod.snd i) ≤ Prod.fst i → bs (decide ((↑(Prod.fst (Prod.snd i)) : Int) < (↑(Prod.fst i) : Int))) (∃ (l_1 : Nat), ∃ (r_1 : Nat), some (Addr.mk l r (some (2 : Nat))) = some (Addr.mk l_1 r_1 (some (2 : Nat))) ∧ (0 : Int) ≤ (↑(Prod.fst (Prod.snd i)) : Int) ∧ (↑(Prod.fst (Prod.snd i)) : Int) < (↑n : Int) ∧ ∃ (l_2 : Nat), ∃ (r_2 : Nat), some (Addr.mk l r (some (2 : Nat))) = some (Addr.mk l_2 r_2 (some (2 : Nat))) ∧ (0 : Int) ≤ (↑(Prod.fst i) : Int) ∧ (↑(Prod.fst i) : Int) < (↑n : Int) ∧ ∃ (x : ByteArray), AHeap.ld h l_1 (r_1 + Int.toNat (↑(Prod.fst (Prod.snd i)) : Int)) (1 : Nat) (1 : Nat) = some [Value.string x] ∧ ∃ (x_1 : ByteArray), AHeap.ld h l_2 (r_2 + Int.toNat (↑(Prod.fst i) : Int)) (1 : Nat) (1 : Nat) = some [Value.string x_1] ∧ bs (decide (x = x_1)) (bs (decide (Prod.snd (Prod.snd i) = ByteArray.mk (Array.mk []))) (∃ (l_3 : Nat), ∃ (r_3 : Nat), some (Addr.mk l r (some (2 : Nat))) = some (Addr.mk l_3 r_3 (some (2 : Nat))) ∧ (0 : Int) ≤ (↑(Prod.fst i) : Int) ∧ (↑(Prod.fst i) : Int) < (↑n : Int) ∧ ∃ (x : ByteArray), AHeap.ld h l_3 (r_3 + Int.toNat (↑(Prod.fst i) : Int)) (1 : Nat) (1 : Nat) = some [Value.string x] ∧ ∃ (j : Nat × Nat × ByteArray), Value.slice (some (Addr.mk l r (some (2 : Nat)))) n c = Value.slice (some (Addr.mk l r (some (2 : Nat)))) n c ∧ Value.string x = Value.string (Prod.snd (Prod.snd j)) ∧ Value.int IntKind.i64 (↑(Prod.fst i) : Int) = Value.int IntKind.i64 (↑(Prod.fst j) : Int) ∧ Value.int IntKind.i64 (IntKind.wrap IntKind.i64 ((↑(Prod.fst (Prod.snd i)) : Int) + (1 : Int))) = Value.int IntKind.i64 (↑(Prod.fst (Prod.snd j)) : Int) ∧ h = h ∧ (Prod.fst j < n ∧ Prod.fst (Prod.snd j) ≤ Prod.fst j) ∧ Prod.fst j - Prod.fst (Prod.snd j) < Prod.fst i - Prod.fst (Prod.snd i) ∧ (∀ (k : Nat × ByteArray), Prod.fst k = Prod.fst j ∧ Prod.snd k = innB os (Prod.fst j) (Prod.fst (Prod.snd j)) (Prod.snd (Prod.snd j)) → Prod.fst k = Prod.fst i ∧ Prod.snd k = innB os (Prod.fst i) (Prod.fst (Prod.snd i)) (Prod.snd (Prod.snd i))) ∧ ∀ (v : Value) (h : AHeap), False → False) (∃ (l_3 : Nat), ∃ (r_3 : Nat), some (Addr.mk l r (some (2 : Nat))) = some (Addr.mk l_3 r_3 (some (2 : Nat))) ∧ (0 : Int) ≤ (↑(Prod.fst i) : Int) ∧ (↑(Prod.fst i) : Int) < (↑n : Int) ∧ ∃ (x : ByteArray), AHeap.ld h l_3 (r_3 + Int.toNat (↑(Prod.fst i) : Int)) (1 : Nat) (1 : Nat) = some [Value.string x] ∧ bs (Op.bytesLess (ByteArray.toList x) (ByteArray.toList (Prod.snd (Prod.snd i)))) (∃ (l_4 : Nat), ∃ (r_4 : Nat), some (Addr.mk l r (some (2 : Nat))) = some (Addr.mk l_4 r_4 (some (2 : Nat))) ∧ (0 : Int) ≤ (↑(Prod.fst i) : Int) ∧ (↑(Prod.fst i) : Int) < (↑n : Int) ∧ ∃ (x : ByteArray), AHeap.ld h l_4 (r_4 + Int.toNat (↑(Prod.fst i) : Int)) (1 : Nat) (1 : Nat) = some [Value.string x] ∧ ∃ (j : Nat × Nat × ByteArray), Value.slice (some (Addr.mk l r (some (2 : Nat)))) n c = Value.slice (some (Addr.mk l r (some (2 : Nat)))) n c ∧ Value.string x = Value.string (Prod.snd (Prod.snd j)) ∧ Value.int IntKind.i64 (↑(Prod.fst i) : Int) = Value.int IntKind.i64 (↑(Prod.fst j) : Int) ∧ Value.int IntKind.i64 (IntKind.wrap IntKind.i64 ((↑(Prod.fst (Prod.snd i)) : Int) + (1 : Int))) = Value.int IntKind.i64 (↑(Prod.fst (Prod.snd j)) : Int) ∧ h = h ∧ (Prod.fst j < n ∧ Prod.fst (Prod.snd j) ≤ Prod.fst j) ∧ Prod.fst j - Prod.fst (Prod.snd j) < Prod.fst i - Prod.fst (Prod.snd i) ∧ (∀ (k : Nat × ByteArray), Prod.fst k = Prod.fst j ∧ Prod.snd k = innB os (Prod.fst j) (Prod.fst (Prod.snd j)) (Prod.snd (Prod.snd j)) → Prod.fst k = Prod.fst i ∧ Prod.snd k = innB os (Prod.fst i) (Prod.fst (Prod.snd i)) (Prod.snd (Prod.snd i))) ∧ ∀ (v : Value) (h : AHeap), False → False) (∃ (j : Nat × Nat × ByteArray), Value.slice (some (Addr.mk l r (some (2 : Nat)))) n c = Value.slice (some (Addr.mk l r (some (2 : Nat)))) n c ∧ Value.string (Prod.snd (Prod.snd i)) = Value.string (Prod.snd (Prod.snd j)) ∧ Value.int IntKind.i64 (↑(Prod.fst i) : Int) = Value.int IntKind.i64 (↑(Prod.fst j) : Int) ∧ Value.int IntKind.i64 (IntKind.wrap IntKind.i64 ((↑(Prod.fst (Prod.snd i)) : Int) + (1 : Int))) = Value.int IntKind.i64 (↑(Prod.fst (Prod.snd j)) : Int) ∧ h = h ∧ (Prod.fst j < n ∧ Prod.fst (Prod.snd j) ≤ Prod.fst j) ∧ Prod.fst j - Prod.fst (Prod.snd j) < Prod.fst i - Prod.fst (Prod.snd i) ∧ (∀ (k : Nat × ByteArray), Prod.fst k = Prod.fst j ∧ Prod.snd k = innB os (Prod.fst j) (Prod.fst (Prod.snd j)) (Prod.snd (Prod.snd j)) → Prod.fst k = Prod.fst i ∧ Prod.snd k = innB os (Prod.fst i) (Prod.fst (Prod.snd i)) (Prod.snd (Prod.snd i))) ∧ ∀ (v : Value) (h : AHeap), False → False))) (∃ (j : Nat × Nat × ByteArray), Value.slice (some (Addr.mk l r (some (2 : Nat)))) n c = Value.slice (some (Addr.mk l r (some (2 : Nat)))) n c ∧ Value.string (Prod.snd (Prod.snd i)) = Value.string (Prod.snd (Prod.snd j)) ∧ Value.int IntKind.i64 (↑(Prod.fst i) : Int) = Value.int IntKind.i64 (↑(Prod.fst j) : Int) ∧ Value.int IntKind.i64 (IntKind.wrap IntKind.i64 ((↑(Prod.fst (Prod.snd i)) : Int) + (1 : Int))) = Value.int IntKind.i64 (↑(Prod.fst (Prod.snd j)) : Int) ∧ h = h ∧ (Prod.fst j < n ∧ Prod.fst (Prod.snd j) ≤ Prod.fst j) ∧ Prod.fst j - Prod.fst (Prod.snd j) < Prod.fst i - Prod.fst (Prod.snd i) ∧ (∀ (k : Nat × ByteArray), Prod.fst k = Prod.fst j ∧ Prod.snd k = innB os (Prod.fst j) (Prod.fst (Prod.snd j)) (Prod.snd (Prod.snd j)) → Prod.fst k = Prod.fst i ∧ Prod.snd k = innB os (Prod.fst i) (Prod.fst (Prod.snd i)) (Prod.snd (Prod.snd i))) ∧ ∀ (v : Value) (h : AHeap), False → False)) (∃ (j : Nat × ByteArray), Value.slice (some (Addr.mk l r (some (2 : Nat)))) n c = Value.slice (some (Addr.mk l r (some (2 : Nat)))) n c ∧ Value.string (Prod.snd (Prod.snd i)) = Value.string (Prod.snd j) ∧ Value.int IntKind.i64 (↑(Prod.fst i) : Int) = Value.int IntKind.i64 (↑(Prod.fst j) : Int) ∧ h = h ∧ Prod.fst j = Prod.fst i ∧ Prod.snd j = innB os (Prod.fst i) (Prod.fst (Prod.snd i)) (Prod.snd (Prod.snd i)))) ∧ (True ∧ True ∧ True) ∧ (True ∧ True ∧ True) ∧ True) ∧ True) ∧ True ∧ True) = _) ?_
    simp only [true_and, and_true]
    refine ⟨?_, ?_⟩
    · rintro ⟨i, best⟩ ⟨hi, he⟩
      dsimp only at *
      refine bs_dec (fun hlt => ?_) (fun hge => ?_)
      · have hio : i < os.length := by omega
        rw [agB, if_pos hio] at he
        simp only [Int.toNat_natCast]
        refine ⟨l, r, rfl, Int.natCast_nonneg _, hlt, _, op_from hr hio, _, _, l09Who_spec _ h, ?_⟩
        refine bs_of (fun hb => ?_) (fun hb => ?_)
        · have : badOp os i := .inl fun h => by simp [h] at hb
          rw [if_pos this] at he; rw [← he]; exact ⟨rfl, by trivial⟩
        have hin : 0 ≤ (opAt os i).1 ∧ (opAt os i).1 ≤ 3 := by simpa using hb
        have fin : ¬ badOp os i → ∀ j : Nat × ByteArray, j.1 = i ∧ j.2 = innB os i 0 best → agB os (j.1 + 1) j.2 = agB os 0 ⟨#[]⟩ := fun hb j hj => by
          rw [if_neg hb] at he; rw [hj.1, hj.2]; exact he
        refine bs_dec (fun hpos => ?_) (fun hpos => ?_)
        · have e1 : IntKind.i64.wrap ((i : Int) - 1) = ((i - 1 : Nat) : Int) := by rw [wrap_i64 (by omega)]; omega
          rw [e1]
          simp only [Int.toNat_natCast]
          refine ⟨l, r, rfl, Int.natCast_nonneg _, by omega, l, r, rfl, Int.natCast_nonneg _, hlt, _, op_from hr (by omega), _, op_from hr hio, ?_⟩
          refine bs_dec (fun hge => ?_) (fun hge => ?_)
          · have : badOp os i := .inr (.inl ⟨by omega, hge⟩)
            rw [if_pos this] at he; rw [← he]; exact ⟨rfl, by trivial⟩
          refine ⟨l, r, rfl, Int.natCast_nonneg _, hlt, _, op_dig hr hio, bs_dec_not (fun hs => ?_) (fun hs => ?_)⟩
          · have : badOp os i := .inr (.inr fun e => hs (by rw [e]; rfl))
            rw [if_pos this] at he; rw [← he]; exact ⟨rfl, by trivial⟩
          · have hb : ¬ badOp os i := fun h => h.elim (fun h => h hin) fun h => h.elim (fun h => hge h.2) fun h => h (by omega)
            exact ⟨(i, 0, best), rfl, rfl, rfl, by trivial, ⟨by omega, Nat.zero_le _⟩, fun j hj => ⟨(j.1 + 1, j.2), rfl, by rw [wrap_i64 (by omega)]; rfl, ⟨by dsimp only; omega, fin hb j hj⟩, by dsimp only; omega, fun _ h => h, fun _ _ h => h⟩, fun _ _ h => h.elim⟩
        · refine ⟨l, r, rfl, Int.natCast_nonneg _, hlt, _, op_dig hr hio, bs_dec_not (fun hs => ?_) (fun hs => ?_)⟩
          · have : badOp os i := .inr (.inr fun e => hs (by rw [e]; rfl))
            rw [if_pos this] at he; rw [← he]; exact ⟨rfl, by trivial⟩
          · have hb : ¬ badOp os i := fun h => h.elim (fun h => h hin) fun h => h.elim (fun h => hpos (by omega)) fun h => h (by omega)
            exact ⟨(i, 0, best), rfl, rfl, rfl, by trivial, ⟨by omega, Nat.zero_le _⟩, fun j hj => ⟨(j.1 + 1, j.2), rfl, by rw [wrap_i64 (by omega)]; rfl, ⟨by dsimp only; omega, fin hb j hj⟩, by dsimp only; omega, fun _ h => h, fun _ _ h => h⟩, fun _ _ h => h.elim⟩
      · have e : i = os.length := by omega
        subst e
        rw [agB, if_neg (by omega)] at he
        exact ⟨best, rfl, he⟩
    · rintro ⟨i, k, best⟩ ⟨hi, hk⟩
      dsimp only at *
      refine bs_dec (fun hlt => ?_) (fun hge => ?_)
      · have hik : k < i := by omega
        have hki : k < os.length := by omega
        have hii : i < os.length := by omega
        have w : IntKind.i64.wrap ((k : Int) + 1) = ((k + 1 : Nat) : Int) := by rw [wrap_i64 (by omega)]; rfl
        have step : ∀ b, b = updB os i k best → ∀ j : Nat × ByteArray, j.1 = i ∧ j.2 = innB os i (k + 1) b → j.1 = i ∧ j.2 = innB os i k best := fun b hb j hj => ⟨hj.1, by rw [innB, if_pos hik, ← hb]; exact hj.2⟩
        rw [w]
        simp only [Int.toNat_natCast]
        refine ⟨l, r, rfl, Int.natCast_nonneg _, by omega, l, r, rfl, Int.natCast_nonneg _, by omega, _, op_dig hr hki, _, op_dig hr hii, bs_dec (fun heq => ?_) (fun hne => ?_)⟩
        · refine bs_dec (fun hb => ?_) (fun hb => ?_)
          · refine ⟨l, r, rfl, Int.natCast_nonneg _, by omega, _, op_dig hr hii, (i, k + 1, _), rfl, rfl, rfl, ⟨hi, hik⟩, by dsimp only; omega, step _ ?_, fun _ _ h => h⟩
            unfold updB; rw [if_pos ⟨heq, .inl hb⟩]
          · refine ⟨l, r, rfl, Int.natCast_nonneg _, by omega, _, op_dig hr hii, bs_of (fun hl => ?_) (fun hl => ?_)⟩
            · refine ⟨l, r, rfl, Int.natCast_nonneg _, by omega, _, op_dig hr hii, (i, k + 1, _), rfl, rfl, rfl, ⟨hi, hik⟩, by dsimp only; omega, step _ ?_, fun _ _ h => h⟩
              unfold updB; rw [if_pos ⟨heq, .inr hl⟩]
            · refine ⟨(i, k + 1, best), rfl, rfl, rfl, ⟨hi, hik⟩, by dsimp only; omega, step _ ?_, fun _ _ h => h⟩
              unfold updB; rw [if_neg (by rintro ⟨_, h | h⟩; exact hb h; rw [h] at hl; cases hl)]
        · refine ⟨(i, k + 1, best), rfl, rfl, rfl, ⟨hi, hik⟩, by dsimp only; omega, step _ ?_, fun _ _ h => h⟩
          unfold updB; rw [if_neg (fun h => hne h.1)]
      · exact ⟨(i, best), rfl, rfl, rfl, by rw [innB, if_neg (by omega)]⟩
  · refine Eq.mp (by kernel_rfl : (bs (decide ((↑n : Int) > (4 : Int))) (Value.string (ByteArray.mk (Array.mk [])) = Value.string (agreedB os) ∧ h = h) (∃ (i : Nat × ByteArray), Value.slice (some (Addr.mk l r (some (2 : Nat)))) n c = Value.slice (some (Addr.mk l r (some (2 : Nat)))) n c ∧ Value.string (ByteArray.mk (Array.mk [])) = Value.string (Prod.snd i) ∧ Value.int IntKind.i64 (0 : Int) = Value.int IntKind.i64 (↑(Prod.fst i) : Int) ∧ h = h ∧ (Prod.fst i ≤ n ∧ agB os (Prod.fst i) (Prod.snd i) = agB os (0 : Nat) (ByteArray.mk (Array.mk []))) ∧ (∀ (j : ByteArray), j = agB os (0 : Nat) (ByteArray.mk (Array.mk [])) → Value.string j = Value.string (agreedB os) ∧ h = h) ∧ ∀ (v : Value) (h_1 : AHeap), v = Value.string (agB os (0 : Nat) (ByteArray.mk (Array.mk []))) ∧ h_1 = h → v = Value.string (agreedB os) ∧ h_1 = h)) = _) ?_
    refine bs_dec (fun e => ?_) (fun e => ?_)
    · unfold agreedB; rw [if_pos (by omega)]; exact ⟨rfl, by trivial⟩
    · have ea : agreedB os = agB os 0 ⟨#[]⟩ := by unfold agreedB; rw [if_neg (by omega)]
      rw [ea]
      exact ⟨(0, ⟨#[]⟩), rfl, rfl, rfl, rfl, ⟨Nat.zero_le _, rfl⟩, fun j hj => ⟨by rw [hj], rfl⟩, fun _ _ h => h⟩
end Go.Proofs.Ytanienlcebkijaa
end
section
namespace Go.Dat
open Go.Abs
def fI (os : List Opn) (d : ByteArray) (i : Nat) : Int := if i < os.length then (if (opAt os i).2 = d then (i : Int) else fI os d (i + 1)) else -1
termination_by os.length - i
end Go.Dat
namespace Go.Proofs.Ytanienlcebkijaa
open Go.Abs Go.Dat
set_option maxRecDepth 100000
theorem closure1 (p : Opn) (lo : Nat) (d : ByteArray) (h : AHeap) (hd : h.ld lo 0 1 1 = some [.string d]) : ACall Try.prog 72 [opV p, .pointer (some ⟨lo, 0, some 0⟩)] h (.bool (decide (p.2 = d))) h := by
  unfold opV
  refine acall_out (acall_by (fun _ => false) (fun _ => []) (fun _ => .none) mixed Try.func72 rfl rfl rfl (Nat.le_of_ble_eq_true rfl) (by refine Eq.mp (by kernel_rfl : (True ∧ True ∧ True) = _) ?_; simp only [and_self]) ?_)
  refine Eq.mp (by kernel_rfl : (∃ (x : ByteArray), AHeap.ld h lo (0 : Nat) (1 : Nat) (1 : Nat) = some [Value.string x] ∧ Value.bool (decide (Prod.snd p = x)) = Value.bool (decide (Prod.snd p = d)) ∧ h = h) = _) ?_
  exact ⟨d, hd, rfl, rfl⟩
def clo (lo : Nat) : Value := .func (.func 72) #[] #[.pointer (some ⟨lo, 0, some 0⟩)]
def ixL (l r n c lo : Nat) (h : AHeap) (os : List Opn) (d : ByteArray) : LSpec where
  ι := Nat
  κ := Unit
  I := fun i => i ≤ n ∧ fI os d i = fI os d 0
  μ := fun i => n - i
  head := fun i => ⟨[(0, .slice (some ⟨l, r, some 2⟩) n c), (1, clo lo), (7, .int .i64 n), (8, .int .i64 i)], [], h⟩
  post := fun _ => ⟨[], [], h⟩
  R := fun _ _ => fI os d 0 = -1
  ret := fun _ v h' => v = .int .i64 (fI os d 0) ∧ h' = h
theorem indexFunc_spec (l r n c lo : Nat) (h : AHeap) (os : List Opn) (d : ByteArray) (hd : h.ld lo 0 1 1 = some [.string d]) (hr : h.rowsOf (.slice (some ⟨l, r, some 2⟩) n c) = some (os.map opRow)) (hn : n ≤ 1048576) :
    ACall Try.prog 137 [.slice (some ⟨l, r, some 2⟩) n c, clo lo] h (.int .i64 (fI os d 0)) h := by
  have en := rows_len hr
  rw [List.length_map] at en
  refine acall_out (acall_by (fun _ => true) (fun _ => []) (fun _ => ixL l r n c lo h os d) mixed Try.func137 rfl rfl rfl (Nat.le_of_ble_eq_true rfl) ?_ ?_)
  · refine Eq.mp (by kernel_rfl : (True ∧ (True ∧ (∀ (i : Nat), i ≤ n ∧ fI os d i = fI os d (0 : Nat) → bs (decide ((↑i : Int) < (↑n : Int))) (∃ (l_1 : Nat), ∃ (r_1 : Nat), some (Addr.mk l r (some (2 : Nat))) = some (Addr.mk l_1 r_1 (some (2 : Nat))) ∧ (0 : Int) ≤ (↑i : Int) ∧ (↑i : Int) < (↑n : Int) ∧ ∃ (x : Int), ∃ (x_1 : ByteArray), AHeap.ld h l_1 (r_1 + Int.toNat (↑i : Int)) (0 : Nat) (2 : Nat) = some [Value.int IntKind.i64 x, Value.string x_1] ∧ ∃ (x_2 : Bool), ∃ (h' : AHeap), ACall Try.prog (72 : FuncId) [Value.agg (Array.mk [Value.int IntKind.i64 x, Value.string x_1]), Value.pointer (some (Addr.mk lo (0 : Nat) (some (0 : Nat))))] h (Value.bool x_2) h' ∧ bs x_2 (Value.int IntKind.i64 (↑i : Int) = Value.int IntKind.i64 (fI os d (0 : Nat)) ∧ h' = h) (∃ (j : Nat), Value.slice (some (Addr.mk l r (some (2 : Nat)))) n c = Value.slice (some (Addr.mk l r (some (2 : Nat)))) n c ∧ Value.func (Fn.func (72 : FuncId)) (Array.mk []) (Array.mk [Value.pointer (some (Addr.mk lo (0 : Nat) (some (0 : Nat))))]) = Value.func (Fn.func (72 : FuncId)) (Array.mk []) (Array.mk [Value.pointer (some (Addr.mk lo (0 : Nat) (some (0 : Nat))))]) ∧ Value.int IntKind.i64 (↑n : Int) = Value.int IntKind.i64 (↑n : Int) ∧ Value.int IntKind.i64 (IntKind.wrap IntKind.i64 ((↑i : Int) + (1 : Int))) = Value.int IntKind.i64 (↑j : Int) ∧ h = h' ∧ (j ≤ n ∧ fI os d j = fI os d (0 : Nat)) ∧ n - j < n - i ∧ (∀ (k : Unit), fI os d (0 : Nat) = (-1 : Int) → fI os d (0 : Nat) = (-1 : Int)) ∧ ∀ (v : Value) (h_1 : AHeap), v = Value.int IntKind.i64 (fI os d (0 : Nat)) ∧ h_1 = h → v = Value.int IntKind.i64 (fI os d (0 : Nat)) ∧ h_1 = h)) (∃ (j : Unit), h = h ∧ fI os d (0 : Nat) = (-1 : Int))) ∧ True ∧ (True ∧ True) ∧ (True ∧ True ∧ (True ∧ True) ∧ True) ∧ True) ∧ True ∧ True) = _) ?_
    simp only [true_and, and_true]
    rintro i ⟨hi, he⟩
    refine bs_dec (fun hlt => ?_) (fun hge => ?_)
    · have hio : i < os.length := by omega
      rw [fI, if_pos hio] at he
      refine ⟨l, r, rfl, Int.natCast_nonneg _, hlt, _, _, opRow_ld hr (opAt_get hio), _, _, closure1 (opAt os i) lo d h hd, bs_dec (fun hy => ?_) (fun hy => ?_)⟩
      · rw [if_pos hy] at he; rw [he]; exact ⟨rfl, rfl⟩
      · rw [if_neg hy] at he
        exact ⟨i + 1, by rw [wrap_i64 (by omega)]; rfl, rfl, ⟨by omega, he⟩, by omega, fun _ h => h, fun _ _ h => h⟩
    · rw [fI, if_neg (by omega)] at he
      exact ⟨(), he.symm⟩
  · refine Eq.mp (by kernel_rfl : (∃ (i : Nat), Value.slice (some (Addr.mk l r (some (2 : Nat)))) n c = Value.slice (some (Addr.mk l r (some (2 : Nat)))) n c ∧ Value.func (Fn.func (72 : FuncId)) (Array.mk []) (Array.mk [Value.pointer (some (Addr.mk lo (0 : Nat) (some (0 : Nat))))]) = Value.func (Fn.func (72 : FuncId)) (Array.mk []) (Array.mk [Value.pointer (some (Addr.mk lo (0 : Nat) (some (0 : Nat))))]) ∧ Value.int IntKind.i64 (↑n : Int) = Value.int IntKind.i64 (↑n : Int) ∧ Value.int IntKind.i64 (0 : Int) = Value.int IntKind.i64 (↑i : Int) ∧ h = h ∧ (i ≤ n ∧ fI os d i = fI os d (0 : Nat)) ∧ (∀ (j : Unit), fI os d (0 : Nat) = (-1 : Int) → Value.int IntKind.i64 (-1 : Int) = Value.int IntKind.i64 (fI os d (0 : Nat)) ∧ h = h) ∧ ∀ (v : Value) (h_1 : AHeap), v = Value.int IntKind.i64 (fI os d (0 : Nat)) ∧ h_1 = h → v = Value.int IntKind.i64 (fI os d (0 : Nat)) ∧ h_1 = h) = _) ?_
    exact ⟨(0 : Nat), rfl, rfl, rfl, rfl, rfl, ⟨Nat.zero_le _, rfl⟩, fun _ e => ⟨by rw [e], rfl⟩, fun _ _ h => h⟩
theorem containsFunc_spec (l r n c lo : Nat) (h : AHeap) (os : List Opn) (d : ByteArray) (hd : h.ld lo 0 1 1 = some [.string d]) (hr : h.rowsOf (.slice (some ⟨l, r, some 2⟩) n c) = some (os.map opRow)) (hn : n ≤ 1048576) :
    ACall Try.prog 71 [.slice (some ⟨l, r, some 2⟩) n c, clo lo] h (.bool (decide (0 ≤ fI os d 0))) h := by
  refine acall_out (acall_by (fun _ => true) (fun _ => []) (fun _ => .none) mixed Try.func71 rfl rfl rfl (Nat.le_of_ble_eq_true rfl) (by refine Eq.mp (by kernel_rfl : (True ∧ True ∧ True) = _) ?_; simp only [and_self]) ?_)
  refine Eq.mp (by kernel_rfl : (∃ (x : Int), ∃ (h' : AHeap), ACall Try.prog (137 : Nat) [Value.slice (some (Addr.mk l r (some (2 : Nat)))) n c, Value.func (Fn.func (72 : FuncId)) (Array.mk []) (Array.mk [Value.pointer (some (Addr.mk lo (0 : Nat) (some (0 : Nat))))])] h (Value.int IntKind.i64 x) h' ∧ Value.bool (decide (x ≥ (0 : Int))) = Value.bool (decide ((0 : Int) ≤ fI os d (0 : Nat))) ∧ h' = h) = _) ?_
  exact ⟨_, _, indexFunc_spec l r n c lo h os d hd hr hn, rfl, rfl⟩
end Go.Proofs.Ytanienlcebkijaa
end
section
namespace Go.Dat
open Go.Abs
theorem inn_done {os : List Opn} {i : Nat} (hs : (opAt os i).2.size = 32) : ∀ (m k : Nat), i - k = m → innB os i k (opAt os i).2 = (opAt os i).2
  | 0, k, hm => by rw [innB, if_neg (by omega)]
  | m + 1, k, hm => by
    rw [innB, if_pos (by omega)]
    have : updB os i k (opAt os i).2 = (opAt os i).2 := by unfold updB; split <;> rfl
    rw [this]; exact inn_done hs m (k + 1) (by omega)
theorem inn_eq {os : List Opn} {i : Nat} (hi : i < os.length) (hs : (opAt os i).2.size = 32) (best : ByteArray) : ∀ (m k : Nat), i - k = m →
    innB os i k best = if (0 ≤ fI (os.take i) (opAt os i).2 k) ∧ (best = ⟨#[]⟩ ∨ Op.bytesLess (opAt os i).2.toList best.toList = true) then (opAt os i).2 else best
  | 0, k, hm => by
    have e : fI (os.take i) (opAt os i).2 k = -1 := by rw [fI, if_neg (by rw [List.length_take]; omega)]
    rw [innB, if_neg (by omega), e, if_neg (by omega)]
  | m + 1, k, hm => by
    have hl : (os.take i).length = i := by rw [List.length_take]; omega
    have hk : opAt (os.take i) k = opAt os k := by
      unfold opAt
      rw [List.getD_eq_getElem?_getD, List.getD_eq_getElem?_getD, List.getElem?_take, if_pos (by omega)]
    have e : fI (os.take i) (opAt os i).2 k = if (opAt os k).2 = (opAt os i).2 then (k : Int) else fI (os.take i) (opAt os i).2 (k + 1) := by rw [fI, if_pos (by omega), hk]
    rw [innB, if_pos (by omega), e]
    by_cases h1 : (opAt os k).2 = (opAt os i).2
    · rw [if_pos h1]
      by_cases h2 : (best = ⟨#[]⟩ ∨ Op.bytesLess (opAt os i).2.toList best.toList = true)
      · have : updB os i k best = (opAt os i).2 := by unfold updB; rw [if_pos ⟨h1, h2⟩]
        rw [this, inn_done hs m (k + 1) (by omega), if_pos ⟨by omega, h2⟩]
      · have : updB os i k best = best := by unfold updB; rw [if_neg (fun h => h2 h.2)]
        rw [this, inn_eq hi hs best m (k + 1) (by omega), if_neg (fun h => h2 h.2), if_neg (fun h => h2 h.2)]
    · have : updB os i k best = best := by unfold updB; rw [if_neg (fun h => h1 h.1)]
      rw [this, if_neg h1, inn_eq hi hs best m (k + 1) (by omega)]
end Go.Dat
namespace Go.Proofs.Ytanienlcebkijaa
open Go.Abs Go.Dat
set_option maxRecDepth 100000
theorem rows_take {h : AHeap} {l r e n c i c' : Nat} {rows : List (List Value)} (hr : h.rowsOf (.slice (some ⟨l, r, some e⟩) n c) = some rows) (hi : i ≤ n) : h.rowsOf (.slice (some ⟨l, r, some e⟩) i c') = some (rows.take i) := by
  unfold AHeap.rowsOf at hr ⊢
  dsimp only at hr ⊢
  split at hr
  case h_2 => cases hr
  rename_i o ho
  cases hc : (o.esz == e && decide (r + n ≤ o.rows.length)) with
  | false => rw [hc] at hr; cases hr
  | true =>
    rw [hc] at hr
    simp only [Bool.and_eq_true, decide_eq_true_eq] at hc
    obtain rfl := Option.some.inj hr
    rw [hc.1, decide_eq_true (show r + i ≤ o.rows.length by omega)]
    simp only [Bool.and_true, cond_true, List.take_take]
    rw [Nat.min_eq_left hi]
def iaL (l r n c : Nat) (h : AHeap) (os : List Opn) (res : ByteArray) : LSpec where
  ι := Nat × ByteArray × AHeap
  κ := ByteArray × AHeap
  I := fun i => i.1 ≤ n ∧ agB os i.1 i.2.1 = res ∧ h.Le i.2.2 ∧ i.2.2.wf
  μ := fun i => n - i.1
  head := fun i => ⟨[(0, .slice (some ⟨l, r, some 2⟩) n c), (3, .string i.2.1), (10, .slice (some ⟨l, r, some 2⟩) n c), (11, .int .i64 n), (12, .int .i64 i.1)], [], i.2.2⟩
  post := fun j => ⟨[(3, .string j.1)], [], j.2⟩
  R := fun _ j => j.1 = res ∧ h.Le j.2 ∧ j.2.wf
  ret := fun _ v h' => v = .string res ∧ h.Le h' ∧ h'.wf
theorem implAgreed (l r n c : Nat) (h : AHeap) (hw : h.wf) (os : List Opn) (hr : h.rowsOf (.slice (some ⟨l, r, some 2⟩) n c) = some (os.map opRow)) (hn : n ≤ 1048576) :
    PCall Try.prog 10 [.slice (some ⟨l, r, some 2⟩) n c] h fun v _ => v = .string (agreedB os) := by
  have en := rows_len hr
  rw [List.length_map] at en
  refine acall_by (fun t => t == 5) (fun _ => [(0, 0, []), (1, 1, []), (2, 3, []), (3, 0, []), (4, 0, []), (5, 0, []), (6, 0, []), (7, 0, []), (8, 0, []), (9, 0, []), (10, 0, []), (11, 0, []), (12, 0, []), (14, 0, []), (13, 1, []), (15, 1, []), (16, 0, []), (17, 0, []), (18, 0, []), (19, 0, []), (20, 0, []), (21, 1, []), (22, 0, []), (23, 0, []), (24, 0, [])]) (fun _ => iaL l r n c h os (agB os 0 ⟨#[]⟩)) mixed Try.func10 rfl rfl rfl (Nat.le_of_ble_eq_true rfl) ?_ ?_
  · refine Eq.mp (by kernel_rfl : (True ∧ (True ∧ (True ∧ True) ∧ True) ∧ True ∧ (True ∧ (∀ (i : Nat × ByteArray × AHeap), Prod.fst i ≤ n ∧ agB os (Prod.fst i) (Prod.fst (Prod.snd i)) = agB os (0 : Nat) (ByteArray.mk (Array.mk [])) ∧ AHeap.Le h (Prod.snd (Prod.snd i)) ∧ AHeap.wf (Prod.snd (Prod.snd i)) → bs (decide ((↑(Prod.fst i) : Int) < (↑n : Int))) (∃ (l_1 : Nat), ∃ (r_1 : Nat), some (Addr.mk l r (some (2 : Nat))) = some (Addr.mk l_1 r_1 (some (2 : Nat))) ∧ (0 : Int) ≤ (↑(Prod.fst i) : Int) ∧ (↑(Prod.fst i) : Int) < (↑n : Int) ∧ ∃ (x : Int), ∃ (x_1 : ByteArray), AHeap.ld (Prod.snd (Prod.snd i)) l_1 (r_1 + Int.toNat (↑(Prod.fst i) : Int)) (0 : Nat) (2 : Nat) = some [Value.int IntKind.i64 x, Value.string x_1] ∧ ∃ (h' : AHeap), AHeap.wr (AHeap.push (Prod.snd (Prod.snd i)) (AObj.mk [[Value.int IntKind.i64 (Int.ofNat (0 : Nat)), Value.string (ByteArray.mk (Array.mk []))]] (2 : Nat) true)) (AHeap.n (Prod.snd (Prod.snd i))) (0 : Nat) (0 : Nat) [Value.int IntKind.i64 x, Value.string x_1] = some h' ∧ ∃ (x : Int), AHeap.ld h' (AHeap.n (Prod.snd (Prod.snd i))) (0 : Nat) (0 : Nat) (1 : Nat) = some [Value.int IntKind.i64 x] ∧ ∃ (x_2 : Bool), ∃ (h'_1 : AHeap), ACall Try.prog (70 : Nat) [Value.int IntKind.i64 x] h' (Value.bool x_2) h'_1 ∧ bs (!x_2) (Value.string (ByteArray.mk (Array.mk [])) = Value.string (agB os (0 : Nat) (ByteArray.mk (Array.mk []))) ∧ AHeap.Le h h'_1 ∧ AHeap.wf h'_1) (bs (decide ((↑(Prod.fst i) : Int) > (0 : Int))) (∃ (l_2 : Nat), ∃ (r_2 : Nat), some (Addr.mk l r (some (2 : Nat))) = some (Addr.mk l_2 r_2 (some (2 : Nat))) ∧ (0 : Int) ≤ IntKind.wrap IntKind.i64 ((↑(Prod.fst i) : Int) - (1 : Int)) ∧ IntKind.wrap IntKind.i64 ((↑(Prod.fst i) : Int) - (1 : Int)) < (↑n : Int) ∧ ∃ (x : Int), AHeap.ld h'_1 l_2 (r_2 + Int.toNat (IntKind.wrap IntKind.i64 ((↑(Prod.fst i) : Int) - (1 : Int)))) (0 : Nat) (1 : Nat) = some [Value.int IntKind.i64 x] ∧ ∃ (x_3 : Int), AHeap.ld h'_1 (AHeap.n (Prod.snd (Prod.snd i))) (0 : Nat) (0 : Nat) (1 : Nat) = some [Value.int IntKind.i64 x_3] ∧ bs (decide (x ≥ x_3)) (Value.string (ByteArray.mk (Array.mk [])) = Value.string (agB os (0 : Nat) (ByteArray.mk (Array.mk []))) ∧ AHeap.Le h h'_1 ∧ AHeap.wf h'_1) (∃ (x : ByteArray), AHeap.ld h'_1 (AHeap.n (Prod.snd (Prod.snd i))) (0 : Nat) (1 : Nat) (1 : Nat) = some [Value.string x] ∧ bs (!decide ((↑(ByteArray.size x) : Int) = (32 : Int))) (Value.string (ByteArray.mk (Array.mk [])) = Value.string (agB os (0 : Nat) (ByteArray.mk (Array.mk []))) ∧ AHeap.Le h h'_1 ∧ AHeap.wf h'_1) ((0 : Int) ≤ (0 : Int) ∧ (0 : Int) ≤ (↑(Prod.fst i) : Int) ∧ ((↑(Prod.fst i) : Int) ≤ (↑n : Int) ∨ c ≠ (0 : Nat) ∧ (↑(Prod.fst i) : Int) < (↑c : Int)) ∧ (∀ (x : Addr), some (Addr.mk l r (some (2 : Nat))) = some x → Addr.spot x = some (2 : Nat)) ∧ ∃ (x : Bool), ∃ (h' : AHeap), ACall Try.prog (71 : Nat) [Value.slice (some (Addr.mk l (r + Int.toNat (0 : Int)) (some (2 : Nat)))) (Int.toNat (↑(Prod.fst i) : Int) - Int.toNat (0 : Int)) (bif decide (c = (0 : Nat)) then (0 : Nat) else c - Int.toNat (0 : Int)), Value.func (Fn.func (72 : Nat)) (Array.mk []) (Array.mk [Value.pointer (some (Addr.mk (AHeap.n (Prod.snd (Prod.snd i))) (0 : Nat) (some (0 : Nat))))])] h'_1 (Value.bool x) h' ∧ bs x (bs (decide (Prod.fst (Prod.snd i) = ByteArray.mk (Array.mk []))) (∃ (x : ByteArray), AHeap.ld h' (AHeap.n (Prod.snd (Prod.snd i))) (0 : Nat) (1 : Nat) (1 : Nat) = some [Value.string x] ∧ ∃ (j : Nat × ByteArray × AHeap), Value.slice (some (Addr.mk l r (some (2 : Nat)))) n c = Value.slice (some (Addr.mk l r (some (2 : Nat)))) n c ∧ Value.string x = Value.string (Prod.fst (Prod.snd j)) ∧ Value.slice (some (Addr.mk l r (some (2 : Nat)))) n c = Value.slice (some (Addr.mk l r (some (2 : Nat)))) n c ∧ Value.int IntKind.i64 (↑n : Int) = Value.int IntKind.i64 (↑n : Int) ∧ Value.int IntKind.i64 (IntKind.wrap IntKind.i64 ((↑(Prod.fst i) : Int) + (1 : Int))) = Value.int IntKind.i64 (↑(Prod.fst j) : Int) ∧ Prod.snd (Prod.snd j) = h' ∧ (Prod.fst j ≤ n ∧ agB os (Prod.fst j) (Prod.fst (Prod.snd j)) = agB os (0 : Nat) (ByteArray.mk (Array.mk [])) ∧ AHeap.Le h (Prod.snd (Prod.snd j)) ∧ AHeap.wf (Prod.snd (Prod.snd j))) ∧ n - Prod.fst j < n - Prod.fst i ∧ (∀ (k : ByteArray × AHeap), Prod.fst k = agB os (0 : Nat) (ByteArray.mk (Array.mk [])) ∧ AHeap.Le h (Prod.snd k) ∧ AHeap.wf (Prod.snd k) → Prod.fst k = agB os (0 : Nat) (ByteArray.mk (Array.mk [])) ∧ AHeap.Le h (Prod.snd k) ∧ AHeap.wf (Prod.snd k)) ∧ ∀ (v : Value) (h_1 : AHeap), v = Value.string (agB os (0 : Nat) (ByteArray.mk (Array.mk []))) ∧ AHeap.Le h h_1 ∧ AHeap.wf h_1 → v = Value.string (agB os (0 : Nat) (ByteArray.mk (Array.mk []))) ∧ AHeap.Le h h_1 ∧ AHeap.wf h_1) (∃ (x : ByteArray), AHeap.ld h' (AHeap.n (Prod.snd (Prod.snd i))) (0 : Nat) (1 : Nat) (1 : Nat) = some [Value.string x] ∧ bs (Op.bytesLess (ByteArray.toList x) (ByteArray.toList (Prod.fst (Prod.snd i)))) (∃ (x : ByteArray), AHeap.ld h' (AHeap.n (Prod.snd (Prod.snd i))) (0 : Nat) (1 : Nat) (1 : Nat) = some [Value.string x] ∧ ∃ (j : Nat × ByteArray × AHeap), Value.slice (some (Addr.mk l r (some (2 : Nat)))) n c = Value.slice (some (Addr.mk l r (some (2 : Nat)))) n c ∧ Value.string x = Value.string (Prod.fst (Prod.snd j)) ∧ Value.slice (some (Addr.mk l r (some (2 : Nat)))) n c = Value.slice (some (Addr.mk l r (some (2 : Nat)))) n c ∧ Value.int IntKind.i64 (↑n : Int) = Value.int IntKind.i64 (↑n : Int) ∧ Value.int IntKind.i64 (IntKind.wrap IntKind.i64 ((↑(Prod.fst i) : Int) + (1 : Int))) = Value.int IntKind.i64 (↑(Prod.fst j) : Int) ∧ Prod.snd (Prod.snd j) = h' ∧ (Prod.fst j ≤ n ∧ agB os (Prod.fst j) (Prod.fst (Prod.snd j)) = agB os (0 : Nat) (ByteArray.mk (Array.mk [])) ∧ AHeap.Le h (Prod.snd (Prod.snd j)) ∧ AHeap.wf (Prod.snd (Prod.snd j))) ∧ n - Prod.fst j < n - Prod.fst i ∧ (∀ (k : ByteArray × AHeap), Prod.fst k = agB os (0 : Nat) (ByteArray.mk (Array.mk [])) ∧ AHeap.Le h (Prod.snd k) ∧ AHeap.wf (Prod.snd k) → Prod.fst k = agB os (0 : Nat) (ByteArray.mk (Array.mk [])) ∧ AHeap.Le h (Prod.snd k) ∧ AHeap.wf (Prod.snd k)) ∧ ∀ (v : Value) (h_1 : AHeap), v = Value.string (agB os (0 : Nat) (ByteArray.mk (Array.mk []))) ∧ AHeap.Le h h_1 ∧ AHeap.wf h_1 → v = Value.string (agB os (0 : Nat) (ByteArray.mk (Array.mk []))) ∧ AHeap.Le h h_1 ∧ AHeap.wf h_1) (∃ (j : Nat × ByteArray × AHeap), Value.slice (some (Addr.mk l r (some (2 : Nat)))) n c = Value.slice (some (Addr.mk l r (some (2 : Nat)))) n c ∧ Value.string (Prod.fst (Prod.snd i)) = Value.string (Prod.fst (Prod.snd j)) ∧ Value.slice (some (Addr.mk l r (some (2 : Nat)))) n c = Value.slice (some (Addr.mk l r (some (2 : Nat)))) n c ∧ Value.int IntKind.i64 (↑n : Int) = Value.int IntKind.i64 (↑n : Int) ∧ Value.int IntKind.i64 (IntKind.wrap IntKind.i64 ((↑(Prod.fst i) : Int) + (1 : Int))) = Value.int IntKind.i64 (↑(Prod.fst j) : Int) ∧ Prod.snd (Prod.snd j) = h' ∧ (Prod.fst j ≤ n ∧ agB os (Prod.fst j) (Prod.fst (Prod.snd j)) = agB os (0 : Nat) (ByteArray.mk (Array.mk [])) ∧ AHeap.Le h (Prod.snd (Prod.snd j)) ∧ AHeap.wf (Prod.snd (Prod.snd j))) ∧ n - Prod.fst j < n - Prod.fst i ∧ (∀ (k : ByteArray × AHeap), Prod.fst k = agB os (0 : Nat) (ByteArray.mk (Array.mk [])) ∧ AHeap.Le h (Prod.snd k) ∧ AHeap.wf (Prod.snd k) → Prod.fst k = agB os (0 : Nat) (ByteArray.mk (Array.mk [])) ∧ AHeap.Le h (Prod.snd k) ∧ AHeap.wf (Prod.snd k)) ∧ ∀ (v : Value) (h_1 : AHeap), v = Value.string (agB os (0 : Nat) (ByteArray.mk (Array.mk []))) ∧ AHeap.Le h h_1 ∧ AHeap.wf h_1 → v = Value.string (agB os (0 : Nat) (ByteArray.mk (Array.mk []))) ∧ AHeap.Le h h_1 ∧ AHeap.wf h_1))) (∃ (j : Nat × ByteArray × AHeap), Value.slice (some (Addr.mk l r (some (2 : Nat)))) n c = Value.slice (some (Addr.mk l r (some (2 : Nat)))) n c ∧ Value.string (Prod.fst (Prod.snd i)) = Value.string (Prod.fst (Prod.snd j)) ∧ Value.slice (some (Addr.mk l r (some (2 : Nat)))) n c = Value.slice (some (Addr.mk l r (some (2 : Nat)))) n c ∧ Value.int IntKind.i64 (↑n : Int) = Value.int IntKind.i64 (↑n : Int) ∧ Value.int IntKind.i64 (IntKind.wrap IntKind.i64 ((↑(Prod.fst i) : Int) + (1 : Int))) = Value.int IntKind.i64 (↑(Prod.fst j) : Int) ∧ Prod.snd (Prod.snd j) = h' ∧ (Prod.fst j ≤ n ∧ agB os (Prod.fst j) (Prod.fst (Prod.snd j)) = agB os (0 : Nat) (ByteArray.mk (Array.mk [])) ∧ AHeap.Le h (Prod.snd (Prod.snd j)) ∧ AHeap.wf (Prod.snd (Prod.snd j))) ∧ n - Prod.fst j < n - Prod.fst i ∧ (∀ (k : ByteArray × AHeap), Prod.fst k = agB os (0 : Nat) (ByteArray.mk (Array.mk [])) ∧ AHeap.Le h (Prod.snd k) ∧ AHeap.wf (Prod.snd k) → Prod.fst k = agB os (0 : Nat) (ByteArray.mk (Array.mk [])) ∧ AHeap.Le h (Prod.snd k) ∧ AHeap.wf (Prod.snd k)) ∧ ∀ (v : Value) (h_1 : AHeap), v = Value.string (agB os (0 : Nat) (ByteArray.mk (Array.mk []))) ∧ AHeap.Le h h_1 ∧ AHeap.wf h_1 → v = Value.string (agB os (0 : Nat) (ByteArray.mk (Array.mk []))) ∧ AHeap.Le h h_1 ∧ AHeap.wf h_1)))) (∃ (x : ByteArray), AHeap.ld h'_1 (AHeap.n (Prod.snd (Prod.snd i))) (0 : Nat) (1 : Nat) (1 : Nat) = some [Value.string x] ∧ bs (!decide ((↑(ByteArray.size x) : Int) = (32 : Int))) (Value.string (ByteArray.mk (Array.mk [])) = Value.string (agB os (0 : Nat) (ByteArray.mk (Array.mk []))) ∧ AHeap.Le h h'_1 ∧ AHeap.wf h'_1) ((0 : Int) ≤ (0 : Int) ∧ (0 : Int) ≤ (↑(Prod.fst i) : Int) ∧ ((↑(Prod.fst i) : Int) ≤ (↑n : Int) ∨ c ≠ (0 : Nat) ∧ (↑(Prod.fst i) : Int) < (↑c : Int)) ∧ (∀ (x : Addr), some (Addr.mk l r (some (2 : Nat))) = some x → Addr.spot x = some (2 : Nat)) ∧ ∃ (x : Bool), ∃ (h' : AHeap), ACall Try.prog (71 : Nat) [Value.slice (some (Addr.mk l (r + Int.toNat (0 : Int)) (some (2 : Nat)))) (Int.toNat (↑(Prod.fst i) : Int) - Int.toNat (0 : Int)) (bif decide (c = (0 : Nat)) then (0 : Nat) else c - Int.toNat (0 : Int)), Value.func (Fn.func (72 : Nat)) (Array.mk []) (Array.mk [Value.pointer (some (Addr.mk (AHeap.n (Prod.snd (Prod.snd i))) (0 : Nat) (some (0 : Nat))))])] h'_1 (Value.bool x) h' ∧ bs x (bs (decide (Prod.fst (Prod.snd i) = ByteArray.mk (Array.mk []))) (∃ (x : ByteArray), AHeap.ld h' (AHeap.n (Prod.snd (Prod.snd i))) (0 : Nat) (1 : Nat) (1 : Nat) = some [Value.string x] ∧ ∃ (j : Nat × ByteArray × AHeap), Value.slice (some (Addr.mk l r (some (2 : Nat)))) n c = Value.slice (some (Addr.mk l r (some (2 : Nat)))) n c ∧ Value.string x = Value.string (Prod.fst (Prod.snd j)) ∧ Value.slice (some (Addr.mk l r (some (2 : Nat)))) n c = Value.slice (some (Addr.mk l r (some (2 : Nat)))) n c ∧ Value.int IntKind.i64 (↑n : Int) = Value.int IntKind.i64 (↑n : Int) ∧ Value.int IntKind.i64 (IntKind.wrap IntKind.i64 ((↑(Prod.fst i) : Int) + (1 : Int))) = Value.int IntKind.i64 (↑(Prod.fst j) : Int) ∧ Prod.snd (Prod.snd j) = h' ∧ (Prod.fst j ≤ n ∧ agB os (Prod.fst j) (Prod.fst (Prod.snd j)) = agB os (0 : Nat) (ByteArray.mk (Array.mk [])) ∧ AHeap.Le h (Prod.snd (Prod.snd j)) ∧ AHeap.wf (Prod.snd (Prod.snd j))) ∧ n - Prod.fst j < n - Prod.fst i ∧ (∀ (k : ByteArray × AHeap), Prod.fst k = agB os (0 : Nat) (ByteArray.mk (Array.mk [])) ∧ AHeap.Le h (Prod.snd k) ∧ AHeap.wf (Prod.snd k) → Prod.fst k = agB os (0 : Nat) (ByteArray.mk (Array.mk [])) ∧ AHeap.Le h (Prod.snd k) ∧ AHeap.wf (Prod.snd k)) ∧ ∀ (v : Value) (h_1 : AHeap), v = Value.string (agB os (0 : Nat) (ByteArray.mk (Array.mk []))) ∧ AHeap.Le h h_1 ∧ AHeap.wf h_1 → v = Value.string (agB os (0 : Nat) (ByteArray.mk (Array.mk []))) ∧ AHeap.Le h h_1 ∧ AHeap.wf h_1) (∃ (x : ByteArray), AHeap.ld h' (AHeap.n (Prod.snd (Prod.snd i))) (0 : Nat) (1 : Nat) (1 : Nat) = some [Value.string x] ∧ bs (Op.bytesLess (ByteArray.toList x) (ByteArray.toList (Prod.fst (Prod.snd i)))) (∃ (x : ByteArray), AHeap.ld h' (AHeap.n (Prod.snd (Prod.snd i))) (0 : Nat) (1 : Nat) (1 : Nat) = some [Value.string x] ∧ ∃ (j : Nat × ByteArray × AHeap), Value.slice (some (Addr.mk l r (some (2 : Nat)))) n c = Value.slice (some (Addr.mk l r (some (2 : Nat)))) n c ∧ Value.string x = Value.string (Prod.fst (Prod.snd j)) ∧ Value.slice (some (Addr.mk l r (some (2 : Nat)))) n c = Value.slice (some (Addr.mk l r (some (2 : Nat)))) n c ∧ Value.int IntKind.i64 (↑n : Int) = Value.int IntKind.i64 (↑n : Int) ∧ Value.int IntKind.i64 (IntKind.wrap IntKind.i64 ((↑(Prod.fst i) : Int) + (1 : Int))) = Value.int IntKind.i64 (↑(Prod.fst j) : Int) ∧ Prod.snd (Prod.snd j) = h' ∧ (Prod.fst j ≤ n ∧ agB os (Prod.fst j) (Prod.fst (Prod.snd j)) = agB os (0 : Nat) (ByteArray.mk (Array.mk [])) ∧ AHeap.Le h (Prod.snd (Prod.snd j)) ∧ AHeap.wf (Prod.snd (Prod.snd j))) ∧ n - Prod.fst j < n - Prod.fst i ∧ (∀ (k : ByteArray × AHeap), Prod.fst k = agB os (0 : Nat) (ByteArray.mk (Array.mk [])) ∧ AHeap.Le h (Prod.snd k) ∧ AHeap.wf (Prod.snd k) → Prod.fst k = agB os (0 : Nat) (ByteArray.mk (Array.mk [])) ∧ AHeap.Le h (Prod.snd k) ∧ AHeap.wf (Prod.snd k)) ∧ ∀ (v : Value) (h_1 : AHeap), v = Value.string (agB os (0 : Nat) (ByteArray.mk (Array.mk []))) ∧ AHeap.Le h h_1 ∧ AHeap.wf h_1 → v = Value.string (agB os (0 : Nat) (ByteArray.mk (Array.mk []))) ∧ AHeap.Le h h_1 ∧ AHeap.wf h_1) (∃ (j : Nat × ByteArray × AHeap), Value.slice (some (Addr.mk l r (some (2 : Nat)))) n c = Value.slice (some (Addr.mk l r (some (2 : Nat)))) n c ∧ Value.string (Prod.fst (Prod.snd i)) = Value.string (Prod.fst (Prod.snd j)) ∧ Value.slice (some (Addr.mk l r (some (2 : Nat)))) n c = Value.slice (some (Addr.mk l r (some (2 : Nat)))) n c ∧ Value.int IntKind.i64 (↑n : Int) = Value.int IntKind.i64 (↑n : Int) ∧ Value.int IntKind.i64 (IntKind.wrap IntKind.i64 ((↑(Prod.fst i) : Int) + (1 : Int))) = Value.int IntKind.i64 (↑(Prod.fst j) : Int) ∧ Prod.snd (Prod.snd j) = h' ∧ (Prod.fst j ≤ n ∧ agB os (Prod.fst j) (Prod.fst (Prod.snd j)) = agB os (0 : Nat) (ByteArray.mk (Array.mk [])) ∧ AHeap.Le h (Prod.snd (Prod.snd j)) ∧ AHeap.wf (Prod.snd (Prod.snd j))) ∧ n - Prod.fst j < n - Prod.fst i ∧ (∀ (k : ByteArray × AHeap), Prod.fst k = agB os (0 : Nat) (ByteArray.mk (Array.mk [])) ∧ AHeap.Le h (Prod.snd k) ∧ AHeap.wf (Prod.snd k) → Prod.fst k = agB os (0 : Nat) (ByteArray.mk (Array.mk [])) ∧ AHeap.Le h (Prod.snd k) ∧ AHeap.wf (Prod.snd k)) ∧ ∀ (v : Value) (h_1 : AHeap), v = Value.string (agB os (0 : Nat) (ByteArray.mk (Array.mk []))) ∧ AHeap.Le h h_1 ∧ AHeap.wf h_1 → v = Value.string (agB os (0 : Nat) (ByteArray.mk (Array.mk []))) ∧ AHeap.Le h h_1 ∧ AHeap.wf h_1))) (∃ (j : Nat × ByteArray × AHeap), Value.slice (some (Addr.mk l r (some (2 : Nat)))) n c = Value.slice (some (Addr.mk l r (some (2 : Nat)))) n c ∧ Value.string (Prod.fst (Prod.snd i)) = Value.string (Prod.fst (Prod.snd j)) ∧ Value.slice (some (Addr.mk l r (some (2 : Nat)))) n c = Value.slice (some (Addr.mk l r (some (2 : Nat)))) n c ∧ Value.int IntKind.i64 (↑n : Int) = Value.int IntKind.i64 (↑n : Int) ∧ Value.int IntKind.i64 (IntKind.wrap IntKind.i64 ((↑(Prod.fst i) : Int) + (1 : Int))) = Value.int IntKind.i64 (↑(Prod.fst j) : Int) ∧ Prod.snd (Prod.snd j) = h' ∧ (Prod.fst j ≤ n ∧ agB os (Prod.fst j) (Prod.fst (Prod.snd j)) = agB os (0 : Nat) (ByteArray.mk (Array.mk [])) ∧ AHeap.Le h (Prod.snd (Prod.snd j)) ∧ AHeap.wf (Prod.snd (Prod.snd j))) ∧ n - Prod.fst j < n - Prod.fst i ∧ (∀ (k : ByteArray × AHeap), Prod.fst k = agB os (0 : Nat) (ByteArray.mk (Array.mk [])) ∧ AHeap.Le h (Prod.snd k) ∧ AHeap.wf (Prod.snd k) → Prod.fst k = agB os (0 : Nat) (ByteArray.mk (Array.mk [])) ∧ AHeap.Le h (Prod.snd k) ∧ AHeap.wf (Prod.snd k)) ∧ ∀ (v : Value) (h_1 : AHeap), v = Value.string (agB os (0 : Nat) (ByteArray.mk (Array.mk []))) ∧ AHeap.Le h h_1 ∧ AHeap.wf h_1 → v = Value.string (agB os (0 : Nat) (ByteArray.mk (Array.mk []))) ∧ AHeap.Le h h_1 ∧ AHeap.wf h_1))))) (∃ (j : ByteArray × AHeap), Value.string (Prod.fst (Prod.snd i)) = Value.string (Prod.fst j) ∧ Prod.snd j = Prod.snd (Prod.snd i) ∧ Prod.fst j = agB os (0 : Nat) (ByteArray.mk (Array.mk [])) ∧ AHeap.Le h (Prod.snd j) ∧ AHeap.wf (Prod.snd j))) ∧ True ∧ (True ∧ True) ∧ (True ∧ (True ∧ (True ∧ True) ∧ True) ∧ True ∧ True ∧ True ∧ True) ∧ True) ∧ True ∧ True) = _) ?_
    simp only [true_and, and_true]
    rintro ⟨i, best, h1⟩ ⟨hi, he, hle, hw1⟩
    dsimp only at *
    refine bs_dec (fun hlt => ?_) (fun hge => ?_)
    · have hio : i < os.length := by omega
      rw [agB, if_pos hio] at he
      have hr1 := hle.rowsOf hr
      have hw2 : (h1.push ⟨[opRow (opAt os i)], 2, true⟩).wf := hw1.push _
      have hle2 : h.Le (h1.push ⟨[opRow (opAt os i)], 2, true⟩) := hle.trans (AHeap.Le.push hw1 _)
      have hr2 := hle2.rowsOf hr
      have l0 : (h1.push ⟨[opRow (opAt os i)], 2, true⟩).ld h1.n 0 0 1 = some [.int .i64 (opAt os i).1] := by
        unfold AHeap.ld; rw [AHeap.get_push_eq]; rfl
      have l1 : (h1.push ⟨[opRow (opAt os i)], 2, true⟩).ld h1.n 0 1 1 = some [.string (opAt os i).2] := by
        unfold AHeap.ld; rw [AHeap.get_push_eq]; rfl
      simp only [Int.toNat_natCast]
      refine ⟨l, r, rfl, Int.natCast_nonneg _, hlt, _, _, opRow_ld hr1 (opAt_get hio), h1.push ⟨[opRow (opAt os i)], 2, true⟩, ?_, _, l0, _, _, isReplica_spec _ _, ?_⟩
      · unfold AHeap.wr
        rw [AHeap.get_push_eq]
        dsimp only
        show some ((h1.push _).put h1.n (some ⟨[opRow (opAt os i)], 2, true⟩)) = _
        rw [push_put]
      have sub : ∀ c', (h1.push ⟨[opRow (opAt os i)], 2, true⟩).rowsOf (.slice (some ⟨l, r, some 2⟩) i c') = some ((os.take i).map opRow) := fun c' => by
        have := rows_take (i := i) (c' := c') hr2 (by omega); rw [← List.map_take] at this; exact this
      have fin : ¬ badOp os i → ∀ b, b = innB os i 0 best → agB os (i + 1) b = agB os 0 ⟨#[]⟩ := fun hb b e => by
        rw [if_neg hb] at he; rw [e]; exact he
      refine bs_of (fun hb => ?_) (fun hb => ?_)
      · have : badOp os i := .inl fun h => by simp [h] at hb
        rw [if_pos this] at he; rw [← he]; exact ⟨rfl, hle2, hw2⟩
      have hin : 0 ≤ (opAt os i).1 ∧ (opAt os i).1 ≤ 3 := by simpa using hb
      refine bs_dec (fun hpos => ?_) (fun hpos => ?_)
      · have e1 : IntKind.i64.wrap ((i : Int) - 1) = ((i - 1 : Nat) : Int) := by rw [wrap_i64 (by omega)]; omega
        rw [e1]
        simp only [Int.toNat_natCast]
        refine ⟨l, r, rfl, Int.natCast_nonneg _, by omega, _, op_from hr2 (by omega), _, l0, ?_⟩
        refine bs_dec (fun hge => ?_) (fun hge => ?_)
        · have : badOp os i := .inr (.inl ⟨by omega, hge⟩)
          rw [if_pos this] at he; rw [← he]; exact ⟨rfl, hle2, hw2⟩
        refine ⟨_, l1, bs_dec_not (fun hs => ?_) (fun hs => ?_)⟩
        · have : badOp os i := .inr (.inr fun e => hs (by rw [e]; rfl))
          rw [if_pos this] at he; rw [← he]; exact ⟨rfl, hle2, hw2⟩
        · have hbad : ¬ badOp os i := fun h => h.elim (fun h => h hin) fun h => h.elim (fun h => hge h.2) fun h => h (by omega)
          have eq := inn_eq hio (by omega) best i 0 (by omega)
          refine ⟨by omega, Int.natCast_nonneg _, by omega, fun x hx => by cases hx; rfl, _, _, containsFunc_spec l r i _ h1.n _ (os.take i) _ l1 (sub _) (by omega), ?_⟩
          refine bs_dec (fun hf => ?_) (fun hf => ?_)
          · refine bs_dec (fun hb => ?_) (fun hb => ?_)
            · exact ⟨_, l1, (i + 1, _, _), rfl, by rw [wrap_i64 (by omega)]; rfl, rfl, ⟨by dsimp only; omega, fin hbad _ (by rw [eq, if_pos ⟨hf, .inl hb⟩]), hle2, hw2⟩, by dsimp only; omega, fun _ h => h, fun _ _ h => h⟩
            · refine ⟨_, l1, bs_of (fun hl => ?_) (fun hl => ?_)⟩
              · exact ⟨_, l1, (i + 1, _, _), rfl, by rw [wrap_i64 (by omega)]; rfl, rfl, ⟨by dsimp only; omega, fin hbad _ (by rw [eq, if_pos ⟨hf, .inr hl⟩]), hle2, hw2⟩, by dsimp only; omega, fun _ h => h, fun _ _ h => h⟩
              · exact ⟨(i + 1, best, _), rfl, by rw [wrap_i64 (by omega)]; rfl, rfl, ⟨by dsimp only; omega, fin hbad _ (by rw [eq, if_neg (by rintro ⟨_, h | h⟩; exact hb h; rw [h] at hl; cases hl)]), hle2, hw2⟩, by dsimp only; omega, fun _ h => h, fun _ _ h => h⟩
          · exact ⟨(i + 1, best, _), rfl, by rw [wrap_i64 (by omega)]; rfl, rfl, ⟨by dsimp only; omega, fin hbad _ (by rw [eq, if_neg (fun h => hf h.1)]), hle2, hw2⟩, by dsimp only; omega, fun _ h => h, fun _ _ h => h⟩
      · refine ⟨_, l1, bs_dec_not (fun hs => ?_) (fun hs => ?_)⟩
        · have : badOp os i := .inr (.inr fun e => hs (by rw [e]; rfl))
          rw [if_pos this] at he; rw [← he]; exact ⟨rfl, hle2, hw2⟩
        · have hbad : ¬ badOp os i := fun h => h.elim (fun h => h hin) fun h => h.elim (fun h => hpos (by omega)) fun h => h (by omega)
          have eq := inn_eq hio (by omega) best i 0 (by omega)
          refine ⟨by omega, Int.natCast_nonneg _, by omega, fun x hx => by cases hx; rfl, _, _, containsFunc_spec l r i _ h1.n _ (os.take i) _ l1 (sub _) (by omega), ?_⟩
          refine bs_dec (fun hf => ?_) (fun hf => ?_)
          · refine bs_dec (fun hb => ?_) (fun hb => ?_)
            · exact ⟨_, l1, (i + 1, _, _), rfl, by rw [wrap_i64 (by omega)]; rfl, rfl, ⟨by dsimp only; omega, fin hbad _ (by rw [eq, if_pos ⟨hf, .inl hb⟩]), hle2, hw2⟩, by dsimp only; omega, fun _ h => h, fun _ _ h => h⟩
            · refine ⟨_, l1, bs_of (fun hl => ?_) (fun hl => ?_)⟩
              · exact ⟨_, l1, (i + 1, _, _), rfl, by rw [wrap_i64 (by omega)]; rfl, rfl, ⟨by dsimp only; omega, fin hbad _ (by rw [eq, if_pos ⟨hf, .inr hl⟩]), hle2, hw2⟩, by dsimp only; omega, fun _ h => h, fun _ _ h => h⟩
              · exact ⟨(i + 1, best, _), rfl, by rw [wrap_i64 (by omega)]; rfl, rfl, ⟨by dsimp only; omega, fin hbad _ (by rw [eq, if_neg (by rintro ⟨_, h | h⟩; exact hb h; rw [h] at hl; cases hl)]), hle2, hw2⟩, by dsimp only; omega, fun _ h => h, fun _ _ h => h⟩
          · exact ⟨(i + 1, best, _), rfl, by rw [wrap_i64 (by omega)]; rfl, rfl, ⟨by dsimp only; omega, fin hbad _ (by rw [eq, if_neg (fun h => hf h.1)]), hle2, hw2⟩, by dsimp only; omega, fun _ h => h, fun _ _ h => h⟩
    · have e : i = os.length := by omega
      subst e
      rw [agB, if_neg (by omega)] at he
      exact ⟨(best, h1), rfl, rfl, he, hle, hw1⟩
  · refine Eq.mp (by kernel_rfl : (bs (decide ((↑n : Int) > (4 : Int))) (AHeap.Le h h ∧ AHeap.wf h ∧ Value.string (ByteArray.mk (Array.mk [])) = Value.string (agreedB os)) (∃ (i : Nat × ByteArray × AHeap), Value.slice (some (Addr.mk l r (some (2 : Nat)))) n c = Value.slice (some (Addr.mk l r (some (2 : Nat)))) n c ∧ Value.string (ByteArray.mk (Array.mk [])) = Value.string (Prod.fst (Prod.snd i)) ∧ Value.slice (some (Addr.mk l r (some (2 : Nat)))) n c = Value.slice (some (Addr.mk l r (some (2 : Nat)))) n c ∧ Value.int IntKind.i64 (↑n : Int) = Value.int IntKind.i64 (↑n : Int) ∧ Value.int IntKind.i64 (0 : Int) = Value.int IntKind.i64 (↑(Prod.fst i) : Int) ∧ Prod.snd (Prod.snd i) = h ∧ (Prod.fst i ≤ n ∧ agB os (Prod.fst i) (Prod.fst (Prod.snd i)) = agB os (0 : Nat) (ByteArray.mk (Array.mk [])) ∧ AHeap.Le h (Prod.snd (Prod.snd i)) ∧ AHeap.wf (Prod.snd (Prod.snd i))) ∧ (∀ (j : ByteArray × AHeap), Prod.fst j = agB os (0 : Nat) (ByteArray.mk (Array.mk [])) ∧ AHeap.Le h (Prod.snd j) ∧ AHeap.wf (Prod.snd j) → AHeap.Le h (Prod.snd j) ∧ AHeap.wf (Prod.snd j) ∧ Value.string (Prod.fst j) = Value.string (agreedB os)) ∧ ∀ (v : Value) (h_1 : AHeap), v = Value.string (agB os (0 : Nat) (ByteArray.mk (Array.mk []))) ∧ AHeap.Le h h_1 ∧ AHeap.wf h_1 → AHeap.Le h h_1 ∧ AHeap.wf h_1 ∧ v = Value.string (agreedB os))) = _) ?_
    refine bs_dec (fun e => ?_) (fun e => ?_)
    · unfold agreedB; rw [if_pos (by omega)]; exact ⟨.refl _, hw, rfl⟩
    · have ea : agreedB os = agB os 0 ⟨#[]⟩ := by unfold agreedB; rw [if_neg (by omega)]
      rw [ea]
      exact ⟨(0, ⟨#[]⟩, h), rfl, rfl, rfl, rfl, rfl, rfl, ⟨Nat.zero_le _, rfl, .refl _, hw⟩, fun j hj => ⟨hj.2.1, hj.2.2, by rw [hj.1]⟩, fun _ _ h => ⟨h.2.1, h.2.2, h.1⟩⟩
end Go.Proofs.Ytanienlcebkijaa
end
