/- Contracts: numbers and texts in bytes. -/
import Derived.Test.YtdcijleeoihlfaaV9H1
namespace Go.Dat
open Go.Abs
def vt (t : ByteArray) : ByteArray := vb (foldN t.size) ++ t
end Go.Dat
namespace Go.Proofs.Ytdcijleeoihlfaa
open Go.Abs Go.Dat
set_option maxRecDepth 100000
set_option maxHeartbeats 4000000
theorem putText_spec (h : AHeap) (hw : h.wf) (t : ByteArray) (ht : t.size ≤ 1000000000) : ∃ v h', ACall Try.prog 79 [.string t] h v h' ∧ h.Le h' ∧ h'.wf ∧ v = .string (vt t) := by
  obtain ⟨_, g, hA, le, wf, rfl⟩ := putNum_spec h hw t.size (by omega)
  refine acall_q fun Q HQ => ?_
  refine acall_vc (fun _ => true) (fun _ => []) (fun _ => .none) mixed Try.func79 rfl rfl rfl (Nat.le_of_ble_eq_true rfl) (by refine vc_mp (by kernel_rfl : (True ∧ True ∧ True) = _) ?_; simp only [and_self]) ?_
  refine vc_mp (by kernel_rfl : (∃ (x : ByteArray), ∃ (h' : AHeap), ACall Try.prog (78 : Nat) [Value.int IntKind.i64 (↑(ByteArray.size t) : Int)] h (Value.string x) h' ∧ ByteArray.size x + ByteArray.size t ≤ (9223372036854775807 : Nat) ∧ Q (Value.string (Append.append x t)) h') = _) ?_
  have h2 : (vb (foldN t.size)).size ≤ 10 := vb_size 9 _ (by have := foldN_lt (n := t.size) (by omega); omega)
  exact ⟨_, _, hA, by omega, HQ _ _ ⟨le, wf, rfl⟩⟩
theorem l01Fold_spec (h : AHeap) (n : Int) (hn : -9223372036854775808 ≤ n ∧ n ≤ 9223372036854775807) : ACall Try.prog 73 [.int .i64 n] h (.int .u64 (foldN n)) h := by
  refine acall_out (acall_vc (fun _ => true) (fun _ => []) (fun _ => .none) mixed Try.func73 rfl rfl rfl (Nat.le_of_ble_eq_true rfl) (by refine vc_mp (by kernel_rfl : (True ∧ (True ∧ (True ∧ True) ∧ True) ∧ True ∧ True) = _) ?_; simp only [and_self]) ?_)
  refine vc_mp (by kernel_rfl : (bs (decide (n < (0 : Int))) (Value.int IntKind.u64 (IntKind.wrap IntKind.u64 (IntKind.wrap IntKind.u64 ((2 : Int) * IntKind.wrap IntKind.u64 (IntKind.wrap IntKind.i64 ((0 : Int) - IntKind.wrap IntKind.i64 (n + (1 : Int))))) + (1 : Int))) = Value.int IntKind.u64 (↑(foldN n) : Int) ∧ h = h) (Value.int IntKind.u64 (IntKind.wrap IntKind.u64 ((2 : Int) * IntKind.wrap IntKind.u64 n)) = Value.int IntKind.u64 (↑(foldN n) : Int) ∧ h = h)) = _) ?_
  refine bs_d (fun e => ⟨?_, rfl⟩) (fun e => ⟨?_, rfl⟩)
  · congr 1
    rw [wrap_i64 (n := n + 1) (by omega), wrap_i64 (by omega), wrap_u64, wrap_u64, wrap_u64]
    unfold foldN
    rw [if_pos e]; omega
  · congr 1
    rw [wrap_u64, wrap_u64]
    unfold foldN
    rw [if_neg e]; omega
theorem specPutNum (h : AHeap) (hw : h.wf) (n : Int) (hn : -9223372036854775808 ≤ n ∧ n ≤ 9223372036854775807) : ∃ v h', ACall Try.prog 29 [.int .i64 n] h v h' ∧ h.Le h' ∧ h'.wf ∧ v = .string (vb (foldN n)) := by
  have hf := foldN_lt hn
  have hsz : (vb (foldN n)).size ≤ 10 := vb_size 9 _ (by omega)
  refine acall_q fun Q HQ => ?_
  refine acall_vc (fun _ => true) (fun _ => []) (fun _ => pnL (foldN n) h) mixed Try.func29 rfl rfl rfl (Nat.le_of_ble_eq_true rfl) ?_ ?_
  · refine vc_mp (by kernel_rfl : (True ∧ True ∧ True ∧ ((∀ (i : Nat × ByteArray × Option Addr × Nat × AHeap), Prod.fst i < (18446744073709551616 : Nat) ∧ Append.append (Prod.fst (Prod.snd i)) (vb (Prod.fst i)) = vb (foldN n) ∧ BInv h (Prod.snd (Prod.snd (Prod.snd (Prod.snd i)))) (Prod.fst (Prod.snd (Prod.snd i))) (ByteArray.size (Prod.fst (Prod.snd i))) (Prod.fst (Prod.snd (Prod.snd (Prod.snd i)))) (Prod.fst (Prod.snd i)) → bs (decide ((↑(Prod.fst i) : Int) ≥ (128 : Int))) ((128 : Int) ≠ (0 : Int) ∧ ∃ (xs : List (List Value)), rowsV (AHeap.push (Prod.snd (Prod.snd (Prod.snd (Prod.snd i)))) (AObj.mk [[Value.int IntKind.u8 (IntKind.wrap IntKind.u8 (IntKind.wrap IntKind.u64 (Int.tmod (↑(Prod.fst i) : Int) (128 : Int) + (128 : Int))))]] (1 : Nat) true)) (Value.slice (some (Addr.mk (AHeap.n (Prod.snd (Prod.snd (Prod.snd (Prod.snd i))))) (0 : Nat) (some (1 : Nat)))) (1 : Nat) (2 : Nat)) = some xs ∧ (List.all xs fun (row : List Value) => decide (List.length row = (1 : Nat)) && List.all row fun (v : Value) => match v with | Value.agg cells => false | Value.tuple cells => false | Value.complex k re im => false | Value.chan r => false | x => true) = true ∧ (ByteArray.size (Prod.fst (Prod.snd i)) + List.length xs) * (1 : Nat) ≤ (140737488355328 : Nat) ∧ ∃ (a : Option Addr), ∃ (n_1 : Nat), ∃ (c : Nat), ∃ (h' : AHeap), AHeap.app (AHeap.push (Prod.snd (Prod.snd (Prod.snd (Prod.snd i)))) (AObj.mk [[Value.int IntKind.u8 (IntKind.wrap IntKind.u8 (IntKind.wrap IntKind.u64 (Int.tmod (↑(Prod.fst i) : Int) (128 : Int) + (128 : Int))))]] (1 : Nat) true)) (Value.slice (Prod.fst (Prod.snd (Prod.snd i))) (ByteArray.size (Prod.fst (Prod.snd i))) (Prod.fst (Prod.snd (Prod.snd (Prod.snd i))))) xs (1 : Nat) = some (Value.slice a n_1 c, h') ∧ (128 : Int) ≠ (0 : Int) ∧ ∃ (j : Nat × ByteArray × Option Addr × Nat × AHeap), Value.int IntKind.u64 (IntKind.wrap IntKind.u64 (Int.tdiv (↑(Prod.fst i) : Int) (128 : Int))) = Value.int IntKind.u64 (↑(Prod.fst j) : Int) ∧ Value.slice a n_1 c = Value.slice (Prod.fst (Prod.snd (Prod.snd j))) (ByteArray.size (Prod.fst (Prod.snd j))) (Prod.fst (Prod.snd (Prod.snd (Prod.snd j)))) ∧ Prod.snd (Prod.snd (Prod.snd (Prod.snd j))) = h' ∧ (Prod.fst j < (18446744073709551616 : Nat) ∧ Append.append (Prod.fst (Prod.snd j)) (vb (Prod.fst j)) = vb (foldN n) ∧ BInv h (Prod.snd (Prod.snd (Prod.snd (Prod.snd j)))) (Prod.fst (Prod.snd (Prod.snd j))) (ByteArray.size (Prod.fst (Prod.snd j))) (Prod.fst (Prod.snd (Prod.snd (Prod.snd j)))) (Prod.fst (Prod.snd j))) ∧ Prod.fst j < Prod.fst i ∧ (∀ (k : Nat × ByteArray × Option Addr × Nat × AHeap), Prod.fst k < (128 : Nat) ∧ Append.append (Prod.fst (Prod.snd k)) (vb (Prod.fst k)) = vb (foldN n) ∧ BInv h (Prod.snd (Prod.snd (Prod.snd (Prod.snd k)))) (Prod.fst (Prod.snd (Prod.snd k))) (ByteArray.size (Prod.fst (Prod.snd k))) (Prod.fst (Prod.snd (Prod.snd (Prod.snd k)))) (Prod.fst (Prod.snd k)) → Prod.fst k < (128 : Nat) ∧ Append.append (Prod.fst (Prod.snd k)) (vb (Prod.fst k)) = vb (foldN n) ∧ BInv h (Prod.snd (Prod.snd (Prod.snd (Prod.snd k)))) (Prod.fst (Prod.snd (Prod.snd k))) (ByteArray.size (Prod.fst (Prod.snd k))) (Prod.fst (Prod.snd (Prod.snd (Prod.snd k)))) (Prod.fst (Prod.snd k))) ∧ ∀ (v : Value) (h : AHeap), False → False) (∃ (j : Nat × ByteArray × Option Addr × Nat × AHeap), Value.int IntKind.u64 (↑(Prod.fst i) : Int) = Value.int IntKind.u64 (↑(Prod.fst j) : Int) ∧ Value.slice (Prod.fst (Prod.snd (Prod.snd i))) (ByteArray.size (Prod.fst (Prod.snd i))) (Prod.fst (Prod.snd (Prod.snd (Prod.snd i)))) = Value.slice (Prod.fst (Prod.snd (Prod.snd j))) (ByteArray.size (Prod.fst (Prod.snd j))) (Prod.fst (Prod.snd (Prod.snd (Prod.snd j)))) ∧ Prod.snd (Prod.snd (Prod.snd (Prod.snd j))) = Prod.snd (Prod.snd (Prod.snd (Prod.snd i))) ∧ Prod.fst j < (128 : Nat) ∧ Append.append (Prod.fst (Prod.snd j)) (vb (Prod.fst j)) = vb (foldN n) ∧ BInv h (Prod.snd (Prod.snd (Prod.snd (Prod.snd j)))) (Prod.fst (Prod.snd (Prod.snd j))) (ByteArray.size (Prod.fst (Prod.snd j))) (Prod.fst (Prod.snd (Prod.snd (Prod.snd j)))) (Prod.fst (Prod.snd j)))) ∧ (True ∧ True ∧ True) ∧ True ∧ True) ∧ True ∧ True) = _) ?_
    simp only [true_and, and_true]
    rintro ⟨u, b, a, c, g⟩ ⟨hu, hb, I⟩
    dsimp only at *
    refine bs_d (fun hlt => ?_) (fun hge => ?_)
    · have hv : ¬ u < 128 := by omega
      have e1 : IntKind.u8.wrap (IntKind.u64.wrap (Int.tmod (u : Int) 128 + 128)) = ((u % 128 + 128 : Nat) : Int) := by
        rw [Int.tmod_eq_emod_of_nonneg (by omega), wrap_u64, wrap_u8]; omega
      rw [e1, ← oneB_rows (show u % 128 + 128 < 256 by omega)]
      have hb : b ++ vb u = vb (foldN n) := hb
      have bs : b.size + (vb u).size = (vb (foldN n)).size := by rw [← hb, ByteArray.size_append]
      obtain ⟨a2, c2, g2, happ, I2⟩ := (I.push ⟨bytesRows (oneB (u % 128 + 128)), 1, true⟩).app (oneB (u % 128 + 128))
      refine ⟨by omega, bytesRows (oneB (u % 128 + 128)), rowsV_one, rows_okb _, by rw [bytesRows_len, oneB_size]; omega, _, _, _, _, happ, by omega, (u / 128, b ++ oneB (u % 128 + 128), a2, c2, g2), ?_, by rw [ByteArray.size_append], rfl, ⟨by dsimp only; omega, ?_, by rw [ByteArray.size_append]; exact I2⟩, by dsimp only; omega, fun _ h => h, fun _ _ h => h⟩
      · dsimp only
        congr 1
        rw [Int.tdiv_eq_ediv_of_nonneg (by omega), wrap_u64]; omega
      · show b ++ oneB (u % 128 + 128) ++ vb (u / 128) = _
        rw [ba_assoc, ← vb_hi hv]; exact hb
    · exact ⟨(u, b, a, c, g), rfl, rfl, rfl, by omega, hb, I⟩
  refine vc_mp (by kernel_rfl : (∃ (x : Int), ∃ (h' : AHeap), ACall Try.prog (73 : Nat) [Value.int IntKind.i64 n] h (Value.int IntKind.u64 x) h' ∧ ∃ (i : Nat × ByteArray × Option Addr × Nat × AHeap), Value.int IntKind.u64 x = Value.int IntKind.u64 (↑(Prod.fst i) : Int) ∧ Value.slice (some (Addr.mk (AHeap.n h') (0 : Nat) (some (1 : Nat)))) (0 : Nat) (1 : Nat) = Value.slice (Prod.fst (Prod.snd (Prod.snd i))) (ByteArray.size (Prod.fst (Prod.snd i))) (Prod.fst (Prod.snd (Prod.snd (Prod.snd i)))) ∧ Prod.snd (Prod.snd (Prod.snd (Prod.snd i))) = AHeap.push h' (AObj.mk [] (1 : Nat) true) ∧ (Prod.fst i < (18446744073709551616 : Nat) ∧ Append.append (Prod.fst (Prod.snd i)) (vb (Prod.fst i)) = vb (foldN n) ∧ BInv h (Prod.snd (Prod.snd (Prod.snd (Prod.snd i)))) (Prod.fst (Prod.snd (Prod.snd i))) (ByteArray.size (Prod.fst (Prod.snd i))) (Prod.fst (Prod.snd (Prod.snd (Prod.snd i)))) (Prod.fst (Prod.snd i))) ∧ (∀ (j : Nat × ByteArray × Option Addr × Nat × AHeap), Prod.fst j < (128 : Nat) ∧ Append.append (Prod.fst (Prod.snd j)) (vb (Prod.fst j)) = vb (foldN n) ∧ BInv h (Prod.snd (Prod.snd (Prod.snd (Prod.snd j)))) (Prod.fst (Prod.snd (Prod.snd j))) (ByteArray.size (Prod.fst (Prod.snd j))) (Prod.fst (Prod.snd (Prod.snd (Prod.snd j)))) (Prod.fst (Prod.snd j)) → ∃ (xs : List (List Value)), rowsV (AHeap.push (Prod.snd (Prod.snd (Prod.snd (Prod.snd j)))) (AObj.mk [[Value.int IntKind.u8 (IntKind.wrap IntKind.u8 (↑(Prod.fst j) : Int))]] (1 : Nat) true)) (Value.slice (some (Addr.mk (AHeap.n (Prod.snd (Prod.snd (Prod.snd (Prod.snd j))))) (0 : Nat) (some (1 : Nat)))) (1 : Nat) (2 : Nat)) = some xs ∧ (List.all xs fun (row : List Value) => decide (List.length row = (1 : Nat)) && List.all row fun (v : Value) => match v with | Value.agg cells => false | Value.tuple cells => false | Value.complex k re im => false | Value.chan r => false | x => true) = true ∧ (ByteArray.size (Prod.fst (Prod.snd j)) + List.length xs) * (1 : Nat) ≤ (140737488355328 : Nat) ∧ ∃ (a : Option Addr), ∃ (n : Nat), ∃ (c : Nat), ∃ (h' : AHeap), AHeap.app (AHeap.push (Prod.snd (Prod.snd (Prod.snd (Prod.snd j)))) (AObj.mk [[Value.int IntKind.u8 (IntKind.wrap IntKind.u8 (↑(Prod.fst j) : Int))]] (1 : Nat) true)) (Value.slice (Prod.fst (Prod.snd (Prod.snd j))) (ByteArray.size (Prod.fst (Prod.snd j))) (Prod.fst (Prod.snd (Prod.snd (Prod.snd j))))) xs (1 : Nat) = some (Value.slice a n c, h') ∧ ∃ (s : ByteArray), AHeap.rowsOf h' (Value.slice a n c) = some (bytesRows s) ∧ Q (Value.string s) h') ∧ ∀ (v : Value) (h : AHeap), False → Q v h) = _) ?_
  have I0 : BInv h (h.push ⟨[], 1, true⟩) (some ⟨h.n, 0, some 1⟩) 0 1 ⟨#[]⟩ := ⟨.push hw _, hw.push _, hw, rfl, .inr ⟨h.n, rfl, Nat.le_refl _, AHeap.get_push_eq, .inr rfl⟩⟩
  refine ⟨_, _, l01Fold_spec h n hn, (foldN n, ⟨#[]⟩, some ⟨h.n, 0, some 1⟩, 1, h.push ⟨[], 1, true⟩), rfl, rfl, rfl, ⟨hf, ba_nil_append _, I0⟩, ?_, fun _ _ h => h.elim⟩
  rintro ⟨u, b, a, c, g⟩ ⟨hu, hb, I⟩
  dsimp only at *
  have hb : b ++ vb u = vb (foldN n) := hb
  have bs : b.size + (vb u).size = (vb (foldN n)).size := by rw [← hb, ByteArray.size_append]
  have e8 : IntKind.u8.wrap (u : Int) = (u : Int) := by rw [wrap_u8]; omega
  rw [e8, ← oneB_rows (show u < 256 by omega)]
  obtain ⟨a2, c2, g2, happ, I2⟩ := (I.push ⟨bytesRows (oneB u), 1, true⟩).app (oneB u)
  rw [vb_lo hu] at hb
  rw [hb] at I2
  refine ⟨bytesRows (oneB u), rowsV_one, rows_okb _, by rw [bytesRows_len, oneB_size]; omega, _, _, _, _, happ, ?_⟩
  exact ⟨_, I2.rows, HQ _ _ ⟨I2.le, I2.wf, rfl⟩⟩
theorem specPutText (h : AHeap) (hw : h.wf) (t : ByteArray) (ht : t.size ≤ 20000) : ∃ v h', ACall Try.prog 30 [.string t] h v h' ∧ h.Le h' ∧ h'.wf ∧ v = .string (vt t) := by
  obtain ⟨_, g, hA, le, wf, rfl⟩ := specPutNum h hw t.size (by omega)
  have h2 : (vb (foldN t.size)).size ≤ 10 := vb_size 9 _ (by have := foldN_lt (n := t.size) (by omega); omega)
  refine acall_q fun Q HQ => ?_
  refine acall_vc (fun _ => true) (fun _ => []) (fun _ => .none) mixed Try.func30 rfl rfl rfl (Nat.le_of_ble_eq_true rfl) (by refine vc_mp (by kernel_rfl : (True ∧ (True ∧ (True ∧ True) ∧ True) ∧ True ∧ True) = _) ?_; simp only [and_self]) ?_
  refine vc_mp (by kernel_rfl : (bs (decide ((↑(ByteArray.size t) : Int) > (20000 : Int))) (Q (Value.string (ByteArray.mk (Array.mk []))) h) (∃ (x : ByteArray), ∃ (h' : AHeap), ACall Try.prog (29 : Nat) [Value.int IntKind.i64 (↑(ByteArray.size t) : Int)] h (Value.string x) h' ∧ ByteArray.size x + ByteArray.size t ≤ (9223372036854775807 : Nat) ∧ Q (Value.string (Append.append x t)) h')) = _) ?_
  exact bs_d (fun e => absurd e (by omega)) (fun e => ⟨_, _, hA, by omega, HQ _ _ ⟨le, wf, rfl⟩⟩)
end Go.Proofs.Ytdcijleeoihlfaa
