/- Contracts: numbers in bytes. -/
import Derived.Test.YtdcijleeoihlfaaV9J1
namespace Go.Dat
open Go.Abs
def foldN (n : Int) : Nat := if n < 0 then (2 * (-(n + 1)) + 1).toNat else (2 * n).toNat
def oneB (v : Nat) : ByteArray := ⟨#[UInt8.ofNat v]⟩
def vb (u : Nat) : ByteArray := if u < 128 then oneB u else oneB (u % 128 + 128) ++ vb (u / 128)
termination_by u
decreasing_by omega
theorem vb_lo {u : Nat} (h : u < 128) : vb u = oneB u := by rw [vb, if_pos h]
theorem vb_hi {u : Nat} (h : ¬ u < 128) : vb u = oneB (u % 128 + 128) ++ vb (u / 128) := by rw [vb, if_neg h]
theorem oneB_rows {v : Nat} (h : v < 256) : bytesRows (oneB v) = [[.int .u8 (v : Int)]] := by
  unfold bytesRows oneB
  simp only [List.map_cons, List.map_nil]
  congr 3
  rw [UInt8.toNat_ofNat']; omega
theorem oneB_size (v : Nat) : (oneB v).size = 1 := rfl
theorem vb_size : ∀ (k u : Nat), u < 128 ^ (k + 1) → (vb u).size ≤ k + 1
  | 0, u, h => by rw [vb_lo (by simpa using h)]; exact Nat.le_refl _
  | k + 1, u, h => by
    by_cases hu : u < 128
    · rw [vb_lo hu, oneB_size]; omega
    · rw [vb_hi hu, ByteArray.size_append, oneB_size]
      have := vb_size k (u / 128) (by rw [Nat.div_lt_iff_lt_mul (by omega), ← Nat.pow_succ]; exact h)
      omega
theorem foldN_lt {n : Int} (h : -9223372036854775808 ≤ n ∧ n ≤ 9223372036854775807) : foldN n < 18446744073709551616 := by
  unfold foldN; split <;> omega
theorem BInv.push {h0 h : AHeap} {a : Option Addr} {n c : Nat} {b : ByteArray} (I : BInv h0 h a n c b) (o : AObj) : BInv h0 (h.push o) a n c b :=
  ⟨I.le.trans (.push I.wf _), I.wf.push _, I.wf0, I.nb, I.at_.imp id fun ⟨l, e, h1, h2, h3⟩ => ⟨l, e, h1, (AHeap.Le.push I.wf o).get l _ h2, h3⟩⟩
theorem rows_okb (d : ByteArray) : ((bytesRows d).all fun row => decide (row.length = 1) && row.all fun v => match v with | .agg _ => false | .tuple _ => false | .complex _ _ _ => false | .chan _ => false | _ => true) = true := by
  unfold bytesRows
  rw [List.all_map, List.all_eq_true]
  intro x _
  rfl
theorem rowsV_one {g : AHeap} {v : Nat} : rowsV (g.push ⟨bytesRows (oneB v), 1, true⟩) (.slice (some ⟨g.n, 0, some 1⟩) 1 2) = some (bytesRows (oneB v)) := by
  unfold rowsV
  dsimp only
  rw [get_rowsOf AHeap.get_push_eq (by rw [bytesRows_len, oneB_size]; omega)]; rfl
theorem BInv.nil {h : AHeap} (hw : h.wf) : BInv h h none 0 0 ⟨#[]⟩ := ⟨.refl _, hw, hw, rfl, .inl ⟨rfl, rfl, rfl⟩⟩
theorem or128 : ∀ b : Fin 256, (BitVec.ofInt 8 (b.val : Int) ||| BitVec.ofInt 8 (128 : Int)).toNat = b.val % 128 + 128 := by decide +kernel
theorem wrap_u64 (n : Int) : IntKind.u64.wrap n = n % 18446744073709551616 := by
  have e : IntKind.u64.wrap n = if (false && decide (n % 18446744073709551616 ≥ 9223372036854775808)) = true then n % 18446744073709551616 - 18446744073709551616 else n % 18446744073709551616 := rfl
  rw [e]; simp
theorem byte_or {u : Nat} : IntKind.u8.wrap (((BitVec.ofInt 8 (IntKind.u8.wrap (u : Int)) ||| BitVec.ofInt 8 (128 : Int)).toNat : Nat) : Int) = ((u % 128 + 128 : Nat) : Int) := by
  have e : IntKind.u8.wrap (u : Int) = ((u % 256 : Nat) : Int) := by rw [wrap_u8]; omega
  have := or128 ⟨u % 256, Nat.mod_lt _ (by omega)⟩
  dsimp only at this
  rw [e, this, wrap_u8]
  omega
theorem not64 {x : Int} (h : 0 ≤ x ∧ x < 18446744073709551616) : ((BitVec.ofInt 64 18446744073709551615 ^^^ BitVec.ofInt 64 x).toNat : Int) = 18446744073709551615 - x := by
  have e1 : BitVec.ofInt 64 18446744073709551615 = BitVec.allOnes 64 := by decide
  rw [e1, BitVec.allOnes_xor, BitVec.toNat_not, BitVec.toNat_ofInt]
  have : (x % ((2 ^ 64 : Nat) : Int)).toNat = x.toNat := by
    rw [show (((2 ^ 64 : Nat) : Int)) = 18446744073709551616 by decide]; omega
  rw [this]
  omega
end Go.Dat
namespace Go.Proofs.Ytdcijleeoihlfaa
open Go.Abs Go.Dat
set_option maxRecDepth 100000
set_option maxHeartbeats 4000000
def pnL (u0 : Nat) (h : AHeap) : LSpec where
  ι := Nat × ByteArray × Option Addr × Nat × AHeap
  κ := Nat × ByteArray × Option Addr × Nat × AHeap
  I := fun i => i.1 < 18446744073709551616 ∧ i.2.1 ++ vb i.1 = vb u0 ∧ BInv h i.2.2.2.2 i.2.2.1 i.2.1.size i.2.2.2.1 i.2.1
  μ := fun i => i.1
  head := fun i => ⟨[(3, .int .u64 i.1), (4, .slice i.2.2.1 i.2.1.size i.2.2.2.1)], [], i.2.2.2.2⟩
  post := fun i => ⟨[(3, .int .u64 i.1), (4, .slice i.2.2.1 i.2.1.size i.2.2.2.1)], [], i.2.2.2.2⟩
  R := fun _ i => i.1 < 128 ∧ i.2.1 ++ vb i.1 = vb u0 ∧ BInv h i.2.2.2.2 i.2.2.1 i.2.1.size i.2.2.2.1 i.2.1
  ret := fun _ _ _ => False
theorem putNum_spec (h : AHeap) (hw : h.wf) (n : Int) (hn : -9223372036854775808 ≤ n ∧ n ≤ 9223372036854775807) : ∃ v h', ACall Try.prog 78 [.int .i64 n] h v h' ∧ h.Le h' ∧ h'.wf ∧ v = .string (vb (foldN n)) := by
  have hf := foldN_lt hn
  have hsz : (vb (foldN n)).size ≤ 10 := vb_size 9 _ (by omega)
  refine acall_q fun Q HQ => ?_
  refine acall_vc (fun _ => true) (fun _ => []) (fun _ => pnL (foldN n) h) mixed Try.func78 rfl rfl rfl (Nat.le_of_ble_eq_true rfl) ?_ ?_
  · refine vc_mp (by kernel_rfl : (True ∧ True ∧ (True ∧ True ∧ True) ∧ True ∧ ((∀ (i : Nat × ByteArray × Option Addr × Nat × AHeap), Prod.fst i < (18446744073709551616 : Nat) ∧ Append.append (Prod.fst (Prod.snd i)) (vb (Prod.fst i)) = vb (foldN n) ∧ BInv h (Prod.snd (Prod.snd (Prod.snd (Prod.snd i)))) (Prod.fst (Prod.snd (Prod.snd i))) (ByteArray.size (Prod.fst (Prod.snd i))) (Prod.fst (Prod.snd (Prod.snd (Prod.snd i)))) (Prod.fst (Prod.snd i)) → bs (decide ((↑(Prod.fst i) : Int) > (127 : Int))) (∃ (xs : List (List Value)), rowsV (AHeap.push (Prod.snd (Prod.snd (Prod.snd (Prod.snd i)))) (AObj.mk [[Value.int IntKind.u8 (IntKind.wrap IntKind.u8 (↑(BitVec.toNat (BitVec.ofInt (IntKind.bits IntKind.u8) (IntKind.wrap IntKind.u8 (↑(Prod.fst i) : Int)) ||| BitVec.ofInt (IntKind.bits IntKind.u8) (128 : Int))) : Int))]] (1 : Nat) true)) (Value.slice (some (Addr.mk (AHeap.n (Prod.snd (Prod.snd (Prod.snd (Prod.snd i))))) (0 : Nat) (some (1 : Nat)))) (1 : Nat) (2 : Nat)) = some xs ∧ (List.all xs fun (row : List Value) => decide (List.length row = (1 : Nat)) && List.all row fun (v : Value) => match v with | Value.agg cells => false | Value.tuple cells => false | Value.complex k re im => false | Value.chan r => false | x => true) = true ∧ (ByteArray.size (Prod.fst (Prod.snd i)) + List.length xs) * (1 : Nat) ≤ (140737488355328 : Nat) ∧ ∃ (a : Option Addr), ∃ (n_1 : Nat), ∃ (c : Nat), ∃ (h' : AHeap), AHeap.app (AHeap.push (Prod.snd (Prod.snd (Prod.snd (Prod.snd i)))) (AObj.mk [[Value.int IntKind.u8 (IntKind.wrap IntKind.u8 (↑(BitVec.toNat (BitVec.ofInt (IntKind.bits IntKind.u8) (IntKind.wrap IntKind.u8 (↑(Prod.fst i) : Int)) ||| BitVec.ofInt (IntKind.bits IntKind.u8) (128 : Int))) : Int))]] (1 : Nat) true)) (Value.slice (Prod.fst (Prod.snd (Prod.snd i))) (ByteArray.size (Prod.fst (Prod.snd i))) (Prod.fst (Prod.snd (Prod.snd (Prod.snd i))))) xs (1 : Nat) = some (Value.slice a n_1 c, h') ∧ (0 : Int) ≤ (7 : Int) ∧ ∃ (j : Nat × ByteArray × Option Addr × Nat × AHeap), Value.int IntKind.u64 (Int.fdiv (↑(Prod.fst i) : Int) ((2 : Int) ^ min (Int.toNat (7 : Int)) (IntKind.bits IntKind.u64))) = Value.int IntKind.u64 (↑(Prod.fst j) : Int) ∧ Value.slice a n_1 c = Value.slice (Prod.fst (Prod.snd (Prod.snd j))) (ByteArray.size (Prod.fst (Prod.snd j))) (Prod.fst (Prod.snd (Prod.snd (Prod.snd j)))) ∧ Prod.snd (Prod.snd (Prod.snd (Prod.snd j))) = h' ∧ (Prod.fst j < (18446744073709551616 : Nat) ∧ Append.append (Prod.fst (Prod.snd j)) (vb (Prod.fst j)) = vb (foldN n) ∧ BInv h (Prod.snd (Prod.snd (Prod.snd (Prod.snd j)))) (Prod.fst (Prod.snd (Prod.snd j))) (ByteArray.size (Prod.fst (Prod.snd j))) (Prod.fst (Prod.snd (Prod.snd (Prod.snd j)))) (Prod.fst (Prod.snd j))) ∧ Prod.fst j < Prod.fst i ∧ (∀ (k : Nat × ByteArray × Option Addr × Nat × AHeap), Prod.fst k < (128 : Nat) ∧ Append.append (Prod.fst (Prod.snd k)) (vb (Prod.fst k)) = vb (foldN n) ∧ BInv h (Prod.snd (Prod.snd (Prod.snd (Prod.snd k)))) (Prod.fst (Prod.snd (Prod.snd k))) (ByteArray.size (Prod.fst (Prod.snd k))) (Prod.fst (Prod.snd (Prod.snd (Prod.snd k)))) (Prod.fst (Prod.snd k)) → Prod.fst k < (128 : Nat) ∧ Append.append (Prod.fst (Prod.snd k)) (vb (Prod.fst k)) = vb (foldN n) ∧ BInv h (Prod.snd (Prod.snd (Prod.snd (Prod.snd k)))) (Prod.fst (Prod.snd (Prod.snd k))) (ByteArray.size (Prod.fst (Prod.snd k))) (Prod.fst (Prod.snd (Prod.snd (Prod.snd k)))) (Prod.fst (Prod.snd k))) ∧ ∀ (v : Value) (h : AHeap), False → False) (∃ (j : Nat × ByteArray × Option Addr × Nat × AHeap), Value.int IntKind.u64 (↑(Prod.fst i) : Int) = Value.int IntKind.u64 (↑(Prod.fst j) : Int) ∧ Value.slice (Prod.fst (Prod.snd (Prod.snd i))) (ByteArray.size (Prod.fst (Prod.snd i))) (Prod.fst (Prod.snd (Prod.snd (Prod.snd i)))) = Value.slice (Prod.fst (Prod.snd (Prod.snd j))) (ByteArray.size (Prod.fst (Prod.snd j))) (Prod.fst (Prod.snd (Prod.snd (Prod.snd j)))) ∧ Prod.snd (Prod.snd (Prod.snd (Prod.snd j))) = Prod.snd (Prod.snd (Prod.snd (Prod.snd i))) ∧ Prod.fst j < (128 : Nat) ∧ Append.append (Prod.fst (Prod.snd j)) (vb (Prod.fst j)) = vb (foldN n) ∧ BInv h (Prod.snd (Prod.snd (Prod.snd (Prod.snd j)))) (Prod.fst (Prod.snd (Prod.snd j))) (ByteArray.size (Prod.fst (Prod.snd j))) (Prod.fst (Prod.snd (Prod.snd (Prod.snd j)))) (Prod.fst (Prod.snd j)))) ∧ (True ∧ True ∧ True) ∧ True ∧ True) ∧ True ∧ True) = _) ?_
    simp only [true_and, and_true]
    rintro ⟨u, b, a, c, g⟩ ⟨hu, hb, I⟩
    dsimp only at *
    refine bs_d (fun hlt => ?_) (fun hge => ?_)
    · have hv : ¬ u < 128 := by omega
      have e1 : IntKind.u8.wrap (((BitVec.ofInt IntKind.u8.bits (IntKind.u8.wrap (u : Int)) ||| BitVec.ofInt IntKind.u8.bits (128 : Int)).toNat : Nat) : Int) = ((u % 128 + 128 : Nat) : Int) := byte_or
      rw [e1, ← oneB_rows (show u % 128 + 128 < 256 by omega)]
      have hb : b ++ vb u = vb (foldN n) := hb
      have bs : b.size + (vb u).size = (vb (foldN n)).size := by rw [← hb, ByteArray.size_append]
      obtain ⟨a2, c2, g2, happ, I2⟩ := (I.push ⟨bytesRows (oneB (u % 128 + 128)), 1, true⟩).app (oneB (u % 128 + 128))
      refine ⟨bytesRows (oneB (u % 128 + 128)), rowsV_one, rows_okb _, by rw [bytesRows_len, oneB_size]; omega, _, _, _, _, happ, by omega, (u / 128, b ++ oneB (u % 128 + 128), a2, c2, g2), ?_, by rw [ByteArray.size_append], rfl, ⟨by dsimp only; omega, ?_, by rw [ByteArray.size_append]; exact I2⟩, by dsimp only; omega, fun _ h => h, fun _ _ h => h⟩
      · dsimp only
        congr 1
        show (u : Int).fdiv 128 = _
        rw [Int.fdiv_eq_ediv_of_nonneg _ (by omega)]; rfl
      · show b ++ oneB (u % 128 + 128) ++ vb (u / 128) = _
        rw [ba_assoc, ← vb_hi hv]; exact hb
    · exact ⟨(u, b, a, c, g), rfl, rfl, rfl, by omega, hb, I⟩
  refine vc_mp (by kernel_rfl : ((0 : Int) ≤ (1 : Int) ∧ bs (decide (n < (0 : Int))) (∃ (i : Nat × ByteArray × Option Addr × Nat × AHeap), Value.int IntKind.u64 (IntKind.wrap IntKind.u64 (↑(BitVec.toNat (BitVec.ofInt (IntKind.bits IntKind.u64) (IntKind.max IntKind.u64) ^^^ BitVec.ofInt (IntKind.bits IntKind.u64) (IntKind.wrap IntKind.u64 (IntKind.wrap IntKind.u64 n * (2 : Int) ^ min (Int.toNat (1 : Int)) (IntKind.bits IntKind.u64))))) : Int)) = Value.int IntKind.u64 (↑(Prod.fst i) : Int) ∧ Value.slice none (0 : Nat) (0 : Nat) = Value.slice (Prod.fst (Prod.snd (Prod.snd i))) (ByteArray.size (Prod.fst (Prod.snd i))) (Prod.fst (Prod.snd (Prod.snd (Prod.snd i)))) ∧ Prod.snd (Prod.snd (Prod.snd (Prod.snd i))) = h ∧ (Prod.fst i < (18446744073709551616 : Nat) ∧ Append.append (Prod.fst (Prod.snd i)) (vb (Prod.fst i)) = vb (foldN n) ∧ BInv h (Prod.snd (Prod.snd (Prod.snd (Prod.snd i)))) (Prod.fst (Prod.snd (Prod.snd i))) (ByteArray.size (Prod.fst (Prod.snd i))) (Prod.fst (Prod.snd (Prod.snd (Prod.snd i)))) (Prod.fst (Prod.snd i))) ∧ (∀ (j : Nat × ByteArray × Option Addr × Nat × AHeap), Prod.fst j < (128 : Nat) ∧ Append.append (Prod.fst (Prod.snd j)) (vb (Prod.fst j)) = vb (foldN n) ∧ BInv h (Prod.snd (Prod.snd (Prod.snd (Prod.snd j)))) (Prod.fst (Prod.snd (Prod.snd j))) (ByteArray.size (Prod.fst (Prod.snd j))) (Prod.fst (Prod.snd (Prod.snd (Prod.snd j)))) (Prod.fst (Prod.snd j)) → ∃ (xs : List (List Value)), rowsV (AHeap.push (Prod.snd (Prod.snd (Prod.snd (Prod.snd j)))) (AObj.mk [[Value.int IntKind.u8 (IntKind.wrap IntKind.u8 (↑(Prod.fst j) : Int))]] (1 : Nat) true)) (Value.slice (some (Addr.mk (AHeap.n (Prod.snd (Prod.snd (Prod.snd (Prod.snd j))))) (0 : Nat) (some (1 : Nat)))) (1 : Nat) (2 : Nat)) = some xs ∧ (List.all xs fun (row : List Value) => decide (List.length row = (1 : Nat)) && List.all row fun (v : Value) => match v with | Value.agg cells => false | Value.tuple cells => false | Value.complex k re im => false | Value.chan r => false | x => true) = true ∧ (ByteArray.size (Prod.fst (Prod.snd j)) + List.length xs) * (1 : Nat) ≤ (140737488355328 : Nat) ∧ ∃ (a : Option Addr), ∃ (n : Nat), ∃ (c : Nat), ∃ (h' : AHeap), AHeap.app (AHeap.push (Prod.snd (Prod.snd (Prod.snd (Prod.snd j)))) (AObj.mk [[Value.int IntKind.u8 (IntKind.wrap IntKind.u8 (↑(Prod.fst j) : Int))]] (1 : Nat) true)) (Value.slice (Prod.fst (Prod.snd (Prod.snd j))) (ByteArray.size (Prod.fst (Prod.snd j))) (Prod.fst (Prod.snd (Prod.snd (Prod.snd j))))) xs (1 : Nat) = some (Value.slice a n c, h') ∧ ∃ (s : ByteArray), AHeap.rowsOf h' (Value.slice a n c) = some (bytesRows s) ∧ Q (Value.string s) h') ∧ ∀ (v : Value) (h : AHeap), False → Q v h) (∃ (i : Nat × ByteArray × Option Addr × Nat × AHeap), Value.int IntKind.u64 (IntKind.wrap IntKind.u64 (IntKind.wrap IntKind.u64 n * (2 : Int) ^ min (Int.toNat (1 : Int)) (IntKind.bits IntKind.u64))) = Value.int IntKind.u64 (↑(Prod.fst i) : Int) ∧ Value.slice none (0 : Nat) (0 : Nat) = Value.slice (Prod.fst (Prod.snd (Prod.snd i))) (ByteArray.size (Prod.fst (Prod.snd i))) (Prod.fst (Prod.snd (Prod.snd (Prod.snd i)))) ∧ Prod.snd (Prod.snd (Prod.snd (Prod.snd i))) = h ∧ (Prod.fst i < (18446744073709551616 : Nat) ∧ Append.append (Prod.fst (Prod.snd i)) (vb (Prod.fst i)) = vb (foldN n) ∧ BInv h (Prod.snd (Prod.snd (Prod.snd (Prod.snd i)))) (Prod.fst (Prod.snd (Prod.snd i))) (ByteArray.size (Prod.fst (Prod.snd i))) (Prod.fst (Prod.snd (Prod.snd (Prod.snd i)))) (Prod.fst (Prod.snd i))) ∧ (∀ (j : Nat × ByteArray × Option Addr × Nat × AHeap), Prod.fst j < (128 : Nat) ∧ Append.append (Prod.fst (Prod.snd j)) (vb (Prod.fst j)) = vb (foldN n) ∧ BInv h (Prod.snd (Prod.snd (Prod.snd (Prod.snd j)))) (Prod.fst (Prod.snd (Prod.snd j))) (ByteArray.size (Prod.fst (Prod.snd j))) (Prod.fst (Prod.snd (Prod.snd (Prod.snd j)))) (Prod.fst (Prod.snd j)) → ∃ (xs : List (List Value)), rowsV (AHeap.push (Prod.snd (Prod.snd (Prod.snd (Prod.snd j)))) (AObj.mk [[Value.int IntKind.u8 (IntKind.wrap IntKind.u8 (↑(Prod.fst j) : Int))]] (1 : Nat) true)) (Value.slice (some (Addr.mk (AHeap.n (Prod.snd (Prod.snd (Prod.snd (Prod.snd j))))) (0 : Nat) (some (1 : Nat)))) (1 : Nat) (2 : Nat)) = some xs ∧ (List.all xs fun (row : List Value) => decide (List.length row = (1 : Nat)) && List.all row fun (v : Value) => match v with | Value.agg cells => false | Value.tuple cells => false | Value.complex k re im => false | Value.chan r => false | x => true) = true ∧ (ByteArray.size (Prod.fst (Prod.snd j)) + List.length xs) * (1 : Nat) ≤ (140737488355328 : Nat) ∧ ∃ (a : Option Addr), ∃ (n : Nat), ∃ (c : Nat), ∃ (h' : AHeap), AHeap.app (AHeap.push (Prod.snd (Prod.snd (Prod.snd (Prod.snd j)))) (AObj.mk [[Value.int IntKind.u8 (IntKind.wrap IntKind.u8 (↑(Prod.fst j) : Int))]] (1 : Nat) true)) (Value.slice (Prod.fst (Prod.snd (Prod.snd j))) (ByteArray.size (Prod.fst (Prod.snd j))) (Prod.fst (Prod.snd (Prod.snd (Prod.snd j))))) xs (1 : Nat) = some (Value.slice a n c, h') ∧ ∃ (s : ByteArray), AHeap.rowsOf h' (Value.slice a n c) = some (bytesRows s) ∧ Q (Value.string s) h') ∧ ∀ (v : Value) (h : AHeap), False → Q v h)) = _) ?_
  have fin : ∀ (j : Nat × ByteArray × Option Addr × Nat × AHeap), j.1 < 128 ∧ Append.append j.2.1 (vb j.1) = vb (foldN n) ∧ BInv h j.2.2.2.2 j.2.2.1 j.2.1.size j.2.2.2.1 j.2.1 → ∃ a2 c2 g2, (j.2.2.2.2.push ⟨bytesRows (oneB j.1), 1, true⟩).app (.slice j.2.2.1 j.2.1.size j.2.2.2.1) (bytesRows (oneB j.1)) 1 = some (.slice a2 (j.2.1.size + 1) c2, g2) ∧ g2.rowsOf (.slice a2 (j.2.1.size + 1) c2) = some (bytesRows (vb (foldN n))) ∧ h.Le g2 ∧ g2.wf ∧ j.2.1.size ≤ 10 := by
    rintro ⟨u, b, a, c, g⟩ ⟨hu, hb, I⟩
    dsimp only at *
    have hb : b ++ vb u = vb (foldN n) := hb
    have bs : b.size + (vb u).size = (vb (foldN n)).size := by rw [← hb, ByteArray.size_append]
    obtain ⟨a2, c2, g2, happ, I2⟩ := (I.push ⟨bytesRows (oneB u), 1, true⟩).app (oneB u)
    rw [vb_lo hu] at hb
    rw [hb] at I2
    exact ⟨a2, c2, g2, happ, I2.rows, I2.le, I2.wf, by omega⟩
  refine ⟨by omega, bs_d (fun e => ?_) (fun e => ?_)⟩
  all_goals
    refine ⟨(foldN n, ⟨#[]⟩, none, 0, h), ?_, rfl, rfl, ⟨hf, ba_nil_append _, .nil hw⟩, ?_, fun _ _ h => h.elim⟩
  · dsimp only
    congr 1
    show IntKind.u64.wrap (((BitVec.ofInt 64 18446744073709551615 ^^^ BitVec.ofInt 64 (IntKind.u64.wrap (IntKind.u64.wrap n * 2))).toNat : Nat) : Int) = _
    rw [wrap_u64 n, wrap_u64 (n % 18446744073709551616 * 2), not64 (by omega), wrap_u64]
    unfold foldN
    rw [if_pos e]; omega
  · rintro j hj
    obtain ⟨a2, c2, g2, happ, hrows, le, wf, sz⟩ := fin j hj
    have e8 : IntKind.u8.wrap (j.1 : Int) = (j.1 : Int) := by rw [wrap_u8]; omega
    rw [e8, ← oneB_rows (show j.1 < 256 by omega)]
    refine ⟨bytesRows (oneB j.1), rowsV_one, rows_okb _, by rw [bytesRows_len, oneB_size]; omega, _, _, _, _, happ, ?_⟩
    exact ⟨_, hrows, HQ _ _ ⟨le, wf, rfl⟩⟩
  · dsimp only
    congr 1
    show IntKind.u64.wrap (IntKind.u64.wrap n * 2) = _
    rw [wrap_u64 n, wrap_u64]
    unfold foldN
    rw [if_neg e]; omega
  · rintro j hj
    obtain ⟨a2, c2, g2, happ, hrows, le, wf, sz⟩ := fin j hj
    have e8 : IntKind.u8.wrap (j.1 : Int) = (j.1 : Int) := by rw [wrap_u8]; omega
    rw [e8, ← oneB_rows (show j.1 < 256 by omega)]
    refine ⟨bytesRows (oneB j.1), rowsV_one, rows_okb _, by rw [bytesRows_len, oneB_size]; omega, _, _, _, _, happ, ?_⟩
    exact ⟨_, hrows, HQ _ _ ⟨le, wf, rfl⟩⟩
end Go.Proofs.Ytdcijleeoihlfaa
