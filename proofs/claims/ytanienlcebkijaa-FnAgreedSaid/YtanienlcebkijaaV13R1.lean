/- L5, F4, F5, F6, H2, S1, R1. -/
import Derived.Test.YtanienlcebkijaaV13H1
import Derived.Test.YtanienlcebkijaaV13L3
section
namespace Go.Dat
open Go.Abs
structure BX where
  a : Option Addr
  n : Nat
  c : Nat
  b : ByteArray
  g : AHeap
def BXok (h : AHeap) (x : BX) : Prop := BInv h x.g x.a x.n x.c x.b
theorem BInv.grow {h0 h h' : AHeap} {a : Option Addr} {n c : Nat} {b : ByteArray} (I : BInv h0 h a n c b) (le : h.Le h') (wf : h'.wf) : BInv h0 h' a n c b :=
  ⟨I.le.trans le, wf, I.wf0, I.nb, I.at_.imp id fun ⟨l, e, h1, h2, h3⟩ => ⟨l, e, h1, le.get l _ h2, h3⟩⟩
theorem BXok.app {h : AHeap} {x : BX} (I : BXok h x) (d : ByteArray) (o : AObj) : ∃ y : BX, (x.g.push o).app (.slice x.a x.n x.c) (bytesRows d) 1 = some (.slice y.a y.n y.c, y.g) ∧ BXok h y ∧ y.n = x.n + d.size := by
  obtain ⟨a', c', h', e, I'⟩ := BInv.app (BInv.push I o) d
  exact ⟨⟨a', x.n + d.size, c', x.b ++ d, h'⟩, e, I', rfl⟩
theorem bytes_part (b : ByteArray) (i m : Nat) : ∃ s : ByteArray, ((bytesRows b).drop i).take m = bytesRows s := by
  refine ⟨⟨((b.data.toList.drop i).take m).toArray⟩, ?_⟩
  unfold bytesRows
  rw [← List.map_drop, ← List.map_take]
theorem rowsB (xs : List Int) (hb : ∀ x ∈ xs, 0 ≤ x ∧ x ≤ 255) : ∃ s : ByteArray, bytesRows s = xs.map (fun x => [Value.int .u8 x]) ∧ s.size = xs.length := by
  refine ⟨⟨(xs.map fun x => UInt8.ofNat x.toNat).toArray⟩, ?_, ?_⟩
  · unfold bytesRows
    simp only [List.map_map]
    refine List.map_congr_left fun x hxm => ?_
    have := hb x hxm
    simp only [Function.comp, List.cons.injEq, Value.int.injEq, true_and, and_true]
    rw [UInt8.toNat_ofNat']
    omega
  · show (List.toArray _).size = _
    simp
theorem u8_bd (n : Int) : 0 ≤ IntKind.u8.wrap n ∧ IntKind.u8.wrap n ≤ 255 := by rw [wrap_u8]; omega
theorem rowsV_lit {g : AHeap} {rows : List (List Value)} {z n c : Nat} (hl : rows.length = n) : rowsV (g.push ⟨rows, z, true⟩) (.slice (some ⟨g.n, 0, some z⟩) n c) = some rows := by
  unfold rowsV
  dsimp only
  rw [get_rowsOf AHeap.get_push_eq (by simp; omega), List.drop_zero, List.take_of_length_le (by omega)]
theorem BXok.lit {h : AHeap} {x : BX} (B : BXok h x) (xs : List Int) (hb : ∀ v ∈ xs, 0 ≤ v ∧ v ≤ 255) : ∃ y : BX, (x.g.push ⟨xs.map (fun v => [Value.int .u8 v]), 1, true⟩).app (.slice x.a x.n x.c) (xs.map (fun v => [Value.int .u8 v])) 1 = some (.slice y.a y.n y.c, y.g) ∧ BXok h y ∧ y.n = x.n + xs.length := by
  obtain ⟨d, hd, hs⟩ := rowsB xs hb
  obtain ⟨y, e, B', hn⟩ := B.app d ⟨bytesRows d, 1, true⟩
  rw [hd] at e
  exact ⟨y, e, B', by rw [hn, hs]⟩
end Go.Dat
namespace Go.Proofs.Ytanienlcebkijaa
open Go.Abs Go.Dat
set_option maxRecDepth 100000
set_option maxHeartbeats 8000000
def laL (h : AHeap) (t : ByteArray) (bits : Int) : Nat → LSpec
  | 0 => {
    ι := BX
    κ := BX
    I := fun x => BXok h x ∧ t.size + 1 ≤ x.n ∧ ∀ m, t.size + 1 ≤ m → m < x.n → m % 64 ≠ 56
    μ := fun x => t.size + 65 - x.n
    head := fun x => ⟨[(0, .string t), (3, .slice x.a x.n x.c)], [], x.g⟩
    post := fun x => ⟨[(0, .string t), (3, .slice x.a x.n x.c)], [], x.g⟩
    R := fun _ x => BXok h x ∧ x.n % 64 = 56 ∧ x.n ≤ t.size + 64
    ret := fun _ _ _ => False }
  | 2 => {
    ι := Nat × BX
    κ := BX
    I := fun i => i.1 ≤ 8 ∧ BXok h i.2 ∧ (i.2.n + 8 - i.1) % 64 = 0 ∧ i.2.n ≤ t.size + 64 + i.1
    μ := fun i => 8 - i.1
    head := fun i => ⟨[(3, .slice i.2.a i.2.n i.2.c), (4, .int .u64 bits), (5, .int .i64 (56 - 8 * (i.1 : Int)))], [], i.2.g⟩
    post := fun x => ⟨[(3, .slice x.a x.n x.c)], [], x.g⟩
    R := fun _ x => BXok h x ∧ x.n % 64 = 0 ∧ x.n ≤ t.size + 72
    ret := fun _ _ _ => False }
  | 4 => {
    ι := Nat × Nat × Nat × BX
    κ := Nat × Nat × AHeap
    I := fun i => 64 * i.1 ≤ i.2.2.2.n ∧ BXok h i.2.2.2 ∧ i.2.2.2.n % 64 = 0 ∧ i.2.2.2.n ≤ t.size + 72 ∧ NRow .i64 i.2.2.2.g i.2.1 8
    μ := fun i => i.2.2.2.n - 64 * i.1
    head := fun i => ⟨[(3, .slice i.2.2.2.a i.2.2.2.n i.2.2.2.c), (6, .slice (some ⟨i.2.1, 0, some 1⟩) 8 i.2.2.1), (7, .int .i64 (64 * (i.1 : Int)))], [], i.2.2.2.g⟩
    post := fun j => ⟨[(6, .slice (some ⟨j.1, 0, some 1⟩) 8 j.2.1)], [], j.2.2⟩
    R := fun _ j => h.Le j.2.2 ∧ j.2.2.wf ∧ NRow .i64 j.2.2 j.1 8
    ret := fun _ _ _ => False }
  | _ => {
    ι := Nat × AHeap × Nat × Nat × BX
    κ := BX
    I := fun i => i.1 ≤ 8 ∧ h.Le i.2.1 ∧ NRow .i64 i.2.1 i.2.2.1 8 ∧ BXok i.2.1 i.2.2.2.2 ∧ i.2.2.2.2.n = 4 * i.1
    μ := fun i => 8 - i.1
    head := fun i => ⟨[(6, .slice (some ⟨i.2.2.1, 0, some 1⟩) 8 i.2.2.2.1), (8, .slice i.2.2.2.2.a i.2.2.2.2.n i.2.2.2.2.c), (9, .int .i64 i.1)], [], i.2.2.2.2.g⟩
    post := fun x => ⟨[(8, .slice x.a x.n x.c)], [], x.g⟩
    R := fun _ x => ∃ h1, h.Le h1 ∧ BXok h1 x
    ret := fun _ _ _ => False }
theorem l02All_spec (h : AHeap) (hw : h.wf) (t : ByteArray) (ht : t.size ≤ 1000000) :
    ∃ v h', ACall Try.prog 67 [.string t] h v h' ∧ h.Le h' ∧ h'.wf ∧ ∃ d : ByteArray, v = .string d := by
  refine acall_q fun Q HQ => ?_
  refine acall_vc (fun _ => false) (fun _ => []) (laL h t (IntKind.u64.wrap (IntKind.i64.wrap (8 * (t.size : Int))))) mixed Try.func67 rfl rfl rfl (Nat.le_of_ble_eq_true rfl) ?_ ?_
  · refine vc_mp (by kernel_rfl : (True ∧ True ∧ ((∀ (i : BX), (BXok h i ∧ ByteArray.size t + (1 : Nat) ≤ BX.n i ∧ ∀ (m : Nat), ByteArray.size t + (1 : Nat) ≤ m → m < BX.n i → m % (64 : Nat) ≠ (56 : Nat)) → (64 : Int) ≠ (0 : Int) ∧ bs (!decide (Int.tmod (↑(BX.n i) : Int) (64 : Int) = (56 : Int))) (∃ (xs : List (List Value)), rowsV (AHeap.push (BX.g i) (AObj.mk [[Value.int IntKind.u8 (0 : Int)]] (1 : Nat) true)) (Value.slice (some (Addr.mk (AHeap.n (BX.g i)) (0 : Nat) (some (1 : Nat)))) (1 : Nat) (2 : Nat)) = some xs ∧ (List.all xs fun (row : List Value) => decide (List.length row = (1 : Nat)) && List.all row fun (v : Value) => match v with | Value.agg cells => false | Value.tuple cells => false | Value.complex k re im => false | Value.chan r => false | x => true) = true ∧ (BX.n i + List.length xs) * (1 : Nat) ≤ (140737488355328 : Nat) ∧ ∃ (a : Option Addr), ∃ (n : Nat), ∃ (c : Nat), ∃ (h' : AHeap), AHeap.app (AHeap.push (BX.g i) (AObj.mk [[Value.int IntKind.u8 (0 : Int)]] (1 : Nat) true)) (Value.slice (BX.a i) (BX.n i) (BX.c i)) xs (1 : Nat) = some (Value.slice a n c, h') ∧ ∃ (j : BX), Value.string t = Value.string t ∧ Value.slice a n c = Value.slice (BX.a j) (BX.n j) (BX.c j) ∧ BX.g j = h' ∧ (BXok h j ∧ ByteArray.size t + (1 : Nat) ≤ BX.n j ∧ ∀ (m : Nat), ByteArray.size t + (1 : Nat) ≤ m → m < BX.n j → m % (64 : Nat) ≠ (56 : Nat)) ∧ ByteArray.size t + (65 : Nat) - BX.n j < ByteArray.size t + (65 : Nat) - BX.n i ∧ (∀ (k : BX), BXok h k ∧ BX.n k % (64 : Nat) = (56 : Nat) ∧ BX.n k ≤ ByteArray.size t + (64 : Nat) → BXok h k ∧ BX.n k % (64 : Nat) = (56 : Nat) ∧ BX.n k ≤ ByteArray.size t + (64 : Nat)) ∧ ∀ (v : Value) (h : AHeap), False → False) (∃ (j : BX), Value.string t = Value.string t ∧ Value.slice (BX.a i) (BX.n i) (BX.c i) = Value.slice (BX.a j) (BX.n j) (BX.c j) ∧ BX.g j = BX.g i ∧ BXok h j ∧ BX.n j % (64 : Nat) = (56 : Nat) ∧ BX.n j ≤ ByteArray.size t + (64 : Nat))) ∧ (True ∧ True ∧ True) ∧ True) ∧ True ∧ (True ∧ (∀ (i : Nat × BX), Prod.fst i ≤ (8 : Nat) ∧ BXok h (Prod.snd i) ∧ (BX.n (Prod.snd i) + (8 : Nat) - Prod.fst i) % (64 : Nat) = (0 : Nat) ∧ BX.n (Prod.snd i) ≤ ByteArray.size t + (64 : Nat) + Prod.fst i → bs (decide ((56 : Int) - (8 : Int) * (↑(Prod.fst i) : Int) ≥ (0 : Int))) ((0 : Int) ≤ IntKind.wrap IntKind.u64 ((56 : Int) - (8 : Int) * (↑(Prod.fst i) : Int)) ∧ ∃ (xs : List (List Value)), rowsV (AHeap.push (BX.g (Prod.snd i)) (AObj.mk [[Value.int IntKind.u8 (IntKind.wrap IntKind.u8 (Int.fdiv (IntKind.wrap IntKind.u64 (IntKind.wrap IntKind.i64 ((8 : Int) * (↑(ByteArray.size t) : Int)))) ((2 : Int) ^ min (Int.toNat (IntKind.wrap IntKind.u64 ((56 : Int) - (8 : Int) * (↑(Prod.fst i) : Int)))) (IntKind.bits IntKind.u64))))]] (1 : Nat) true)) (Value.slice (some (Addr.mk (AHeap.n (BX.g (Prod.snd i))) (0 : Nat) (some (1 : Nat)))) (1 : Nat) (2 : Nat)) = some xs ∧ (List.all xs fun (row : List Value) => decide (List.length row = (1 : Nat)) && List.all row fun (v : Value) => match v with | Value.agg cells => false | Value.tuple cells => false | Value.complex k re im => false | Value.chan r => false | x => true) = true ∧ (BX.n (Prod.snd i) + List.length xs) * (1 : Nat) ≤ (140737488355328 : Nat) ∧ ∃ (a : Option Addr), ∃ (n : Nat), ∃ (c : Nat), ∃ (h' : AHeap), AHeap.app (AHeap.push (BX.g (Prod.snd i)) (AObj.mk [[Value.int IntKind.u8 (IntKind.wrap IntKind.u8 (Int.fdiv (IntKind.wrap IntKind.u64 (IntKind.wrap IntKind.i64 ((8 : Int) * (↑(ByteArray.size t) : Int)))) ((2 : Int) ^ min (Int.toNat (IntKind.wrap IntKind.u64 ((56 : Int) - (8 : Int) * (↑(Prod.fst i) : Int)))) (IntKind.bits IntKind.u64))))]] (1 : Nat) true)) (Value.slice (BX.a (Prod.snd i)) (BX.n (Prod.snd i)) (BX.c (Prod.snd i))) xs (1 : Nat) = some (Value.slice a n c, h') ∧ ∃ (j : Nat × BX), Value.slice a n c = Value.slice (BX.a (Prod.snd j)) (BX.n (Prod.snd j)) (BX.c (Prod.snd j)) ∧ Value.int IntKind.u64 (IntKind.wrap IntKind.u64 (IntKind.wrap IntKind.i64 ((8 : Int) * (↑(ByteArray.size t) : Int)))) = Value.int IntKind.u64 (IntKind.wrap IntKind.u64 (IntKind.wrap IntKind.i64 ((8 : Int) * (↑(ByteArray.size t) : Int)))) ∧ Value.int IntKind.i64 (IntKind.wrap IntKind.i64 ((56 : Int) - (8 : Int) * (↑(Prod.fst i) : Int) - (8 : Int))) = Value.int IntKind.i64 ((56 : Int) - (8 : Int) * (↑(Prod.fst j) : Int)) ∧ BX.g (Prod.snd j) = h' ∧ (Prod.fst j ≤ (8 : Nat) ∧ BXok h (Prod.snd j) ∧ (BX.n (Prod.snd j) + (8 : Nat) - Prod.fst j) % (64 : Nat) = (0 : Nat) ∧ BX.n (Prod.snd j) ≤ ByteArray.size t + (64 : Nat) + Prod.fst j) ∧ (8 : Nat) - Prod.fst j < (8 : Nat) - Prod.fst i ∧ (∀ (k : BX), BXok h k ∧ BX.n k % (64 : Nat) = (0 : Nat) ∧ BX.n k ≤ ByteArray.size t + (72 : Nat) → BXok h k ∧ BX.n k % (64 : Nat) = (0 : Nat) ∧ BX.n k ≤ ByteArray.size t + (72 : Nat)) ∧ ∀ (v : Value) (h : AHeap), False → False) (∃ (j : BX), Value.slice (BX.a (Prod.snd i)) (BX.n (Prod.snd i)) (BX.c (Prod.snd i)) = Value.slice (BX.a j) (BX.n j) (BX.c j) ∧ BX.g j = BX.g (Prod.snd i) ∧ BXok h j ∧ BX.n j % (64 : Nat) = (0 : Nat) ∧ BX.n j ≤ ByteArray.size t + (72 : Nat))) ∧ (True ∧ True ∧ True) ∧ True ∧ True) ∧ True ∧ (True ∧ (∀ (i : Nat × Nat × Nat × BX), (64 : Nat) * Prod.fst i ≤ BX.n (Prod.snd (Prod.snd (Prod.snd i))) ∧ BXok h (Prod.snd (Prod.snd (Prod.snd i))) ∧ BX.n (Prod.snd (Prod.snd (Prod.snd i))) % (64 : Nat) = (0 : Nat) ∧ BX.n (Prod.snd (Prod.snd (Prod.snd i))) ≤ ByteArray.size t + (72 : Nat) ∧ NRow IntKind.i64 (BX.g (Prod.snd (Prod.snd (Prod.snd i)))) (Prod.fst (Prod.snd i)) (8 : Nat) → bs (decide ((64 : Int) * (↑(Prod.fst i) : Int) < (↑(BX.n (Prod.snd (Prod.snd (Prod.snd i)))) : Int))) ((0 : Int) ≤ (64 : Int) * (↑(Prod.fst i) : Int) ∧ (64 : Int) * (↑(Prod.fst i) : Int) ≤ IntKind.wrap IntKind.i64 ((64 : Int) * (↑(Prod.fst i) : Int) + (64 : Int)) ∧ (IntKind.wrap IntKind.i64 ((64 : Int) * (↑(Prod.fst i) : Int) + (64 : Int)) ≤ (↑(BX.n (Prod.snd (Prod.snd (Prod.snd i)))) : Int) ∨ BX.c (Prod.snd (Prod.snd (Prod.snd i))) ≠ (0 : Nat) ∧ IntKind.wrap IntKind.i64 ((64 : Int) * (↑(Prod.fst i) : Int) + (64 : Int)) < (↑(BX.c (Prod.snd (Prod.snd (Prod.snd i)))) : Int)) ∧ (∀ (x : Addr), BX.a (Prod.snd (Prod.snd (Prod.snd i))) = some x → Addr.spot x = some (1 : Nat)) ∧ ∃ (s : ByteArray), AHeap.rowsOf (BX.g (Prod.snd (Prod.snd (Prod.snd i)))) (Value.slice (Option.map (fun (x : Addr) => Addr.mk (Addr.block x) (Addr.off x + Int.toNat ((64 : Int) * (↑(Prod.fst i) : Int))) (Addr.spot x)) (BX.a (Prod.snd (Prod.snd (Prod.snd i))))) (Int.toNat (IntKind.wrap IntKind.i64 ((64 : Int) * (↑(Prod.fst i) : Int) + (64 : Int))) - Int.toNat ((64 : Int) * (↑(Prod.fst i) : Int))) (bif decide (BX.c (Prod.snd (Prod.snd (Prod.snd i))) = (0 : Nat)) then (0 : Nat) else BX.c (Prod.snd (Prod.snd (Prod.snd i))) - Int.toNat ((64 : Int) * (↑(Prod.fst i) : Int)))) = some (bytesRows s) ∧ ∃ (a : Option Addr), ∃ (n : Nat), ∃ (c : Nat), ∃ (h' : AHeap), ACall Try.prog (136 : Nat) [Value.slice (some (Addr.mk (Prod.fst (Prod.snd i)) (0 : Nat) (some (1 : Nat)))) (8 : Nat) (Prod.fst (Prod.snd (Prod.snd i))), Value.string s] (BX.g (Prod.snd (Prod.snd (Prod.snd i)))) (Value.slice a n c) h' ∧ ∃ (j : Nat × Nat × Nat × BX), Value.slice (BX.a (Prod.snd (Prod.snd (Prod.snd i)))) (BX.n (Prod.snd (Prod.snd (Prod.snd i)))) (BX.c (Prod.snd (Prod.snd (Prod.snd i)))) = Value.slice (BX.a (Prod.snd (Prod.snd (Prod.snd j)))) (BX.n (Prod.snd (Prod.snd (Prod.snd j)))) (BX.c (Prod.snd (Prod.snd (Prod.snd j)))) ∧ Value.slice a n c = Value.slice (some (Addr.mk (Prod.fst (Prod.snd j)) (0 : Nat) (some (1 : Nat)))) (8 : Nat) (Prod.fst (Prod.snd (Prod.snd j))) ∧ Value.int IntKind.i64 (IntKind.wrap IntKind.i64 ((64 : Int) * (↑(Prod.fst i) : Int) + (64 : Int))) = Value.int IntKind.i64 ((64 : Int) * (↑(Prod.fst j) : Int)) ∧ BX.g (Prod.snd (Prod.snd (Prod.snd j))) = h' ∧ ((64 : Nat) * Prod.fst j ≤ BX.n (Prod.snd (Prod.snd (Prod.snd j))) ∧ BXok h (Prod.snd (Prod.snd (Prod.snd j))) ∧ BX.n (Prod.snd (Prod.snd (Prod.snd j))) % (64 : Nat) = (0 : Nat) ∧ BX.n (Prod.snd (Prod.snd (Prod.snd j))) ≤ ByteArray.size t + (72 : Nat) ∧ NRow IntKind.i64 (BX.g (Prod.snd (Prod.snd (Prod.snd j)))) (Prod.fst (Prod.snd j)) (8 : Nat)) ∧ BX.n (Prod.snd (Prod.snd (Prod.snd j))) - (64 : Nat) * Prod.fst j < BX.n (Prod.snd (Prod.snd (Prod.snd i))) - (64 : Nat) * Prod.fst i ∧ (∀ (k : Nat × Nat × AHeap), AHeap.Le h (Prod.snd (Prod.snd k)) ∧ AHeap.wf (Prod.snd (Prod.snd k)) ∧ NRow IntKind.i64 (Prod.snd (Prod.snd k)) (Prod.fst k) (8 : Nat) → AHeap.Le h (Prod.snd (Prod.snd k)) ∧ AHeap.wf (Prod.snd (Prod.snd k)) ∧ NRow IntKind.i64 (Prod.snd (Prod.snd k)) (Prod.fst k) (8 : Nat)) ∧ ∀ (v : Value) (h : AHeap), False → False) (∃ (j : Nat × Nat × AHeap), Value.slice (some (Addr.mk (Prod.fst (Prod.snd i)) (0 : Nat) (some (1 : Nat)))) (8 : Nat) (Prod.fst (Prod.snd (Prod.snd i))) = Value.slice (some (Addr.mk (Prod.fst j) (0 : Nat) (some (1 : Nat)))) (8 : Nat) (Prod.fst (Prod.snd j)) ∧ Prod.snd (Prod.snd j) = BX.g (Prod.snd (Prod.snd (Prod.snd i))) ∧ AHeap.Le h (Prod.snd (Prod.snd j)) ∧ AHeap.wf (Prod.snd (Prod.snd j)) ∧ NRow IntKind.i64 (Prod.snd (Prod.snd j)) (Prod.fst j) (8 : Nat))) ∧ (True ∧ True ∧ True) ∧ True ∧ True) ∧ True ∧ (True ∧ (∀ (i : Nat × AHeap × Nat × Nat × BX), Prod.fst i ≤ (8 : Nat) ∧ AHeap.Le h (Prod.fst (Prod.snd i)) ∧ NRow IntKind.i64 (Prod.fst (Prod.snd i)) (Prod.fst (Prod.snd (Prod.snd i))) (8 : Nat) ∧ BXok (Prod.fst (Prod.snd i)) (Prod.snd (Prod.snd (Prod.snd (Prod.snd i)))) ∧ BX.n (Prod.snd (Prod.snd (Prod.snd (Prod.snd i)))) = (4 : Nat) * Prod.fst i → bs (decide ((↑(Prod.fst i) : Int) < (8 : Int))) (∃ (l : Nat), ∃ (r : Nat), some (Addr.mk (Prod.fst (Prod.snd (Prod.snd i))) (0 : Nat) (some (1 : Nat))) = some (Addr.mk l r (some (1 : Nat))) ∧ (0 : Int) ≤ (↑(Prod.fst i) : Int) ∧ (↑(Prod.fst i) : Int) < (↑(8 : Nat) : Int) ∧ ∃ (x : Int), AHeap.ld (BX.g (Prod.snd (Prod.snd (Prod.snd (Prod.snd i))))) l (r + Int.toNat (↑(Prod.fst i) : Int)) (0 : Nat) (1 : Nat) = some [Value.int IntKind.i64 x] ∧ (0 : Int) ≤ (24 : Int) ∧ (0 : Int) ≤ (16 : Int) ∧ (0 : Int) ≤ (8 : Int) ∧ ∃ (xs : List (List Value)), rowsV (AHeap.push (BX.g (Prod.snd (Prod.snd (Prod.snd (Prod.snd i))))) (AObj.mk [[Value.int IntKind.u8 (IntKind.wrap IntKind.u8 (Int.fdiv x ((2 : Int) ^ min (Int.toNat (24 : Int)) (IntKind.bits IntKind.i64))))], [Value.int IntKind.u8 (IntKind.wrap IntKind.u8 (Int.fdiv x ((2 : Int) ^ min (Int.toNat (16 : Int)) (IntKind.bits IntKind.i64))))], [Value.int IntKind.u8 (IntKind.wrap IntKind.u8 (Int.fdiv x ((2 : Int) ^ min (Int.toNat (8 : Int)) (IntKind.bits IntKind.i64))))], [Value.int IntKind.u8 (IntKind.wrap IntKind.u8 x)]] (1 : Nat) true)) (Value.slice (some (Addr.mk (AHeap.n (BX.g (Prod.snd (Prod.snd (Prod.snd (Prod.snd i)))))) (0 : Nat) (some (1 : Nat)))) (4 : Nat) (5 : Nat)) = some xs ∧ (List.all xs fun (row : List Value) => decide (List.length row = (1 : Nat)) && List.all row fun (v : Value) => match v with | Value.agg cells => false | Value.tuple cells => false | Value.complex k re im => false | Value.chan r => false | x => true) = true ∧ (BX.n (Prod.snd (Prod.snd (Prod.snd (Prod.snd i)))) + List.length xs) * (1 : Nat) ≤ (140737488355328 : Nat) ∧ ∃ (a : Option Addr), ∃ (n : Nat), ∃ (c : Nat), ∃ (h' : AHeap), AHeap.app (AHeap.push (BX.g (Prod.snd (Prod.snd (Prod.snd (Prod.snd i))))) (AObj.mk [[Value.int IntKind.u8 (IntKind.wrap IntKind.u8 (Int.fdiv x ((2 : Int) ^ min (Int.toNat (24 : Int)) (IntKind.bits IntKind.i64))))], [Value.int IntKind.u8 (IntKind.wrap IntKind.u8 (Int.fdiv x ((2 : Int) ^ min (Int.toNat (16 : Int)) (IntKind.bits IntKind.i64))))], [Value.int IntKind.u8 (IntKind.wrap IntKind.u8 (Int.fdiv x ((2 : Int) ^ min (Int.toNat (8 : Int)) (IntKind.bits IntKind.i64))))], [Value.int IntKind.u8 (IntKind.wrap IntKind.u8 x)]] (1 : Nat) true)) (Value.slice (BX.a (Prod.snd (Prod.snd (Prod.snd (Prod.snd i))))) (BX.n (Prod.snd (Prod.snd (Prod.snd (Prod.snd i))))) (BX.c (Prod.snd (Prod.snd (Prod.snd (Prod.snd i)))))) xs (1 : Nat) = some (Value.slice a n c, h') ∧ ∃ (j : Nat × AHeap × Nat × Nat × BX), Value.slice (some (Addr.mk (Prod.fst (Prod.snd (Prod.snd i))) (0 : Nat) (some (1 : Nat)))) (8 : Nat) (Prod.fst (Prod.snd (Prod.snd (Prod.snd i)))) = Value.slice (some (Addr.mk (Prod.fst (Prod.snd (Prod.snd j))) (0 : Nat) (some (1 : Nat)))) (8 : Nat) (Prod.fst (Prod.snd (Prod.snd (Prod.snd j)))) ∧ Value.slice a n c = Value.slice (BX.a (Prod.snd (Prod.snd (Prod.snd (Prod.snd j))))) (BX.n (Prod.snd (Prod.snd (Prod.snd (Prod.snd j))))) (BX.c (Prod.snd (Prod.snd (Prod.snd (Prod.snd j))))) ∧ Value.int IntKind.i64 (IntKind.wrap IntKind.i64 ((↑(Prod.fst i) : Int) + (1 : Int))) = Value.int IntKind.i64 (↑(Prod.fst j) : Int) ∧ BX.g (Prod.snd (Prod.snd (Prod.snd (Prod.snd j)))) = h' ∧ (Prod.fst j ≤ (8 : Nat) ∧ AHeap.Le h (Prod.fst (Prod.snd j)) ∧ NRow IntKind.i64 (Prod.fst (Prod.snd j)) (Prod.fst (Prod.snd (Prod.snd j))) (8 : Nat) ∧ BXok (Prod.fst (Prod.snd j)) (Prod.snd (Prod.snd (Prod.snd (Prod.snd j)))) ∧ BX.n (Prod.snd (Prod.snd (Prod.snd (Prod.snd j)))) = (4 : Nat) * Prod.fst j) ∧ (8 : Nat) - Prod.fst j < (8 : Nat) - Prod.fst i ∧ (∀ (k : BX), (∃ (h1 : AHeap), AHeap.Le h h1 ∧ BXok h1 k) → ∃ (h1 : AHeap), AHeap.Le h h1 ∧ BXok h1 k) ∧ ∀ (v : Value) (h : AHeap), False → False) (∃ (j : BX), Value.slice (BX.a (Prod.snd (Prod.snd (Prod.snd (Prod.snd i))))) (BX.n (Prod.snd (Prod.snd (Prod.snd (Prod.snd i))))) (BX.c (Prod.snd (Prod.snd (Prod.snd (Prod.snd i))))) = Value.slice (BX.a j) (BX.n j) (BX.c j) ∧ BX.g j = BX.g (Prod.snd (Prod.snd (Prod.snd (Prod.snd i)))) ∧ ∃ (h1 : AHeap), AHeap.Le h h1 ∧ BXok h1 j)) ∧ (True ∧ True ∧ True) ∧ (True ∧ True) ∧ True) ∧ True ∧ True) = _) ?_
    simp only [true_and, and_true]
    refine ⟨?_, ?_, ?_, ?_⟩
    · rintro x ⟨B, h1, h2⟩
      have hle : x.n ≤ t.size + 64 := by
        have := h2 (t.size + 1 + (56 + 64 - (t.size + 1) % 64) % 64)
        omega
      refine ⟨by omega, bs_dn (fun hne => ?_) (fun heq => ⟨x, rfl, rfl, B, ?_, hle⟩)⟩
      · obtain ⟨y, e, B', hn⟩ := B.lit [0] (by simp)
        have hn' : y.n = x.n + 1 := hn
        refine ⟨_, rowsV_lit rfl, rfl, by simp only [List.length_cons, List.length_nil]; omega, _, _, _, _, e, y, rfl, rfl, ⟨B', by omega, fun m hm1 hm2 => ?_⟩, by omega, fun _ h => h, fun _ _ h => h⟩
        by_cases em : m = x.n
        · subst em
          intro e56
          apply hne
          rw [Int.tmod_eq_emod_of_nonneg (by omega)]; omega
        · exact h2 m hm1 (by omega)
      · rw [Int.tmod_eq_emod_of_nonneg (by omega)] at heq; omega
    · rintro ⟨i, x⟩ ⟨hi, B, h1, h2⟩
      dsimp only at *
      refine bs_d (fun hlt => ?_) (fun hge => ⟨x, rfl, rfl, B, by omega, by omega⟩)
      obtain ⟨y, e, B', hn⟩ := B.lit [IntKind.u8.wrap ((IntKind.u64.wrap (IntKind.i64.wrap (8 * (t.size : Int)))).fdiv (2 ^ min (IntKind.u64.wrap (56 - 8 * (i : Int))).toNat IntKind.u64.bits))] (fun v hv => by
        simp only [List.mem_cons, List.not_mem_nil, or_false] at hv
        rw [hv]; exact u8_bd _)
      have hn' : y.n = x.n + 1 := hn
      exact ⟨(u64_wrap_bd _).1, _, rowsV_lit rfl, rfl, by simp only [List.length_cons, List.length_nil]; omega, _, _, _, _, e, (i + 1, y), rfl, by rw [wrap_i64 (by omega)]; dsimp only; congr 1; omega, rfl, ⟨by dsimp only; omega, B', by dsimp only; omega, by dsimp only; omega⟩, by dsimp only; omega, fun _ h => h, fun _ _ h => h⟩
    · rintro ⟨i, ls, cs, x⟩ ⟨hi, B, h1, h2, rs⟩
      dsimp only at *
      refine bs_d (fun hlt => ?_) (fun hge => ⟨(ls, cs, x.g), rfl, rfl, B.le, B.wf, rs⟩)
      rw [wrap_i64 (n := 64 * (i : Int) + 64) (by omega)]
      have hrows := B.rows
      have hbl := bytesRows_len x.b
      have hbn : x.b.size = x.n := B.nb
      obtain ⟨l, hl, hg⟩ : ∃ l, x.a = some ⟨l, 0, some 1⟩ ∧ x.g.get l = some ⟨bytesRows x.b, 1, true⟩ := by
        rcases B.at_ with ⟨_, h0, _⟩ | ⟨l, e, _, hg, _⟩
        · omega
        · exact ⟨l, e, hg⟩
      obtain ⟨sb, hsb⟩ := bytes_part x.b (64 * i) 64
      have hsz : sb.size = 64 := by
        rw [← bytesRows_len, ← hsb, List.length_take, List.length_drop, hbl]; omega
      obtain ⟨v5, g5, A5, le5, w5, l5, c5, rfl, hl5, rs5⟩ := l02Block_spec x.g B.wf ls cs rs sb hsz
      refine ⟨by omega, by omega, .inl (by omega), fun y hy => by rw [hl] at hy; cases hy; rfl, sb, ?_, _, _, _, _, A5, (i + 1, l5, c5, ⟨x.a, x.n, x.c, x.b, g5⟩), rfl, rfl, by dsimp only; congr 1 <;> omega, rfl, ⟨by dsimp only; omega, BInv.grow B le5 w5, h1, h2, rs5⟩, by dsimp only; omega, fun _ h => h, fun _ _ h => h⟩
      rw [hl, ← hsb]
      show x.g.rowsOf (.slice (some ⟨l, 0 + (64 * (i : Int)).toNat, some 1⟩) _ _) = _
      rw [get_rowsOf hg (by rw [hbl]; omega)]
      congr 2
      · omega
      · congr 1; omega
    · rintro ⟨i, h1, ls, cs, x⟩ ⟨hi, le, rs, B, h4⟩
      dsimp only at *
      refine bs_d (fun hlt => ?_) (fun hge => ⟨x, rfl, rfl, h1, le, B⟩)
      obtain ⟨x1, d1⟩ := (rs.le B.le).ld (i := i) (by omega)
      have fi : 0 + (i : Int).toNat = i := by omega
      obtain ⟨y, e, B', hn⟩ := B.lit [IntKind.u8.wrap (x1.fdiv (2 ^ min (Int.toNat 24) IntKind.i64.bits)), IntKind.u8.wrap (x1.fdiv (2 ^ min (Int.toNat 16) IntKind.i64.bits)), IntKind.u8.wrap (x1.fdiv (2 ^ min (Int.toNat 8) IntKind.i64.bits)), IntKind.u8.wrap x1] (fun v hv => by
        simp only [List.mem_cons, List.not_mem_nil, or_false] at hv
        rcases hv with rfl | rfl | rfl | rfl <;> exact u8_bd _)
      have hn' : y.n = x.n + 4 := hn
      exact ⟨ls, 0, rfl, by omega, by omega, x1, by rw [fi]; exact d1, by omega, by omega, by omega, _, rowsV_lit rfl, rfl, by simp only [List.length_cons, List.length_nil]; omega, _, _, _, _, e, (i + 1, h1, ls, cs, y), rfl, rfl, by rw [wrap_i64 (by omega)]; rfl, rfl, ⟨by dsimp only; omega, le, rs, B', by dsimp only; omega⟩, by dsimp only; omega, fun _ h => h, fun _ _ h => h⟩
  refine vc_mp (by kernel_rfl : (∃ (xs : List (List Value)), rowsV (AHeap.push (AHeap.push h (AObj.mk (bytesRows t) (1 : Nat) true)) (AObj.mk [[Value.int IntKind.u8 (128 : Int)]] (1 : Nat) true)) (Value.slice (some (Addr.mk (AHeap.n (AHeap.push h (AObj.mk (bytesRows t) (1 : Nat) true))) (0 : Nat) (some (1 : Nat)))) (1 : Nat) (2 : Nat)) = some xs ∧ (List.all xs fun (row : List Value) => decide (List.length row = (1 : Nat)) && List.all row fun (v : Value) => match v with | Value.agg cells => false | Value.tuple cells => false | Value.complex k re im => false | Value.chan r => false | x => true) = true ∧ (ByteArray.size t + List.length xs) * (1 : Nat) ≤ (140737488355328 : Nat) ∧ ∃ (a : Option Addr), ∃ (n : Nat), ∃ (c : Nat), ∃ (h' : AHeap), AHeap.app (AHeap.push (AHeap.push h (AObj.mk (bytesRows t) (1 : Nat) true)) (AObj.mk [[Value.int IntKind.u8 (128 : Int)]] (1 : Nat) true)) (Value.slice (some (Addr.mk (AHeap.n h) (0 : Nat) (some (1 : Nat)))) (ByteArray.size t) (0 : Nat)) xs (1 : Nat) = some (Value.slice a n c, h') ∧ ∃ (i : BX), Value.string t = Value.string t ∧ Value.slice a n c = Value.slice (BX.a i) (BX.n i) (BX.c i) ∧ BX.g i = h' ∧ (BXok h i ∧ ByteArray.size t + (1 : Nat) ≤ BX.n i ∧ ∀ (m : Nat), ByteArray.size t + (1 : Nat) ≤ m → m < BX.n i → m % (64 : Nat) ≠ (56 : Nat)) ∧ (∀ (j : BX), BXok h j ∧ BX.n j % (64 : Nat) = (56 : Nat) ∧ BX.n j ≤ ByteArray.size t + (64 : Nat) → ∃ (i : Nat × BX), Value.slice (BX.a j) (BX.n j) (BX.c j) = Value.slice (BX.a (Prod.snd i)) (BX.n (Prod.snd i)) (BX.c (Prod.snd i)) ∧ Value.int IntKind.u64 (IntKind.wrap IntKind.u64 (IntKind.wrap IntKind.i64 ((8 : Int) * (↑(ByteArray.size t) : Int)))) = Value.int IntKind.u64 (IntKind.wrap IntKind.u64 (IntKind.wrap IntKind.i64 ((8 : Int) * (↑(ByteArray.size t) : Int)))) ∧ Value.int IntKind.i64 (56 : Int) = Value.int IntKind.i64 ((56 : Int) - (8 : Int) * (↑(Prod.fst i) : Int)) ∧ BX.g (Prod.snd i) = BX.g j ∧ (Prod.fst i ≤ (8 : Nat) ∧ BXok h (Prod.snd i) ∧ (BX.n (Prod.snd i) + (8 : Nat) - Prod.fst i) % (64 : Nat) = (0 : Nat) ∧ BX.n (Prod.snd i) ≤ ByteArray.size t + (64 : Nat) + Prod.fst i) ∧ (∀ (j : BX), BXok h j ∧ BX.n j % (64 : Nat) = (0 : Nat) ∧ BX.n j ≤ ByteArray.size t + (72 : Nat) → ∃ (a : Option Addr), ∃ (n : Nat), ∃ (c : Nat), ∃ (h' : AHeap), ACall Try.prog (135 : Nat) [] (BX.g j) (Value.slice a n c) h' ∧ ∃ (i : Nat × Nat × Nat × BX), Value.slice (BX.a j) (BX.n j) (BX.c j) = Value.slice (BX.a (Prod.snd (Prod.snd (Prod.snd i)))) (BX.n (Prod.snd (Prod.snd (Prod.snd i)))) (BX.c (Prod.snd (Prod.snd (Prod.snd i)))) ∧ Value.slice a n c = Value.slice (some (Addr.mk (Prod.fst (Prod.snd i)) (0 : Nat) (some (1 : Nat)))) (8 : Nat) (Prod.fst (Prod.snd (Prod.snd i))) ∧ Value.int IntKind.i64 (0 : Int) = Value.int IntKind.i64 ((64 : Int) * (↑(Prod.fst i) : Int)) ∧ BX.g (Prod.snd (Prod.snd (Prod.snd i))) = h' ∧ ((64 : Nat) * Prod.fst i ≤ BX.n (Prod.snd (Prod.snd (Prod.snd i))) ∧ BXok h (Prod.snd (Prod.snd (Prod.snd i))) ∧ BX.n (Prod.snd (Prod.snd (Prod.snd i))) % (64 : Nat) = (0 : Nat) ∧ BX.n (Prod.snd (Prod.snd (Prod.snd i))) ≤ ByteArray.size t + (72 : Nat) ∧ NRow IntKind.i64 (BX.g (Prod.snd (Prod.snd (Prod.snd i)))) (Prod.fst (Prod.snd i)) (8 : Nat)) ∧ (∀ (j : Nat × Nat × AHeap), AHeap.Le h (Prod.snd (Prod.snd j)) ∧ AHeap.wf (Prod.snd (Prod.snd j)) ∧ NRow IntKind.i64 (Prod.snd (Prod.snd j)) (Prod.fst j) (8 : Nat) → ∃ (i : Nat × AHeap × Nat × Nat × BX), Value.slice (some (Addr.mk (Prod.fst j) (0 : Nat) (some (1 : Nat)))) (8 : Nat) (Prod.fst (Prod.snd j)) = Value.slice (some (Addr.mk (Prod.fst (Prod.snd (Prod.snd i))) (0 : Nat) (some (1 : Nat)))) (8 : Nat) (Prod.fst (Prod.snd (Prod.snd (Prod.snd i)))) ∧ Value.slice (some (Addr.mk (AHeap.n (Prod.snd (Prod.snd j))) (0 : Nat) (some (1 : Nat)))) (0 : Nat) (1 : Nat) = Value.slice (BX.a (Prod.snd (Prod.snd (Prod.snd (Prod.snd i))))) (BX.n (Prod.snd (Prod.snd (Prod.snd (Prod.snd i))))) (BX.c (Prod.snd (Prod.snd (Prod.snd (Prod.snd i))))) ∧ Value.int IntKind.i64 (0 : Int) = Value.int IntKind.i64 (↑(Prod.fst i) : Int) ∧ BX.g (Prod.snd (Prod.snd (Prod.snd (Prod.snd i)))) = AHeap.push (Prod.snd (Prod.snd j)) (AObj.mk [] (1 : Nat) true) ∧ (Prod.fst i ≤ (8 : Nat) ∧ AHeap.Le h (Prod.fst (Prod.snd i)) ∧ NRow IntKind.i64 (Prod.fst (Prod.snd i)) (Prod.fst (Prod.snd (Prod.snd i))) (8 : Nat) ∧ BXok (Prod.fst (Prod.snd i)) (Prod.snd (Prod.snd (Prod.snd (Prod.snd i)))) ∧ BX.n (Prod.snd (Prod.snd (Prod.snd (Prod.snd i)))) = (4 : Nat) * Prod.fst i) ∧ (∀ (j : BX), (∃ (h1 : AHeap), AHeap.Le h h1 ∧ BXok h1 j) → ∃ (s : ByteArray), AHeap.rowsOf (BX.g j) (Value.slice (BX.a j) (BX.n j) (BX.c j)) = some (bytesRows s) ∧ Q (Value.string s) (BX.g j)) ∧ ∀ (v : Value) (h : AHeap), False → Q v h) ∧ ∀ (v : Value) (h : AHeap), False → Q v h) ∧ ∀ (v : Value) (h : AHeap), False → Q v h) ∧ ∀ (v : Value) (h : AHeap), False → Q v h) = _) ?_
  have lp := AHeap.Le.push hw ⟨bytesRows t, 1, true⟩
  have B0 : BXok h ⟨some ⟨h.n, 0, some 1⟩, t.size, 0, t, h.push ⟨bytesRows t, 1, true⟩⟩ := ⟨lp, hw.push _, hw, rfl, .inr ⟨h.n, rfl, Nat.le_refl _, AHeap.get_push_eq, .inl rfl⟩⟩
  obtain ⟨x, e, B, hn⟩ := B0.lit [128] (by simp)
  have hn' : x.n = t.size + 1 := hn
  refine ⟨_, rowsV_lit rfl, rfl, by simp only [List.length_cons, List.length_nil]; omega, _, _, _, _, e, x, rfl, rfl, rfl, ⟨B, by omega, fun m h1 h2 => by omega⟩, fun x ⟨B, h1, h2⟩ => ?_, fun _ _ h => h.elim⟩
  refine ⟨(0, x), rfl, rfl, rfl, rfl, ⟨by dsimp only; omega, B, by dsimp only; omega, by dsimp only; omega⟩, fun x ⟨B, h1, h2⟩ => ?_, fun _ _ h => h.elim⟩
  obtain ⟨_, h5, A5, le5, w5, rfl, rk⟩ := l02Start_spec x.g B.wf
  refine ⟨_, _, _, _, A5, (0, x.g.n, 9, ⟨x.a, x.n, x.c, x.b, h5⟩), rfl, rfl, rfl, rfl, ⟨by dsimp only; omega, BInv.grow B le5 w5, h1, h2, rk⟩, fun ⟨ls, cs, g⟩ ⟨le, wf, rs⟩ => ?_, fun _ _ h => h.elim⟩
  dsimp only at *
  refine ⟨(0, g, ls, cs, ⟨some ⟨g.n, 0, some 1⟩, 0, 1, ⟨#[]⟩, g.push ⟨[], 1, true⟩⟩), rfl, rfl, rfl, rfl, ⟨by dsimp only; omega, le, rs, ⟨.push wf _, wf.push _, wf, rfl, .inr ⟨g.n, rfl, Nat.le_refl _, AHeap.get_push_eq, .inr rfl⟩⟩, rfl⟩, fun x ⟨h1, le1, B⟩ => ⟨x.b, B.rows, HQ _ _ ⟨le1.trans B.le, B.wf, x.b, rfl⟩⟩, fun _ _ h => h.elim⟩
end Go.Proofs.Ytanienlcebkijaa
end
section
namespace Go.Proofs.Ytanienlcebkijaa
open Go.Abs Go.Dat
set_option maxRecDepth 100000
set_option maxHeartbeats 4000000
end Go.Proofs.Ytanienlcebkijaa
end
section
namespace Go.Dat
open Go.Abs
def TopAt (ts : List topicSh.T) (i : Nat) : Prop := ∃ (n : ByteArray) (b : Int) (hs : List Sh.str.T) (gs : List groupSh.T), ts[i]? = some (n, b, hs, gs) ∧ TopicOk n b hs gs ∧ ∀ j, i = j + 1 → ∃ (m : ByteArray) (x : Int × List Sh.str.T × List groupSh.T), ts[j]? = some (m, x) ∧ Op.bytesLess m.toList n.toList = true
def RepAt (rs : List replySh.T) (i : Nat) : Prop := ∃ (c n : Int) (t : ByteArray), rs[i]? = some (c, n, t) ∧ (1 ≤ c ∧ c ≤ 9) ∧ (1 ≤ n ∧ n ≤ 1000000000) ∧ t.size ≤ 900 ∧ ∀ j, i = j + 1 → ∃ (d : Int) (x : Int × ByteArray), rs[j]? = some (d, x) ∧ d < c
def BrokerOk (ts : List topicSh.T) (rs : List replySh.T) : Prop := ts.length ≤ 4 ∧ rs.length ≤ 9 ∧ (∀ i, i < ts.length → TopAt ts i) ∧ ∀ i, i < rs.length → RepAt rs i
theorem TopAt.mk0 {ts : List topicSh.T} {n : ByteArray} {b : Int} {hs : List Sh.str.T} {gs : List groupSh.T} {i : Nat} (e : ts[i]? = some (n, b, hs, gs)) (h1 : TopicOk n b hs gs) (hi0 : i = 0) : TopAt ts i := ⟨n, b, hs, gs, e, h1, fun j hj => by omega⟩
theorem TopAt.out {ts : List topicSh.T} {n : ByteArray} {b : Int} {hs : List Sh.str.T} {gs : List groupSh.T} {i : Nat} (H : TopAt ts i) (e : ts[i]? = some (n, b, hs, gs)) : TopicOk n b hs gs ∧ ∀ m x, 0 < i → ts[i - 1]? = some (m, x) → Op.bytesLess m.toList n.toList = true := by
  obtain ⟨n', b', hs', gs', e', h1, h3⟩ := H
  rw [e] at e'
  cases e'
  refine ⟨h1, fun m l hp e2 => ?_⟩
  obtain ⟨m', l', e3, h4⟩ := h3 (i - 1) (by omega)
  rw [e2] at e3
  cases e3
  exact h4
theorem RepAt.mk0 {rs : List replySh.T} {c n : Int} {t : ByteArray} {i : Nat} (e : rs[i]? = some (c, n, t)) (h1 : 1 ≤ c ∧ c ≤ 9) (h2 : 1 ≤ n ∧ n ≤ 1000000000) (h3 : t.size ≤ 900) (hi0 : i = 0) : RepAt rs i := ⟨c, n, t, e, h1, h2, h3, fun j hj => by omega⟩
theorem RepAt.out {rs : List replySh.T} {c n : Int} {t : ByteArray} {i : Nat} (H : RepAt rs i) (e : rs[i]? = some (c, n, t)) : (1 ≤ c ∧ c ≤ 9) ∧ (1 ≤ n ∧ n ≤ 1000000000) ∧ t.size ≤ 900 ∧ ∀ (d : Int) (x : Int × ByteArray), 0 < i → rs[i - 1]? = some (d, x) → d < c := by
  obtain ⟨c', n', t', e', h1, h2, h3, h5⟩ := H
  rw [e] at e'
  cases e'
  refine ⟨h1, h2, h3, fun d x hp e2 => ?_⟩
  obtain ⟨d', x', e3, h4⟩ := h5 (i - 1) (by omega)
  rw [e2] at e3
  cases e3
  exact h4
end Go.Dat
namespace Go.Proofs.Ytanienlcebkijaa
open Go.Abs Go.Dat
set_option maxRecDepth 100000
set_option maxHeartbeats 4000000
end Go.Proofs.Ytanienlcebkijaa
end
section
namespace Go.Dat
open Go.Abs
end Go.Dat
namespace Go.Proofs.Ytanienlcebkijaa
open Go.Abs Go.Dat
set_option maxRecDepth 100000
set_option maxHeartbeats 4000000
end Go.Proofs.Ytanienlcebkijaa
end
section
namespace Go.Dat
open Go.Abs
def vt (t : ByteArray) : ByteArray := vb (foldN t.size) ++ t
end Go.Dat
namespace Go.Proofs.Ytanienlcebkijaa
open Go.Abs Go.Dat
set_option maxRecDepth 100000
set_option maxHeartbeats 4000000
end Go.Proofs.Ytanienlcebkijaa
end
section
namespace Go.Dat
open Go.Abs
def nb (n : Int) : ByteArray := vb (foldN n)
def grpB (g : groupSh.T) : ByteArray := cat [vt g.1, nb g.2]
def topPre (t : topicSh.T) (j : Nat) : List ByteArray := [vt t.1, nb t.2.1, nb t.2.2.1.length] ++ (t.2.2.1.take j).map vt
def topPre2 (t : topicSh.T) (j : Nat) : List ByteArray := topPre t t.2.2.1.length ++ [nb t.2.2.2.length] ++ (t.2.2.2.take j).map grpB
def topB (t : topicSh.T) : ByteArray := cat (topPre2 t t.2.2.2.length)
def repB (r : replySh.T) : ByteArray := cat [nb r.1, nb r.2.1, vt r.2.2]
def brkPre (ts : List topicSh.T) (i : Nat) : List ByteArray := [nb ts.length] ++ (ts.take i).map topB
def brkPre2 (ts : List topicSh.T) (rs : List replySh.T) (j : Nat) : List ByteArray := brkPre ts ts.length ++ [nb rs.length] ++ (rs.take j).map repB
theorem cat_size_app (L M : List ByteArray) : (cat (L ++ M)).size = (cat L).size + (cat M).size := by rw [cat_append, ByteArray.size_append]
theorem cat_size_cons (x : ByteArray) (L : List ByteArray) : (cat (x :: L)).size = x.size + (cat L).size := ByteArray.size_append
theorem cat_size_nil : (cat []).size = 0 := rfl
theorem cat_map_take {α : Type} {f : α → ByteArray} {m : Nat} : ∀ {xs : List α} (_ : ∀ x ∈ xs, (f x).size ≤ m) (j : Nat), (cat ((xs.take j).map f)).size ≤ m * xs.length
  | [], _, j => by rw [List.take_nil]; exact Nat.zero_le _
  | x :: xs, h, 0 => Nat.zero_le _
  | x :: xs, h, j + 1 => by
    have h1 := h x List.mem_cons_self
    have h2 := cat_map_take (xs := xs) (fun y hy => h y (List.mem_cons_of_mem _ hy)) j
    rw [List.take_succ_cons, List.map_cons, cat_size_cons, List.length_cons, Nat.mul_succ]; omega
theorem nb_size {n : Int} (h : -9223372036854775808 ≤ n ∧ n ≤ 9223372036854775807) : (nb n).size ≤ 10 := vb_size 9 _ (by have := foldN_lt h; omega)
theorem vt_size' {t : ByteArray} (h : t.size ≤ 1000000000) : (vt t).size ≤ t.size + 10 := by
  have := nb_size (n := t.size) (by omega)
  unfold vt; rw [ByteArray.size_append]; unfold nb at this; omega
def InR (lo hi x : Int) : Prop := lo ≤ x ∧ x ≤ hi
theorem nb_sz {lo hi n : Int} (h : InR lo hi n) (h1 : -9223372036854775808 ≤ lo) (h2 : hi ≤ 9223372036854775807) : (nb n).size ≤ 10 := nb_size (by unfold InR at h; omega)
structure TopSz (t : topicSh.T) : Prop where
  nm : t.1.size ≤ 20
  bs : InR 0 1000000000 t.2.1
  hl : t.2.2.1.length ≤ 20
  gl : t.2.2.2.length ≤ 4
  hs : ∀ m ∈ t.2.2.1, ByteArray.size m ≤ 40
  gs : ∀ g ∈ t.2.2.2, ByteArray.size g.1 ≤ 20 ∧ InR 0 2000000000 g.2
theorem TopicOk.sz {n : ByteArray} {b : Int} {hs : List Sh.str.T} {gs : List groupSh.T} (H : TopicOk n b hs gs) : TopSz (n, b, hs, gs) := by
  obtain ⟨h1, h2, h3, h4, h5, h6, h7⟩ := H
  refine ⟨h1.2.1, h2, h3, h4, fun m hm => ?_, fun g hg => ?_⟩
  · obtain ⟨i, hi⟩ := List.mem_iff_getElem?.1 hm
    have := (h6 i (List.getElem?_eq_some_iff.1 hi).1).out hi
    exact this.2
  · obtain ⟨i, hi⟩ := List.mem_iff_getElem?.1 hg
    obtain ⟨gn, (gk : Int)⟩ := g
    have := (h7 i (List.getElem?_eq_some_iff.1 hi).1).out (n := gn) (k := gk) hi
    refine ⟨this.1.2.1, ?_⟩
    show (0 : Int) ≤ gk ∧ gk ≤ 2000000000
    have h8 : hs.length ≤ 20 := h3
    omega
theorem TopSz.grp {t : topicSh.T} (H : TopSz t) : ∀ g ∈ t.2.2.2, (grpB g).size ≤ 40 := fun g hg => by
  have h1 := H.gs g hg
  have h2 := vt_size' (t := g.1) (by omega)
  have h3 := nb_sz h1.2 (by omega) (by omega)
  unfold grpB
  simp only [cat_size_cons, cat_size_nil]; omega
theorem TopSz.pre {t : topicSh.T} (H : TopSz t) (j : Nat) : (cat (topPre t j)).size ≤ 1050 := by
  have h1 := vt_size' (t := t.1) (by have := H.nm; omega)
  have h2 := nb_sz H.bs (by omega) (by omega)
  have h3 := nb_size (n := t.2.2.1.length) (by have := H.hl; omega)
  have h4 := cat_map_take (f := vt) (m := 50) (xs := t.2.2.1) (fun x hx => by have h5 := H.hs x hx; have := vt_size' (t := x) (by omega); omega) j
  have h5 := H.hl
  have h6 := H.nm
  have : 50 * t.2.2.1.length ≤ 1000 := by omega
  unfold topPre
  rw [cat_size_app]
  simp only [cat_size_cons, cat_size_nil]
  omega
theorem TopSz.pre2 {t : topicSh.T} (H : TopSz t) (j : Nat) : (cat (topPre2 t j)).size ≤ 1300 := by
  have h1 := H.pre t.2.2.1.length
  have h3 := nb_size (n := t.2.2.2.length) (by have := H.gl; omega)
  have h4 := cat_map_take H.grp j
  have h5 := H.gl
  unfold topPre2
  rw [cat_size_app, cat_size_app]
  simp only [cat_size_cons, cat_size_nil]
  omega
structure BrkSz (ts : List topicSh.T) (rs : List replySh.T) : Prop where
  tl : ts.length ≤ 4
  rl : rs.length ≤ 9
  ts : ∀ t ∈ ts, TopSz t
  rs : ∀ r ∈ rs, InR 1 9 r.1 ∧ InR 1 1000000000 r.2.1 ∧ ByteArray.size r.2.2 ≤ 900
theorem BrokerOk.sz {ts : List topicSh.T} {rs : List replySh.T} (H : BrokerOk ts rs) : BrkSz ts rs := by
  obtain ⟨h1, h2, h3, h4⟩ := H
  refine ⟨h1, h2, fun t ht => ?_, fun r hr => ?_⟩
  · obtain ⟨i, hi⟩ := List.mem_iff_getElem?.1 ht
    exact TopicOk.sz ((h3 i (List.getElem?_eq_some_iff.1 hi).1).out (n := t.1) (b := t.2.1) (hs := t.2.2.1) (gs := t.2.2.2) hi).1
  · obtain ⟨i, hi⟩ := List.mem_iff_getElem?.1 hr
    have := (h4 i (List.getElem?_eq_some_iff.1 hi).1).out (c := r.1) (n := r.2.1) (t := r.2.2) hi
    exact ⟨this.1, this.2.1, this.2.2.1⟩
theorem BrkSz.pre {ts : List topicSh.T} {rs : List replySh.T} (H : BrkSz ts rs) (i : Nat) : (cat (brkPre ts i)).size ≤ 5300 := by
  have h1 := nb_size (n := ts.length) (by have := H.tl; omega)
  have h2 := cat_map_take (f := topB) (m := 1300) (xs := ts) (fun t ht => (H.ts t ht).pre2 _) i
  have h3 := H.tl
  unfold brkPre
  rw [cat_size_app]
  simp only [cat_size_cons, cat_size_nil]
  omega
theorem BrkSz.rep {ts : List topicSh.T} {rs : List replySh.T} (H : BrkSz ts rs) : ∀ r ∈ rs, (repB r).size ≤ 930 := fun r hr => by
  obtain ⟨h1, h2, h3⟩ := H.rs r hr
  have h4 := nb_sz h1 (by omega) (by omega)
  have h5 := nb_sz h2 (by omega) (by omega)
  have h6 := vt_size' (t := r.2.2) (by omega)
  unfold repB
  simp only [cat_size_cons, cat_size_nil]; omega
theorem BrkSz.pre2 {ts : List topicSh.T} {rs : List replySh.T} (H : BrkSz ts rs) (j : Nat) : (cat (brkPre2 ts rs j)).size ≤ 14000 := by
  have h1 := H.pre ts.length
  have h2 := nb_size (n := rs.length) (by have := H.rl; omega)
  have h3 := cat_map_take H.rep j
  have h4 := H.rl
  unfold brkPre2
  rw [cat_size_app, cat_size_app]
  simp only [cat_size_cons, cat_size_nil]
  omega
end Go.Dat
namespace Go.Proofs.Ytanienlcebkijaa
open Go.Abs Go.Dat
set_option maxRecDepth 100000
set_option maxHeartbeats 8000000
end Go.Proofs.Ytanienlcebkijaa
end
section
namespace Go.Dat
open Go.Abs
def bN (t : ByteArray) (k : Nat) : Nat := (t.data.toList.getD k 0).toNat
def gn (t : ByteArray) (a i u : Nat) : Option (Nat × Nat) :=
  if t.size ≤ a + i then none
  else if i = 9 ∧ 1 < bN t (a + i) then none
  else if 127 < bN t (a + i) then gn t a (i + 1) (u + bN t (a + i) % 128 * 128 ^ i)
  else if bN t (a + i) = 0 ∧ 0 < i then none
  else some (u + bN t (a + i) * 128 ^ i, a + i + 1)
termination_by t.size - (a + i)
decreasing_by omega
def unfoldN (u : Nat) : Int := if u % 2 = 1 then -((u / 2 : Nat) : Int) - 1 else ((u / 2 : Nat) : Int)
end Go.Dat
namespace Go.Proofs.Ytanienlcebkijaa
open Go.Abs Go.Dat
set_option maxRecDepth 100000
set_option maxHeartbeats 8000000
end Go.Proofs.Ytanienlcebkijaa
end
