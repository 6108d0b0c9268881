/- Contracts: the bytes of brokers, in the reference. -/
import Derived.Test.YtdcijleeoihlfaaV8S1
namespace Go.Dat
open Go.Abs
theorem a3 (A : List ByteArray) (x y z : ByteArray) : Append.append (Append.append (Append.append (cat A) x) y) z = cat (A ++ [x, y, z]) := by
  rw [app1, app1, app1]; simp only [List.append_assoc]; rfl
theorem a2 (A : List ByteArray) (x y : ByteArray) : Append.append (Append.append (cat A) x) y = cat (A ++ [x, y]) := by
  rw [app1, app1]; simp only [List.append_assoc]; rfl
end Go.Dat
namespace Go.Proofs.Ytdcijleeoihlfaa
open Go.Abs Go.Dat
set_option maxRecDepth 100000
set_option maxHeartbeats 8000000
def sbL (ts : List topicSh.T) (rs : List replySh.T) (a1 : Option Addr) (c1 : Nat) (a2 : Option Addr) (c2 : Nat) (h : AHeap) : Nat → LSpec
  | 0 => {
    ι := Nat × AHeap
    κ := AHeap
    I := fun i => i.1 ≤ ts.length ∧ h.Le i.2 ∧ i.2.wf
    μ := fun i => ts.length - i.1
    head := fun i => ⟨[(1, .complex .f32 0 0), (3, .string (cat (brkPre ts i.1))), (4, .int .i64 i.1)], [[.slice a1 ts.length c1, .slice a2 rs.length c2]], i.2⟩
    post := fun j => ⟨[(1, .complex .f32 0 0), (3, .string (cat (brkPre ts ts.length)))], [[.slice a1 ts.length c1, .slice a2 rs.length c2]], j⟩
    R := fun _ j => h.Le j ∧ j.wf
    ret := fun _ _ _ => False }
  | 2 => {
    ι := BF × Nat × AHeap
    κ := BF × AHeap
    I := fun i => BI h ts i.1 i.2.2 ∧ i.2.1 ≤ i.1.2.1.2.2.1.length
    μ := fun i => i.1.2.1.2.2.1.length - i.2.1
    head := fun i => ⟨[(1, .complex .f32 0 0), (3, .string (cat (brkPre ts i.1.1 ++ topPre i.1.2.1 i.2.1))), (4, .int .i64 i.1.1), (5, .complex .f32 1 0), (6, .int .i64 i.2.1)],
      [[.slice a1 ts.length c1, .slice a2 rs.length c2], [.string i.1.2.1.1, .int .i64 i.1.2.1.2.1, .slice i.1.2.2.1 i.1.2.1.2.2.1.length i.1.2.2.2.1, .slice i.1.2.2.2.2.1 i.1.2.1.2.2.2.length i.1.2.2.2.2.2]], i.2.2⟩
    post := fun i => ⟨[(1, .complex .f32 0 0), (3, .string (cat (brkPre ts i.1.1 ++ topPre i.1.2.1 i.1.2.1.2.2.1.length))), (4, .int .i64 i.1.1), (5, .complex .f32 1 0)],
      [[.slice a1 ts.length c1, .slice a2 rs.length c2], [.string i.1.2.1.1, .int .i64 i.1.2.1.2.1, .slice i.1.2.2.1 i.1.2.1.2.2.1.length i.1.2.2.2.1, .slice i.1.2.2.2.2.1 i.1.2.1.2.2.2.length i.1.2.2.2.2.2]], i.2⟩
    R := fun i j => j.1 = i.1 ∧ BI h ts j.1 j.2
    ret := fun _ _ _ => False }
  | 4 => {
    ι := BF × Nat × AHeap
    κ := BF × AHeap
    I := fun i => BI h ts i.1 i.2.2 ∧ i.2.1 ≤ i.1.2.1.2.2.2.length
    μ := fun i => i.1.2.1.2.2.2.length - i.2.1
    head := fun i => ⟨[(1, .complex .f32 0 0), (3, .string (cat (brkPre ts i.1.1 ++ topPre2 i.1.2.1 i.2.1))), (4, .int .i64 i.1.1), (5, .complex .f32 1 0), (7, .int .i64 i.2.1)],
      [[.slice a1 ts.length c1, .slice a2 rs.length c2], [.string i.1.2.1.1, .int .i64 i.1.2.1.2.1, .slice i.1.2.2.1 i.1.2.1.2.2.1.length i.1.2.2.2.1, .slice i.1.2.2.2.2.1 i.1.2.1.2.2.2.length i.1.2.2.2.2.2]], i.2.2⟩
    post := fun i => ⟨[(1, .complex .f32 0 0), (3, .string (cat (brkPre ts i.1.1 ++ topPre2 i.1.2.1 i.1.2.1.2.2.2.length))), (4, .int .i64 i.1.1)],
      [[.slice a1 ts.length c1, .slice a2 rs.length c2]], i.2⟩
    R := fun i j => j.1 = i.1 ∧ BI h ts j.1 j.2
    ret := fun _ _ _ => False }
  | _ => {
    ι := Nat × AHeap
    κ := AHeap
    I := fun i => i.1 ≤ rs.length ∧ h.Le i.2 ∧ i.2.wf
    μ := fun i => rs.length - i.1
    head := fun i => ⟨[(1, .complex .f32 0 0), (3, .string (cat (brkPre2 ts rs i.1))), (8, .int .i64 i.1)], [[.slice a1 ts.length c1, .slice a2 rs.length c2]], i.2⟩
    post := fun j => ⟨[(3, .string (cat (brkPre2 ts rs rs.length)))], [], j⟩
    R := fun _ j => h.Le j ∧ j.wf
    ret := fun _ _ _ => False }
theorem l08Bytes_spec (h : AHeap) (hw : h.wf) (ts : List topicSh.T) (rs : List replySh.T) (a1 : Option Addr) (c1 : Nat) (a2 : Option Addr) (c2 : Nat)
    (h1 : Sl h topicSh ts (.slice a1 ts.length c1)) (h2 : Sl h replySh rs (.slice a2 rs.length c2)) (H : BrkSz ts rs) :
    ∃ v h', ACall Try.prog 31 [.agg #[.slice a1 ts.length c1, .slice a2 rs.length c2]] h v h' ∧ h.Le h' ∧ h'.wf ∧ v = .string (brkB ts rs) := by
  refine acall_q fun Q HQ => ?_
  have sz : ∀ a b : ByteArray, (Append.append a b).size = a.size + b.size := fun a b => ByteArray.size_append
  have htl := H.tl
  have hrl := H.rl
  refine acall_vc (fun _ => false) (fun r => match r with | 6 => [(0, 0, []), (1, 0, []), (5, 0, []), (9, 0, []), (2, 1, []), (6, 1, []), (10, 1, []), (11, 0, []), (3, 3, [6, 10]), (4, 0, []), (7, 3, [10]), (8, 0, []), (12, 3, []), (13, 0, []), (14, 3, [])] | 15 => [(0, 0, []), (1, 0, []), (3, 0, []), (9, 0, []), (11, 0, []), (2, 1, []), (4, 0, []), (5, 0, []), (6, 1, []), (10, 1, []), (12, 0, []), (13, 0, []), (14, 1, []), (7, 3, [10, 14]), (8, 0, []), (15, 3, []), (16, 0, []), (17, 3, [])] | 20 => [(0, 0, []), (1, 0, []), (3, 0, []), (9, 0, []), (11, 0, []), (17, 0, []), (19, 0, []), (2, 1, []), (4, 0, []), (5, 0, []), (6, 1, []), (10, 1, []), (12, 0, []), (13, 0, []), (14, 1, []), (18, 1, []), (20, 0, []), (21, 0, []), (22, 1, []), (7, 3, [10, 14, 18, 22]), (8, 0, []), (15, 3, [18, 22]), (16, 0, []), (23, 3, []), (24, 0, []), (25, 3, [])] | _ => []) (sbL ts rs a1 c1 a2 c2 h) mixed Try.func31 rfl rfl rfl (Nat.le_of_ble_eq_true rfl) ?_ ?_
  · refine vc_mp (by kernel_rfl : (True ∧ True ∧ (True ∧ (∀ (i : Nat × AHeap), Prod.fst i ≤ List.length ts ∧ AHeap.Le h (Prod.snd i) ∧ AHeap.wf (Prod.snd i) → bs (decide ((↑(Prod.fst i) : Int) < (↑(List.length ts) : Int))) (∃ (l : Nat), ∃ (r : Nat), a1 = some (Addr.mk l r (some (4 : Nat))) ∧ (0 : Int) ≤ (↑(Prod.fst i) : Int) ∧ (↑(Prod.fst i) : Int) < (↑(List.length ts) : Int) ∧ ∃ (x : ByteArray), ∃ (x_1 : Int), ∃ (a : Option Addr), ∃ (n : Nat), ∃ (c : Nat), ∃ (a_1 : Option Addr), ∃ (n_1 : Nat), ∃ (c_1 : Nat), AHeap.ld (Prod.snd i) l (r + Int.toNat (↑(Prod.fst i) : Int)) (0 : Nat) (4 : Nat) = some [Value.string x, Value.int IntKind.i64 x_1, Value.slice a n c, Value.slice a_1 n_1 c_1] ∧ ∃ (x_2 : ByteArray), ∃ (h' : AHeap), ACall Try.prog (30 : Nat) [Value.string x] (Prod.snd i) (Value.string x_2) h' ∧ Value.slice a n c = Value.slice a n c ∧ Value.int IntKind.i64 x_1 = Value.int IntKind.i64 x_1 ∧ ByteArray.size (cat (brkPre ts (Prod.fst i))) + ByteArray.size x_2 ≤ (9223372036854775807 : Nat) ∧ ∃ (x_3 : ByteArray), ∃ (h'_1 : AHeap), ACall Try.prog (29 : Nat) [Value.int IntKind.i64 x_1] h' (Value.string x_3) h'_1 ∧ Value.slice a n c = Value.slice a n c ∧ ByteArray.size (Append.append (cat (brkPre ts (Prod.fst i))) x_2) + ByteArray.size x_3 ≤ (9223372036854775807 : Nat) ∧ ∃ (x_4 : ByteArray), ∃ (h' : AHeap), ACall Try.prog (29 : Nat) [Value.int IntKind.i64 (↑n : Int)] h'_1 (Value.string x_4) h' ∧ ByteArray.size (Append.append (Append.append (cat (brkPre ts (Prod.fst i))) x_2) x_3) + ByteArray.size x_4 ≤ (9223372036854775807 : Nat) ∧ ∃ (i_1 : BF × Nat × AHeap), Value.complex FloatKind.f32 (0 : Nat) (0 : Nat) = Value.complex FloatKind.f32 (0 : Nat) (0 : Nat) ∧ Value.string (Append.append (Append.append (Append.append (cat (brkPre ts (Prod.fst i))) x_2) x_3) x_4) = Value.string (cat (Append.append (brkPre ts (Prod.fst (Prod.fst i_1))) (topPre (Prod.fst (Prod.snd (Prod.fst i_1))) (Prod.fst (Prod.snd i_1))))) ∧ Value.int IntKind.i64 (↑(Prod.fst i) : Int) = Value.int IntKind.i64 (↑(Prod.fst (Prod.fst i_1)) : Int) ∧ Value.complex FloatKind.f32 (1 : Nat) (0 : Nat) = Value.complex FloatKind.f32 (1 : Nat) (0 : Nat) ∧ Value.int IntKind.i64 (0 : Int) = Value.int IntKind.i64 (↑(Prod.fst (Prod.snd i_1)) : Int) ∧ [Value.slice a1 (List.length ts) c1, Value.slice a2 (List.length rs) c2] = [Value.slice a1 (List.length ts) c1, Value.slice a2 (List.length rs) c2] ∧ [Value.string (Prod.fst (Prod.fst (Prod.snd (Prod.fst i_1)))), Value.int IntKind.i64 (Prod.fst (Prod.snd (Prod.fst (Prod.snd (Prod.fst i_1))))), Value.slice (Prod.fst (Prod.snd (Prod.snd (Prod.fst i_1)))) (List.length (Prod.fst (Prod.snd (Prod.snd (Prod.fst (Prod.snd (Prod.fst i_1))))))) (Prod.fst (Prod.snd (Prod.snd (Prod.snd (Prod.fst i_1))))), Value.slice (Prod.fst (Prod.snd (Prod.snd (Prod.snd (Prod.snd (Prod.fst i_1)))))) (List.length (Prod.snd (Prod.snd (Prod.snd (Prod.fst (Prod.snd (Prod.fst i_1))))))) (Prod.snd (Prod.snd (Prod.snd (Prod.snd (Prod.snd (Prod.fst i_1))))))] = [Value.string x, Value.int IntKind.i64 x_1, Value.slice a n c, Value.slice a_1 n_1 c_1] ∧ Prod.snd (Prod.snd i_1) = h' ∧ (BI h ts (Prod.fst i_1) (Prod.snd (Prod.snd i_1)) ∧ Prod.fst (Prod.snd i_1) ≤ List.length (Prod.fst (Prod.snd (Prod.snd (Prod.fst (Prod.snd (Prod.fst i_1))))))) ∧ (∀ (j : BF × AHeap), Prod.fst j = Prod.fst i_1 ∧ BI h ts (Prod.fst j) (Prod.snd j) → ∃ (x : ByteArray), ∃ (h' : AHeap), ACall Try.prog (29 : Nat) [Value.int IntKind.i64 (↑(List.length (Prod.snd (Prod.snd (Prod.snd (Prod.fst (Prod.snd (Prod.fst j))))))) : Int)] (Prod.snd j) (Value.string x) h' ∧ ByteArray.size (cat (Append.append (brkPre ts (Prod.fst (Prod.fst j))) (topPre (Prod.fst (Prod.snd (Prod.fst j))) (List.length (Prod.fst (Prod.snd (Prod.snd (Prod.fst (Prod.snd (Prod.fst j)))))))))) + ByteArray.size x ≤ (9223372036854775807 : Nat) ∧ ∃ (i_2 : BF × Nat × AHeap), Value.complex FloatKind.f32 (0 : Nat) (0 : Nat) = Value.complex FloatKind.f32 (0 : Nat) (0 : Nat) ∧ Value.string (Append.append (cat (Append.append (brkPre ts (Prod.fst (Prod.fst j))) (topPre (Prod.fst (Prod.snd (Prod.fst j))) (List.length (Prod.fst (Prod.snd (Prod.snd (Prod.fst (Prod.snd (Prod.fst j)))))))))) x) = Value.string (cat (Append.append (brkPre ts (Prod.fst (Prod.fst i_2))) (topPre2 (Prod.fst (Prod.snd (Prod.fst i_2))) (Prod.fst (Prod.snd i_2))))) ∧ Value.int IntKind.i64 (↑(Prod.fst (Prod.fst j)) : Int) = Value.int IntKind.i64 (↑(Prod.fst (Prod.fst i_2)) : Int) ∧ Value.complex FloatKind.f32 (1 : Nat) (0 : Nat) = Value.complex FloatKind.f32 (1 : Nat) (0 : Nat) ∧ Value.int IntKind.i64 (0 : Int) = Value.int IntKind.i64 (↑(Prod.fst (Prod.snd i_2)) : Int) ∧ [Value.slice a1 (List.length ts) c1, Value.slice a2 (List.length rs) c2] = [Value.slice a1 (List.length ts) c1, Value.slice a2 (List.length rs) c2] ∧ [Value.string (Prod.fst (Prod.fst (Prod.snd (Prod.fst i_2)))), Value.int IntKind.i64 (Prod.fst (Prod.snd (Prod.fst (Prod.snd (Prod.fst i_2))))), Value.slice (Prod.fst (Prod.snd (Prod.snd (Prod.fst i_2)))) (List.length (Prod.fst (Prod.snd (Prod.snd (Prod.fst (Prod.snd (Prod.fst i_2))))))) (Prod.fst (Prod.snd (Prod.snd (Prod.snd (Prod.fst i_2))))), Value.slice (Prod.fst (Prod.snd (Prod.snd (Prod.snd (Prod.snd (Prod.fst i_2)))))) (List.length (Prod.snd (Prod.snd (Prod.snd (Prod.fst (Prod.snd (Prod.fst i_2))))))) (Prod.snd (Prod.snd (Prod.snd (Prod.snd (Prod.snd (Prod.fst i_2))))))] = [Value.string (Prod.fst (Prod.fst (Prod.snd (Prod.fst j)))), Value.int IntKind.i64 (Prod.fst (Prod.snd (Prod.fst (Prod.snd (Prod.fst j))))), Value.slice (Prod.fst (Prod.snd (Prod.snd (Prod.fst j)))) (List.length (Prod.fst (Prod.snd (Prod.snd (Prod.fst (Prod.snd (Prod.fst j))))))) (Prod.fst (Prod.snd (Prod.snd (Prod.snd (Prod.fst j))))), Value.slice (Prod.fst (Prod.snd (Prod.snd (Prod.snd (Prod.snd (Prod.fst j)))))) (List.length (Prod.snd (Prod.snd (Prod.snd (Prod.fst (Prod.snd (Prod.fst j))))))) (Prod.snd (Prod.snd (Prod.snd (Prod.snd (Prod.snd (Prod.fst j))))))] ∧ Prod.snd (Prod.snd i_2) = h' ∧ (BI h ts (Prod.fst i_2) (Prod.snd (Prod.snd i_2)) ∧ Prod.fst (Prod.snd i_2) ≤ List.length (Prod.snd (Prod.snd (Prod.snd (Prod.fst (Prod.snd (Prod.fst i_2))))))) ∧ (∀ (j : BF × AHeap), Prod.fst j = Prod.fst i_2 ∧ BI h ts (Prod.fst j) (Prod.snd j) → ∃ (j_1 : Nat × AHeap), Value.complex FloatKind.f32 (0 : Nat) (0 : Nat) = Value.complex FloatKind.f32 (0 : Nat) (0 : Nat) ∧ Value.string (cat (Append.append (brkPre ts (Prod.fst (Prod.fst j))) (topPre2 (Prod.fst (Prod.snd (Prod.fst j))) (List.length (Prod.snd (Prod.snd (Prod.snd (Prod.fst (Prod.snd (Prod.fst j)))))))))) = Value.string (cat (brkPre ts (Prod.fst j_1))) ∧ Value.int IntKind.i64 (IntKind.wrap IntKind.i64 ((↑(Prod.fst (Prod.fst j)) : Int) + (1 : Int))) = Value.int IntKind.i64 (↑(Prod.fst j_1) : Int) ∧ [Value.slice a1 (List.length ts) c1, Value.slice a2 (List.length rs) c2] = [Value.slice a1 (List.length ts) c1, Value.slice a2 (List.length rs) c2] ∧ Prod.snd j_1 = Prod.snd j ∧ (Prod.fst j_1 ≤ List.length ts ∧ AHeap.Le h (Prod.snd j_1) ∧ AHeap.wf (Prod.snd j_1)) ∧ List.length ts - Prod.fst j_1 < List.length ts - Prod.fst i ∧ (∀ (k : AHeap), AHeap.Le h k ∧ AHeap.wf k → AHeap.Le h k ∧ AHeap.wf k) ∧ ∀ (v : Value) (h : AHeap), False → False) ∧ ∀ (v : Value) (h : AHeap), False → False) ∧ ∀ (v : Value) (h : AHeap), False → False) (∃ (j : AHeap), Value.complex FloatKind.f32 (0 : Nat) (0 : Nat) = Value.complex FloatKind.f32 (0 : Nat) (0 : Nat) ∧ Value.string (cat (brkPre ts (Prod.fst i))) = Value.string (cat (brkPre ts (List.length ts))) ∧ [Value.slice a1 (List.length ts) c1, Value.slice a2 (List.length rs) c2] = [Value.slice a1 (List.length ts) c1, Value.slice a2 (List.length rs) c2] ∧ j = Prod.snd i ∧ AHeap.Le h j ∧ AHeap.wf j)) ∧ (True ∧ True ∧ True) ∧ (True ∧ True ∧ (True ∧ (∀ (i : BF × Nat × AHeap), BI h ts (Prod.fst i) (Prod.snd (Prod.snd i)) ∧ Prod.fst (Prod.snd i) ≤ List.length (Prod.fst (Prod.snd (Prod.snd (Prod.fst (Prod.snd (Prod.fst i)))))) → bs (decide ((↑(Prod.fst (Prod.snd i)) : Int) < (↑(List.length (Prod.fst (Prod.snd (Prod.snd (Prod.fst (Prod.snd (Prod.fst i))))))) : Int))) (∃ (l : Nat), ∃ (r : Nat), Prod.fst (Prod.snd (Prod.snd (Prod.fst i))) = some (Addr.mk l r (some (1 : Nat))) ∧ (0 : Int) ≤ (↑(Prod.fst (Prod.snd i)) : Int) ∧ (↑(Prod.fst (Prod.snd i)) : Int) < (↑(List.length (Prod.fst (Prod.snd (Prod.snd (Prod.fst (Prod.snd (Prod.fst i))))))) : Int) ∧ ∃ (x : ByteArray), AHeap.ld (Prod.snd (Prod.snd i)) l (r + Int.toNat (↑(Prod.fst (Prod.snd i)) : Int)) (0 : Nat) (1 : Nat) = some [Value.string x] ∧ ∃ (x_1 : ByteArray), ∃ (h' : AHeap), ACall Try.prog (30 : Nat) [Value.string x] (Prod.snd (Prod.snd i)) (Value.string x_1) h' ∧ ByteArray.size (cat (Append.append (brkPre ts (Prod.fst (Prod.fst i))) (topPre (Prod.fst (Prod.snd (Prod.fst i))) (Prod.fst (Prod.snd i))))) + ByteArray.size x_1 ≤ (9223372036854775807 : Nat) ∧ ∃ (j : BF × Nat × AHeap), Value.complex FloatKind.f32 (0 : Nat) (0 : Nat) = Value.complex FloatKind.f32 (0 : Nat) (0 : Nat) ∧ Value.string (Append.append (cat (Append.append (brkPre ts (Prod.fst (Prod.fst i))) (topPre (Prod.fst (Prod.snd (Prod.fst i))) (Prod.fst (Prod.snd i))))) x_1) = Value.string (cat (Append.append (brkPre ts (Prod.fst (Prod.fst j))) (topPre (Prod.fst (Prod.snd (Prod.fst j))) (Prod.fst (Prod.snd j))))) ∧ Value.int IntKind.i64 (↑(Prod.fst (Prod.fst i)) : Int) = Value.int IntKind.i64 (↑(Prod.fst (Prod.fst j)) : Int) ∧ Value.complex FloatKind.f32 (1 : Nat) (0 : Nat) = Value.complex FloatKind.f32 (1 : Nat) (0 : Nat) ∧ Value.int IntKind.i64 (IntKind.wrap IntKind.i64 ((↑(Prod.fst (Prod.snd i)) : Int) + (1 : Int))) = Value.int IntKind.i64 (↑(Prod.fst (Prod.snd j)) : Int) ∧ [Value.slice a1 (List.length ts) c1, Value.slice a2 (List.length rs) c2] = [Value.slice a1 (List.length ts) c1, Value.slice a2 (List.length rs) c2] ∧ [Value.string (Prod.fst (Prod.fst (Prod.snd (Prod.fst j)))), Value.int IntKind.i64 (Prod.fst (Prod.snd (Prod.fst (Prod.snd (Prod.fst j))))), Value.slice (Prod.fst (Prod.snd (Prod.snd (Prod.fst j)))) (List.length (Prod.fst (Prod.snd (Prod.snd (Prod.fst (Prod.snd (Prod.fst j))))))) (Prod.fst (Prod.snd (Prod.snd (Prod.snd (Prod.fst j))))), Value.slice (Prod.fst (Prod.snd (Prod.snd (Prod.snd (Prod.snd (Prod.fst j)))))) (List.length (Prod.snd (Prod.snd (Prod.snd (Prod.fst (Prod.snd (Prod.fst j))))))) (Prod.snd (Prod.snd (Prod.snd (Prod.snd (Prod.snd (Prod.fst j))))))] = [Value.string (Prod.fst (Prod.fst (Prod.snd (Prod.fst i)))), Value.int IntKind.i64 (Prod.fst (Prod.snd (Prod.fst (Prod.snd (Prod.fst i))))), Value.slice (Prod.fst (Prod.snd (Prod.snd (Prod.fst i)))) (List.length (Prod.fst (Prod.snd (Prod.snd (Prod.fst (Prod.snd (Prod.fst i))))))) (Prod.fst (Prod.snd (Prod.snd (Prod.snd (Prod.fst i))))), Value.slice (Prod.fst (Prod.snd (Prod.snd (Prod.snd (Prod.snd (Prod.fst i)))))) (List.length (Prod.snd (Prod.snd (Prod.snd (Prod.fst (Prod.snd (Prod.fst i))))))) (Prod.snd (Prod.snd (Prod.snd (Prod.snd (Prod.snd (Prod.fst i))))))] ∧ Prod.snd (Prod.snd j) = h' ∧ (BI h ts (Prod.fst j) (Prod.snd (Prod.snd j)) ∧ Prod.fst (Prod.snd j) ≤ List.length (Prod.fst (Prod.snd (Prod.snd (Prod.fst (Prod.snd (Prod.fst j))))))) ∧ List.length (Prod.fst (Prod.snd (Prod.snd (Prod.fst (Prod.snd (Prod.fst j)))))) - Prod.fst (Prod.snd j) < List.length (Prod.fst (Prod.snd (Prod.snd (Prod.fst (Prod.snd (Prod.fst i)))))) - Prod.fst (Prod.snd i) ∧ (∀ (k : BF × AHeap), Prod.fst k = Prod.fst j ∧ BI h ts (Prod.fst k) (Prod.snd k) → Prod.fst k = Prod.fst i ∧ BI h ts (Prod.fst k) (Prod.snd k)) ∧ ∀ (v : Value) (h : AHeap), False → False) (∃ (j : BF × AHeap), Value.complex FloatKind.f32 (0 : Nat) (0 : Nat) = Value.complex FloatKind.f32 (0 : Nat) (0 : Nat) ∧ Value.string (cat (Append.append (brkPre ts (Prod.fst (Prod.fst i))) (topPre (Prod.fst (Prod.snd (Prod.fst i))) (Prod.fst (Prod.snd i))))) = Value.string (cat (Append.append (brkPre ts (Prod.fst (Prod.fst j))) (topPre (Prod.fst (Prod.snd (Prod.fst j))) (List.length (Prod.fst (Prod.snd (Prod.snd (Prod.fst (Prod.snd (Prod.fst j)))))))))) ∧ Value.int IntKind.i64 (↑(Prod.fst (Prod.fst i)) : Int) = Value.int IntKind.i64 (↑(Prod.fst (Prod.fst j)) : Int) ∧ Value.complex FloatKind.f32 (1 : Nat) (0 : Nat) = Value.complex FloatKind.f32 (1 : Nat) (0 : Nat) ∧ [Value.slice a1 (List.length ts) c1, Value.slice a2 (List.length rs) c2] = [Value.slice a1 (List.length ts) c1, Value.slice a2 (List.length rs) c2] ∧ [Value.string (Prod.fst (Prod.fst (Prod.snd (Prod.fst j)))), Value.int IntKind.i64 (Prod.fst (Prod.snd (Prod.fst (Prod.snd (Prod.fst j))))), Value.slice (Prod.fst (Prod.snd (Prod.snd (Prod.fst j)))) (List.length (Prod.fst (Prod.snd (Prod.snd (Prod.fst (Prod.snd (Prod.fst j))))))) (Prod.fst (Prod.snd (Prod.snd (Prod.snd (Prod.fst j))))), Value.slice (Prod.fst (Prod.snd (Prod.snd (Prod.snd (Prod.snd (Prod.fst j)))))) (List.length (Prod.snd (Prod.snd (Prod.snd (Prod.fst (Prod.snd (Prod.fst j))))))) (Prod.snd (Prod.snd (Prod.snd (Prod.snd (Prod.snd (Prod.fst j))))))] = [Value.string (Prod.fst (Prod.fst (Prod.snd (Prod.fst i)))), Value.int IntKind.i64 (Prod.fst (Prod.snd (Prod.fst (Prod.snd (Prod.fst i))))), Value.slice (Prod.fst (Prod.snd (Prod.snd (Prod.fst i)))) (List.length (Prod.fst (Prod.snd (Prod.snd (Prod.fst (Prod.snd (Prod.fst i))))))) (Prod.fst (Prod.snd (Prod.snd (Prod.snd (Prod.fst i))))), Value.slice (Prod.fst (Prod.snd (Prod.snd (Prod.snd (Prod.snd (Prod.fst i)))))) (List.length (Prod.snd (Prod.snd (Prod.snd (Prod.fst (Prod.snd (Prod.fst i))))))) (Prod.snd (Prod.snd (Prod.snd (Prod.snd (Prod.snd (Prod.fst i))))))] ∧ Prod.snd j = Prod.snd (Prod.snd i) ∧ Prod.fst j = Prod.fst i ∧ BI h ts (Prod.fst j) (Prod.snd j))) ∧ (True ∧ True ∧ True) ∧ True ∧ True) ∧ True ∧ True ∧ (∀ (i : BF × Nat × AHeap), BI h ts (Prod.fst i) (Prod.snd (Prod.snd i)) ∧ Prod.fst (Prod.snd i) ≤ List.length (Prod.snd (Prod.snd (Prod.snd (Prod.fst (Prod.snd (Prod.fst i)))))) → bs (decide ((↑(Prod.fst (Prod.snd i)) : Int) < (↑(List.length (Prod.snd (Prod.snd (Prod.snd (Prod.fst (Prod.snd (Prod.fst i))))))) : Int))) (∃ (l : Nat), ∃ (r : Nat), Prod.fst (Prod.snd (Prod.snd (Prod.snd (Prod.snd (Prod.fst i))))) = some (Addr.mk l r (some (2 : Nat))) ∧ (0 : Int) ≤ (↑(Prod.fst (Prod.snd i)) : Int) ∧ (↑(Prod.fst (Prod.snd i)) : Int) < (↑(List.length (Prod.snd (Prod.snd (Prod.snd (Prod.fst (Prod.snd (Prod.fst i))))))) : Int) ∧ ∃ (x : ByteArray), AHeap.ld (Prod.snd (Prod.snd i)) l (r + Int.toNat (↑(Prod.fst (Prod.snd i)) : Int)) (0 : Nat) (1 : Nat) = some [Value.string x] ∧ ∃ (l : Nat), ∃ (r : Nat), Prod.fst (Prod.snd (Prod.snd (Prod.snd (Prod.snd (Prod.fst i))))) = some (Addr.mk l r (some (2 : Nat))) ∧ (0 : Int) ≤ (↑(Prod.fst (Prod.snd i)) : Int) ∧ (↑(Prod.fst (Prod.snd i)) : Int) < (↑(List.length (Prod.snd (Prod.snd (Prod.snd (Prod.fst (Prod.snd (Prod.fst i))))))) : Int) ∧ ∃ (x_1 : Int), AHeap.ld (Prod.snd (Prod.snd i)) l (r + Int.toNat (↑(Prod.fst (Prod.snd i)) : Int)) (1 : Nat) (1 : Nat) = some [Value.int IntKind.i64 x_1] ∧ ∃ (x_2 : ByteArray), ∃ (h' : AHeap), ACall Try.prog (30 : Nat) [Value.string x] (Prod.snd (Prod.snd i)) (Value.string x_2) h' ∧ (∃ (x : Int), AHeap.ld h' l (r + Int.toNat (↑(Prod.fst (Prod.snd i)) : Int)) (1 : Nat) (1 : Nat) = some [Value.int IntKind.i64 x] ∧ Value.int IntKind.i64 x = Value.int IntKind.i64 x_1) ∧ Value.slice (Prod.fst (Prod.snd (Prod.snd (Prod.snd (Prod.snd (Prod.fst i)))))) (List.length (Prod.snd (Prod.snd (Prod.snd (Prod.fst (Prod.snd (Prod.fst i))))))) (Prod.snd (Prod.snd (Prod.snd (Prod.snd (Prod.snd (Prod.fst i)))))) = Value.slice (Prod.fst (Prod.snd (Prod.snd (Prod.snd (Prod.snd (Prod.fst i)))))) (List.length (Prod.snd (Prod.snd (Prod.snd (Prod.fst (Prod.snd (Prod.fst i))))))) (Prod.snd (Prod.snd (Prod.snd (Prod.snd (Prod.snd (Prod.fst i)))))) ∧ ByteArray.size (cat (Append.append (brkPre ts (Prod.fst (Prod.fst i))) (topPre2 (Prod.fst (Prod.snd (Prod.fst i))) (Prod.fst (Prod.snd i))))) + ByteArray.size x_2 ≤ (9223372036854775807 : Nat) ∧ ∃ (x : ByteArray), ∃ (h'_1 : AHeap), ACall Try.prog (29 : Nat) [Value.int IntKind.i64 x_1] h' (Value.string x) h'_1 ∧ ByteArray.size (Append.append (cat (Append.append (brkPre ts (Prod.fst (Prod.fst i))) (topPre2 (Prod.fst (Prod.snd (Prod.fst i))) (Prod.fst (Prod.snd i))))) x_2) + ByteArray.size x ≤ (9223372036854775807 : Nat) ∧ ∃ (j : BF × Nat × AHeap), Value.complex FloatKind.f32 (0 : Nat) (0 : Nat) = Value.complex FloatKind.f32 (0 : Nat) (0 : Nat) ∧ Value.string (Append.append (Append.append (cat (Append.append (brkPre ts (Prod.fst (Prod.fst i))) (topPre2 (Prod.fst (Prod.snd (Prod.fst i))) (Prod.fst (Prod.snd i))))) x_2) x) = Value.string (cat (Append.append (brkPre ts (Prod.fst (Prod.fst j))) (topPre2 (Prod.fst (Prod.snd (Prod.fst j))) (Prod.fst (Prod.snd j))))) ∧ Value.int IntKind.i64 (↑(Prod.fst (Prod.fst i)) : Int) = Value.int IntKind.i64 (↑(Prod.fst (Prod.fst j)) : Int) ∧ Value.complex FloatKind.f32 (1 : Nat) (0 : Nat) = Value.complex FloatKind.f32 (1 : Nat) (0 : Nat) ∧ Value.int IntKind.i64 (IntKind.wrap IntKind.i64 ((↑(Prod.fst (Prod.snd i)) : Int) + (1 : Int))) = Value.int IntKind.i64 (↑(Prod.fst (Prod.snd j)) : Int) ∧ [Value.slice a1 (List.length ts) c1, Value.slice a2 (List.length rs) c2] = [Value.slice a1 (List.length ts) c1, Value.slice a2 (List.length rs) c2] ∧ [Value.string (Prod.fst (Prod.fst (Prod.snd (Prod.fst j)))), Value.int IntKind.i64 (Prod.fst (Prod.snd (Prod.fst (Prod.snd (Prod.fst j))))), Value.slice (Prod.fst (Prod.snd (Prod.snd (Prod.fst j)))) (List.length (Prod.fst (Prod.snd (Prod.snd (Prod.fst (Prod.snd (Prod.fst j))))))) (Prod.fst (Prod.snd (Prod.snd (Prod.snd (Prod.fst j))))), Value.slice (Prod.fst (Prod.snd (Prod.snd (Prod.snd (Prod.snd (Prod.fst j)))))) (List.length (Prod.snd (Prod.snd (Prod.snd (Prod.fst (Prod.snd (Prod.fst j))))))) (Prod.snd (Prod.snd (Prod.snd (Prod.snd (Prod.snd (Prod.fst j))))))] = [Value.string (Prod.fst (Prod.fst (Prod.snd (Prod.fst i)))), Value.int IntKind.i64 (Prod.fst (Prod.snd (Prod.fst (Prod.snd (Prod.fst i))))), Value.slice (Prod.fst (Prod.snd (Prod.snd (Prod.fst i)))) (List.length (Prod.fst (Prod.snd (Prod.snd (Prod.fst (Prod.snd (Prod.fst i))))))) (Prod.fst (Prod.snd (Prod.snd (Prod.snd (Prod.fst i))))), Value.slice (Prod.fst (Prod.snd (Prod.snd (Prod.snd (Prod.snd (Prod.fst i)))))) (List.length (Prod.snd (Prod.snd (Prod.snd (Prod.fst (Prod.snd (Prod.fst i))))))) (Prod.snd (Prod.snd (Prod.snd (Prod.snd (Prod.snd (Prod.fst i))))))] ∧ Prod.snd (Prod.snd j) = h'_1 ∧ (BI h ts (Prod.fst j) (Prod.snd (Prod.snd j)) ∧ Prod.fst (Prod.snd j) ≤ List.length (Prod.snd (Prod.snd (Prod.snd (Prod.fst (Prod.snd (Prod.fst j))))))) ∧ List.length (Prod.snd (Prod.snd (Prod.snd (Prod.fst (Prod.snd (Prod.fst j)))))) - Prod.fst (Prod.snd j) < List.length (Prod.snd (Prod.snd (Prod.snd (Prod.fst (Prod.snd (Prod.fst i)))))) - Prod.fst (Prod.snd i) ∧ (∀ (k : BF × AHeap), Prod.fst k = Prod.fst j ∧ BI h ts (Prod.fst k) (Prod.snd k) → Prod.fst k = Prod.fst i ∧ BI h ts (Prod.fst k) (Prod.snd k)) ∧ ∀ (v : Value) (h : AHeap), False → False) (∃ (j : BF × AHeap), Value.complex FloatKind.f32 (0 : Nat) (0 : Nat) = Value.complex FloatKind.f32 (0 : Nat) (0 : Nat) ∧ Value.string (cat (Append.append (brkPre ts (Prod.fst (Prod.fst i))) (topPre2 (Prod.fst (Prod.snd (Prod.fst i))) (Prod.fst (Prod.snd i))))) = Value.string (cat (Append.append (brkPre ts (Prod.fst (Prod.fst j))) (topPre2 (Prod.fst (Prod.snd (Prod.fst j))) (List.length (Prod.snd (Prod.snd (Prod.snd (Prod.fst (Prod.snd (Prod.fst j)))))))))) ∧ Value.int IntKind.i64 (↑(Prod.fst (Prod.fst i)) : Int) = Value.int IntKind.i64 (↑(Prod.fst (Prod.fst j)) : Int) ∧ [Value.slice a1 (List.length ts) c1, Value.slice a2 (List.length rs) c2] = [Value.slice a1 (List.length ts) c1, Value.slice a2 (List.length rs) c2] ∧ Prod.snd j = Prod.snd (Prod.snd i) ∧ Prod.fst j = Prod.fst i ∧ BI h ts (Prod.fst j) (Prod.snd j))) ∧ (True ∧ True ∧ True) ∧ True ∧ True) ∧ True) ∧ True ∧ (True ∧ (∀ (i : Nat × AHeap), Prod.fst i ≤ List.length rs ∧ AHeap.Le h (Prod.snd i) ∧ AHeap.wf (Prod.snd i) → bs (decide ((↑(Prod.fst i) : Int) < (↑(List.length rs) : Int))) (∃ (l : Nat), ∃ (r : Nat), a2 = some (Addr.mk l r (some (3 : Nat))) ∧ (0 : Int) ≤ (↑(Prod.fst i) : Int) ∧ (↑(Prod.fst i) : Int) < (↑(List.length rs) : Int) ∧ ∃ (x : Int), AHeap.ld (Prod.snd i) l (r + Int.toNat (↑(Prod.fst i) : Int)) (0 : Nat) (1 : Nat) = some [Value.int IntKind.i64 x] ∧ ∃ (l : Nat), ∃ (r : Nat), a2 = some (Addr.mk l r (some (3 : Nat))) ∧ (0 : Int) ≤ (↑(Prod.fst i) : Int) ∧ (↑(Prod.fst i) : Int) < (↑(List.length rs) : Int) ∧ ∃ (x_1 : Int), AHeap.ld (Prod.snd i) l (r + Int.toNat (↑(Prod.fst i) : Int)) (1 : Nat) (1 : Nat) = some [Value.int IntKind.i64 x_1] ∧ ∃ (l_1 : Nat), ∃ (r_1 : Nat), a2 = some (Addr.mk l_1 r_1 (some (3 : Nat))) ∧ (0 : Int) ≤ (↑(Prod.fst i) : Int) ∧ (↑(Prod.fst i) : Int) < (↑(List.length rs) : Int) ∧ ∃ (x_2 : ByteArray), AHeap.ld (Prod.snd i) l_1 (r_1 + Int.toNat (↑(Prod.fst i) : Int)) (2 : Nat) (1 : Nat) = some [Value.string x_2] ∧ ∃ (x_3 : ByteArray), ∃ (h' : AHeap), ACall Try.prog (29 : Nat) [Value.int IntKind.i64 x] (Prod.snd i) (Value.string x_3) h' ∧ (∃ (x : ByteArray), AHeap.ld h' l_1 (r_1 + Int.toNat (↑(Prod.fst i) : Int)) (2 : Nat) (1 : Nat) = some [Value.string x] ∧ Value.string x = Value.string x_2) ∧ Value.slice a2 (List.length rs) c2 = Value.slice a2 (List.length rs) c2 ∧ (∃ (x : Int), AHeap.ld h' l (r + Int.toNat (↑(Prod.fst i) : Int)) (1 : Nat) (1 : Nat) = some [Value.int IntKind.i64 x] ∧ Value.int IntKind.i64 x = Value.int IntKind.i64 x_1) ∧ Value.slice a2 (List.length rs) c2 = Value.slice a2 (List.length rs) c2 ∧ ByteArray.size (cat (brkPre2 ts rs (Prod.fst i))) + ByteArray.size x_3 ≤ (9223372036854775807 : Nat) ∧ ∃ (x : ByteArray), ∃ (h'_1 : AHeap), ACall Try.prog (29 : Nat) [Value.int IntKind.i64 x_1] h' (Value.string x) h'_1 ∧ (∃ (x : ByteArray), AHeap.ld h'_1 l_1 (r_1 + Int.toNat (↑(Prod.fst i) : Int)) (2 : Nat) (1 : Nat) = some [Value.string x] ∧ Value.string x = Value.string x_2) ∧ Value.slice a2 (List.length rs) c2 = Value.slice a2 (List.length rs) c2 ∧ ByteArray.size (Append.append (cat (brkPre2 ts rs (Prod.fst i))) x_3) + ByteArray.size x ≤ (9223372036854775807 : Nat) ∧ ∃ (x_4 : ByteArray), ∃ (h' : AHeap), ACall Try.prog (30 : Nat) [Value.string x_2] h'_1 (Value.string x_4) h' ∧ ByteArray.size (Append.append (Append.append (cat (brkPre2 ts rs (Prod.fst i))) x_3) x) + ByteArray.size x_4 ≤ (9223372036854775807 : Nat) ∧ ∃ (j : Nat × AHeap), Value.complex FloatKind.f32 (0 : Nat) (0 : Nat) = Value.complex FloatKind.f32 (0 : Nat) (0 : Nat) ∧ Value.string (Append.append (Append.append (Append.append (cat (brkPre2 ts rs (Prod.fst i))) x_3) x) x_4) = Value.string (cat (brkPre2 ts rs (Prod.fst j))) ∧ Value.int IntKind.i64 (IntKind.wrap IntKind.i64 ((↑(Prod.fst i) : Int) + (1 : Int))) = Value.int IntKind.i64 (↑(Prod.fst j) : Int) ∧ [Value.slice a1 (List.length ts) c1, Value.slice a2 (List.length rs) c2] = [Value.slice a1 (List.length ts) c1, Value.slice a2 (List.length rs) c2] ∧ Prod.snd j = h' ∧ (Prod.fst j ≤ List.length rs ∧ AHeap.Le h (Prod.snd j) ∧ AHeap.wf (Prod.snd j)) ∧ List.length rs - Prod.fst j < List.length rs - Prod.fst i ∧ (∀ (k : AHeap), AHeap.Le h k ∧ AHeap.wf k → AHeap.Le h k ∧ AHeap.wf k) ∧ ∀ (v : Value) (h : AHeap), False → False) (∃ (j : AHeap), Value.string (cat (brkPre2 ts rs (Prod.fst i))) = Value.string (cat (brkPre2 ts rs (List.length rs))) ∧ j = Prod.snd i ∧ AHeap.Le h j ∧ AHeap.wf j)) ∧ (True ∧ True ∧ True) ∧ True ∧ True) ∧ True ∧ True) = _) ?_
    simp only [true_and, and_true]
    refine ⟨⟨?_, ?_, ?_⟩, ?_⟩
    · rintro ⟨i, g⟩ ⟨hi, le, wf⟩
      dsimp only at *
      refine bs_d (fun hlt => ?_) (fun hge => ⟨g, by rw [show i = ts.length by omega], rfl, le, wf⟩)
      obtain ⟨⟨n, b, hs, gs⟩, hat⟩ : ∃ y : ByteArray × Int × List Sh.str.T × List groupSh.T, ts[i]? = some y := ⟨_, List.getElem?_eq_getElem (by omega)⟩
      obtain ⟨l, r, row, ha, _, hrd, hld⟩ := (h1.mono le).elem hat
      obtain ⟨v1, v2, rfl, s1, s2⟩ := rd_topic.1 hrd
      dsimp only at hld s1 s2
      obtain ⟨a3, c3, rfl⟩ := s1.isSlice
      obtain ⟨a4, c4, rfl⟩ := s2.isSlice
      have hz := H.ts _ (List.mem_of_getElem? hat)
      have q0 := H.pre i
      have hn : n.size ≤ 20 := hz.nm
      have hb : 0 ≤ b ∧ b ≤ 1000000000 := hz.bs
      have hhl : hs.length ≤ 20 := hz.hl
      have q1 := vt_size' (t := n) (by omega)
      have q2 := nb_size (n := b) (by omega)
      have q3 := nb_size (n := hs.length) (by omega)
      obtain ⟨_, g1, A1, le1, w1, rfl⟩ := specPutText g wf n (by omega)
      obtain ⟨_, g2, A2, le2, w2, rfl⟩ := specPutNum g1 w1 b (by omega)
      obtain ⟨_, g3, A3, le3, w3, rfl⟩ := specPutNum g2 w2 hs.length (by omega)
      have lg := le1.trans (le2.trans le3)
      unfold nb at q2 q3
      refine ⟨l, r, ha, Int.natCast_nonneg _, hlt, _, _, _, _, _, _, _, _, hld, _, _, A1, by omega, _, _, A2, by simp only [sz]; omega, _, _, A3, by simp only [sz]; omega, ((i, (n, b, hs, gs), a3, c3, a4, c4), 0, g3), congrArg _ (Dat.a3 _ _ _ _), rfl, rfl, rfl, rfl, ⟨⟨hat, s1.mono lg, s2.mono lg, le.trans lg, w3⟩, Nat.zero_le _⟩, ?_, fun _ _ h => h⟩
      rintro ⟨_, g4⟩ ⟨rfl, B⟩
      obtain ⟨_, s1, s2, le4, wf4⟩ := B
      dsimp only at *
      have hgl : gs.length ≤ 4 := hz.gl
      have q4 : (cat (topPre (n, b, hs, gs) hs.length)).size ≤ 1050 := hz.pre hs.length
      have q5 := cat_size_app (brkPre ts i) (topPre (n, b, hs, gs) hs.length)
      have q6 := nb_size (n := gs.length) (by omega)
      unfold nb at q6
      obtain ⟨_, g5, A5, le5, w5, rfl⟩ := specPutNum g4 wf4 gs.length (by omega)
      refine ⟨_, _, A5, ?_, ((i, (n, b, hs, gs), a3, c3, a4, c4), 0, g5), ?_, rfl, rfl, rfl, rfl, ⟨⟨hat, s1.mono le5, s2.mono le5, le4.trans le5, w5⟩, Nat.zero_le _⟩, ?_, fun _ _ h => h⟩
      · show (cat (brkPre ts i ++ topPre (n, b, hs, gs) hs.length)).size + (vb (foldN gs.length)).size ≤ _
        omega
      · show Value.string (Append.append (cat (brkPre ts i ++ topPre (n, b, hs, gs) hs.length)) _) = Value.string (cat (brkPre ts i ++ topPre2 (n, b, hs, gs) 0))
        rw [app1]
        unfold topPre2
        simp only [List.take_zero, List.map_nil, List.append_nil, List.append_assoc]; rfl
      · rintro ⟨_, g6⟩ ⟨rfl, B⟩
        obtain ⟨_, _, _, le6, wf6⟩ := B
        dsimp only at *
        refine ⟨(i + 1, g6), ?_, by rw [wrap_i64 (by omega)]; rfl, rfl, ⟨by dsimp only; omega, le6, wf6⟩, by dsimp only; omega, fun _ h => h, fun _ _ h => h⟩
        dsimp only
        rw [brkPre_step hat]; rfl
    · rintro ⟨⟨i, ⟨n, (b : Int), (hs : List Sh.str.T), (gs : List groupSh.T)⟩, a3, c3, a4, c4⟩, j, g⟩ ⟨B, hj⟩
      obtain ⟨hat, s1, s2, le, wf⟩ := B
      dsimp only at *
      refine bs_d (fun hlt => ?_) (fun hge => ?_)
      · obtain ⟨m, hm⟩ : ∃ y : ByteArray, hs[j]? = some y := ⟨_, List.getElem?_eq_getElem (by omega)⟩
        obtain ⟨l, r, row, ha, _, hrd, hld⟩ := s1.elem hm
        obtain rfl : row = [.string m] := hrd
        have hz := H.ts _ (List.mem_of_getElem? hat)
        have q0 := H.pre i
        have q1 := hz.pre j
        have hml : m.size ≤ 40 := hz.hs m (List.mem_of_getElem? hm)
        have hhl : hs.length ≤ 20 := hz.hl
        have q2 := vt_size' (t := m) (by omega)
        have q3 := cat_size_app (brkPre ts i) (topPre (n, b, hs, gs) j)
        obtain ⟨_, g1, A1, le1, w1, rfl⟩ := specPutText g wf m (by omega)
        refine ⟨l, r, ha, Int.natCast_nonneg _, hlt, m, hld, _, _, A1, ?_, ((i, (n, b, hs, gs), a3, c3, a4, c4), j + 1, g1), ?_, rfl, by rw [wrap_i64 (by omega)]; rfl, rfl, rfl, ⟨⟨hat, s1.mono le1, s2.mono le1, le.trans le1, w1⟩, by dsimp only; omega⟩, by dsimp only; omega, fun _ h => h, fun _ _ h => h⟩
        · show (cat (brkPre ts i ++ topPre (n, b, hs, gs) j)).size + _ ≤ _
          omega
        · show Value.string (Append.append (cat (brkPre ts i ++ topPre (n, b, hs, gs) j)) _) = Value.string (cat (brkPre ts i ++ topPre (n, b, hs, gs) (j + 1)))
          rw [app1, topPre_step (t := (n, b, hs, gs)) hm, ← List.append_assoc]
      · have hj2 : j = hs.length := by omega
        subst hj2
        exact ⟨((i, (n, b, hs, gs), a3, c3, a4, c4), g), rfl, rfl, rfl, rfl, rfl, ⟨hat, s1, s2, le, wf⟩⟩
    · rintro ⟨⟨i, ⟨n, (b : Int), (hs : List Sh.str.T), (gs : List groupSh.T)⟩, a3, c3, a4, c4⟩, j, g⟩ ⟨B, hj⟩
      obtain ⟨hat, s1, s2, le, wf⟩ := B
      dsimp only at *
      refine bs_d (fun hlt => ?_) (fun hge => ?_)
      · obtain ⟨⟨gn, gk⟩, hm⟩ : ∃ y : ByteArray × Int, gs[j]? = some y := ⟨_, List.getElem?_eq_getElem (by omega)⟩
        obtain ⟨l, r, row, ha, _, hrd, hld⟩ := s2.elem hm
        obtain rfl := rd_group.1 hrd
        dsimp only at hld
        have hz := H.ts _ (List.mem_of_getElem? hat)
        have q0 := H.pre i
        have q1 := hz.pre2 j
        obtain ⟨hgn, hgk⟩ := hz.gs _ (List.mem_of_getElem? hm)
        have hgn : gn.size ≤ 20 := hgn
        have hgk : 0 ≤ gk ∧ gk ≤ 2000000000 := hgk
        have hgl : gs.length ≤ 4 := hz.gl
        have q2 := vt_size' (t := gn) (by omega)
        have q4 := nb_size (n := gk) (by omega)
        have q3 := cat_size_app (brkPre ts i) (topPre2 (n, b, hs, gs) j)
        obtain ⟨_, g1, A1, le1, w1, rfl⟩ := specPutText g wf gn (by omega)
        obtain ⟨_, g2, A2, le2, w2, rfl⟩ := specPutNum g1 w1 gk (by omega)
        have lg := le1.trans le2
        unfold nb at q4
        have hld1 := ld_cells (k := 0) (m := 1) hld (Nat.le_of_ble_eq_true rfl)
        have hld2 := ld_cells (k := 1) (m := 1) hld (Nat.le_of_ble_eq_true rfl)
        refine ⟨l, r, ha, Int.natCast_nonneg _, hlt, _, hld1, l, r, ha, Int.natCast_nonneg _, hlt, _, hld2, _, _, A1, ⟨_, le1.ld hld2, rfl⟩, ?_, _, _, A2, ?_, ((i, (n, b, hs, gs), a3, c3, a4, c4), j + 1, g2), ?_, rfl, by rw [wrap_i64 (by omega)]; rfl, rfl, rfl, ⟨⟨hat, s1.mono lg, s2.mono lg, le.trans lg, w2⟩, by dsimp only; omega⟩, by dsimp only; omega, fun _ h => h, fun _ _ h => h⟩
        · show (cat (brkPre ts i ++ topPre2 (n, b, hs, gs) j)).size + _ ≤ _
          omega
        · show (Append.append (cat (brkPre ts i ++ topPre2 (n, b, hs, gs) j)) _).size + _ ≤ _
          simp only [sz]; omega
        · show Value.string (Append.append (Append.append (cat (brkPre ts i ++ topPre2 (n, b, hs, gs) j)) _) _) = Value.string (cat (brkPre ts i ++ topPre2 (n, b, hs, gs) (j + 1)))
          rw [Dat.a2, topPre2_step (t := (n, b, hs, gs)) hm, ← List.append_assoc]
          exact congrArg _ (cat_sub _ _ _ rfl)
      · have hj2 : j = gs.length := by omega
        subst hj2
        exact ⟨((i, (n, b, hs, gs), a3, c3, a4, c4), g), rfl, rfl, rfl, rfl, ⟨hat, s1, s2, le, wf⟩⟩
    · rintro ⟨i, g⟩ ⟨hi, le, wf⟩
      dsimp only at *
      refine bs_d (fun hlt => ?_) (fun hge => ⟨g, by rw [show i = rs.length by omega], rfl, le, wf⟩)
      obtain ⟨⟨c, n, t⟩, hat⟩ : ∃ y : Int × Int × ByteArray, rs[i]? = some y := ⟨_, List.getElem?_eq_getElem (by omega)⟩
      obtain ⟨l, r, row, ha, _, hrd, hld⟩ := (h2.mono le).elem hat
      obtain rfl := rd_reply.1 hrd
      dsimp only at hld
      obtain ⟨hc, hn, ht⟩ := H.rs _ (List.mem_of_getElem? hat)
      have hc : 1 ≤ c ∧ c ≤ 9 := hc
      have hn : 1 ≤ n ∧ n ≤ 1000000000 := hn
      have ht : t.size ≤ 900 := ht
      have q0 := H.pre2 i
      have q1 := nb_size (n := c) (by omega)
      have q3 := nb_size (n := n) (by omega)
      have q2 := vt_size' (t := t) (by omega)
      obtain ⟨_, g1, A1, le1, w1, rfl⟩ := specPutNum g wf c (by omega)
      obtain ⟨_, g2, A2, le2, w2, rfl⟩ := specPutNum g1 w1 n (by omega)
      obtain ⟨_, g3, A3, le3, w3, rfl⟩ := specPutText g2 w2 t (by omega)
      unfold nb at q1 q3
      have hld1 := ld_cells (k := 0) (m := 1) hld (Nat.le_of_ble_eq_true rfl)
      have hld2 := ld_cells (k := 1) (m := 1) hld (Nat.le_of_ble_eq_true rfl)
      have hld3 := ld_cells (k := 2) (m := 1) hld (Nat.le_of_ble_eq_true rfl)
      refine ⟨l, r, ha, Int.natCast_nonneg _, hlt, _, hld1, l, r, ha, Int.natCast_nonneg _, hlt, _, hld2, l, r, ha, Int.natCast_nonneg _, hlt, _, hld3, _, _, A1, ⟨_, le1.ld hld3, rfl⟩, ⟨_, le1.ld hld2, rfl⟩, by omega, _, _, A2, ⟨_, le2.ld (le1.ld hld3), rfl⟩, by simp only [sz]; omega, _, _, A3, by simp only [sz]; omega, (i + 1, g3), ?_, by rw [wrap_i64 (by omega)]; rfl, rfl, ⟨by dsimp only; omega, le.trans (le1.trans (le2.trans le3)), w3⟩, by dsimp only; omega, fun _ h => h, fun _ _ h => h⟩
      dsimp only
      rw [Dat.a3, brkPre2_step hat]
      exact congrArg _ (cat_sub _ _ _ rfl)
  · refine vc_mp (by kernel_rfl : (∃ (x : ByteArray), ∃ (h' : AHeap), ACall Try.prog (29 : Nat) [Value.int IntKind.i64 (↑(List.length ts) : Int)] h (Value.string x) h' ∧ ∃ (i : Nat × AHeap), Value.complex FloatKind.f32 (0 : Nat) (0 : Nat) = Value.complex FloatKind.f32 (0 : Nat) (0 : Nat) ∧ Value.string x = Value.string (cat (brkPre ts (Prod.fst i))) ∧ Value.int IntKind.i64 (0 : Int) = Value.int IntKind.i64 (↑(Prod.fst i) : Int) ∧ [Value.slice a1 (List.length ts) c1, Value.slice a2 (List.length rs) c2] = [Value.slice a1 (List.length ts) c1, Value.slice a2 (List.length rs) c2] ∧ Prod.snd i = h' ∧ (Prod.fst i ≤ List.length ts ∧ AHeap.Le h (Prod.snd i) ∧ AHeap.wf (Prod.snd i)) ∧ (∀ (j : AHeap), AHeap.Le h j ∧ AHeap.wf j → ∃ (x : ByteArray), ∃ (h' : AHeap), ACall Try.prog (29 : Nat) [Value.int IntKind.i64 (↑(List.length rs) : Int)] j (Value.string x) h' ∧ ByteArray.size (cat (brkPre ts (List.length ts))) + ByteArray.size x ≤ (9223372036854775807 : Nat) ∧ ∃ (i : Nat × AHeap), Value.complex FloatKind.f32 (0 : Nat) (0 : Nat) = Value.complex FloatKind.f32 (0 : Nat) (0 : Nat) ∧ Value.string (Append.append (cat (brkPre ts (List.length ts))) x) = Value.string (cat (brkPre2 ts rs (Prod.fst i))) ∧ Value.int IntKind.i64 (0 : Int) = Value.int IntKind.i64 (↑(Prod.fst i) : Int) ∧ [Value.slice a1 (List.length ts) c1, Value.slice a2 (List.length rs) c2] = [Value.slice a1 (List.length ts) c1, Value.slice a2 (List.length rs) c2] ∧ Prod.snd i = h' ∧ (Prod.fst i ≤ List.length rs ∧ AHeap.Le h (Prod.snd i) ∧ AHeap.wf (Prod.snd i)) ∧ (∀ (j : AHeap), AHeap.Le h j ∧ AHeap.wf j → Q (Value.string (cat (brkPre2 ts rs (List.length rs)))) j) ∧ ∀ (v : Value) (h : AHeap), False → Q v h) ∧ ∀ (v : Value) (h : AHeap), False → Q v h) = _) ?_
    obtain ⟨_, g2, A2, le2, w2, rfl⟩ := specPutNum h hw ts.length (by omega)
    refine ⟨_, _, A2, (0, g2), rfl, (congrArg _ (cat_one _).symm), rfl, rfl, rfl, ⟨Nat.zero_le _, le2, w2⟩, fun g3 hg3 => ?_, fun _ _ h => h.elim⟩
    obtain ⟨_, g4, A4, le4, w4, rfl⟩ := specPutNum g3 hg3.2 rs.length (by omega)
    have q0 := H.pre ts.length
    have q1 := nb_size (n := rs.length) (by omega)
    unfold nb at q1
    refine ⟨_, _, A4, by omega, (0, g4), rfl, congrArg _ ?_, rfl, rfl, rfl, ⟨Nat.zero_le _, hg3.1.trans le4, w4⟩, fun g5 hg5 => HQ _ _ ⟨hg5.1, hg5.2, rfl⟩, fun _ _ h => h.elim⟩
    show _ = cat (brkPre2 ts rs 0)
    rw [app1]
    unfold brkPre2
    simp only [List.take_zero, List.map_nil, List.append_nil]; rfl
end Go.Proofs.Ytdcijleeoihlfaa
