/- Q5, Q6. -/
import Derived.Test.YtanienlcebkijaaV16Q4
import Derived.Test.YtanienlcebkijaaV16T6
import Derived.Test.YtanienlcebkijaaV16Q2
section
namespace Go.Proofs.Ytanienlcebkijaa
open Go.Abs Go.Dat
set_option maxRecDepth 100000
set_option maxHeartbeats 8000000
theorem drawSay_spec (h : AHeap) (hw : h.wf) (a : Option Addr) (n c : Nat) (bytes : List Sh.byte.T) (hx : Sl h Sh.byte bytes (.slice a n c)) (ok : (Sh.sl Sh.byte).ok bytes) :
    ∃ v h', ACall Try.prog 30 [.slice a n c] h v h' ∧ h.Le h' ∧ h'.wf ∧ ∃ (k f v' q : Int) (op : ByteArray) (a1 : Option Addr) (c1 : Nat) (cs : List changeSh.T), v = .agg #[.int .i64 k, .int .i64 f, .int .i64 v', .int .i64 q, .string op, .slice a1 cs.length c1] ∧ Sl h' changeSh cs (.slice a1 cs.length c1) ∧ CSl.ok cs := by
  obtain ⟨h1, A1, le1, w1, z1⟩ := dr_new h hw a n c bytes hx ok
  obtain ⟨_, _, A2, k, f, v, q, op, o, rfl, rfl, D, okc⟩ := dr_say h1 h.n z1
  refine acall_q fun Q HQ => ?_
  refine acall_vc (fun _ => false) (fun _ => []) (fun _ => .none) mixed Try.func30 rfl rfl rfl (Nat.le_of_ble_eq_true rfl) (by refine vc_mp (by kernel_rfl : (True ∧ True ∧ True) = _) ?_; simp only [and_self]) ?_
  refine vc_mp (by kernel_rfl : (∃ (a_1 : Option Addr), ∃ (h' : AHeap), ACall Try.prog (65 : Nat) [Value.slice a n c] h (Value.pointer a_1) h' ∧ ∃ (x : Int), ∃ (x_1 : Int), ∃ (x_2 : Int), ∃ (x_3 : Int), ∃ (x_4 : ByteArray), ∃ (a : Option Addr), ∃ (n : Nat), ∃ (c : Nat), ∃ (h'_1 : AHeap), ACall Try.prog (96 : Nat) [Value.pointer a_1] h' (Value.agg (Array.mk [Value.int IntKind.i64 x, Value.int IntKind.i64 x_1, Value.int IntKind.i64 x_2, Value.int IntKind.i64 x_3, Value.string x_4, Value.slice a n c])) h'_1 ∧ Q (Value.agg (Array.mk [Value.int IntKind.i64 x, Value.int IntKind.i64 x_1, Value.int IntKind.i64 x_2, Value.int IntKind.i64 x_3, Value.string x_4, Value.slice a n c])) h'_1) = _) ?_
  exact ⟨_, _, A1, _, _, _, _, _, _, _, _, _, A2, HQ _ _ ⟨D.out.top hw le1 (Nat.le_refl _), D.out.wf, k, f, v, q, op, o.a, o.c, o.xs, rfl, D.sn.so.sl, okc⟩⟩
theorem drawProof_spec (h : AHeap) (hw : h.wf) (a : Option Addr) (n c : Nat) (bytes : List Sh.byte.T) (hx : Sl h Sh.byte bytes (.slice a n c)) (ok : (Sh.sl Sh.byte).ok bytes) :
    ∃ v h', ACall Try.prog 34 [.slice a n c] h v h' ∧ h.Le h' ∧ h'.wf ∧ ∃ (v' q : Int) (op : ByteArray) (a1 : Option Addr) (c1 : Nat) (xs : List Int), v = .agg #[.int .i64 v', .int .i64 q, .string op, .slice a1 xs.length c1] ∧ Sl h' Sh.int xs (.slice a1 xs.length c1) ∧ (Sh.sl Sh.int).ok xs := by
  obtain ⟨h1, A1, le1, w1, z1⟩ := dr_new h hw a n c bytes hx ok
  refine acall_q fun Q HQ => ?_
  refine acall_vc (fun _ => false) (fun _ => []) (fun _ => .none) mixed Try.func34 rfl rfl rfl (Nat.le_of_ble_eq_true rfl) (by refine vc_mp (by kernel_rfl : (True ∧ True ∧ True ∧ True) = _) ?_; simp only [and_self]) ?_
  refine vc_mp (by kernel_rfl : (∃ (a_1 : Option Addr), ∃ (h' : AHeap), ACall Try.prog (65 : Nat) [Value.slice a n c] h (Value.pointer a_1) h' ∧ ∃ (x : Int), ∃ (h'_1 : AHeap), ACall Try.prog (69 : Nat) [Value.pointer a_1, Value.int IntKind.i64 (4 : Int)] h' (Value.int IntKind.i64 x) h'_1 ∧ ∃ (x_1 : Int), ∃ (h' : AHeap), ACall Try.prog (69 : Nat) [Value.pointer a_1, Value.int IntKind.i64 (9 : Int)] h'_1 (Value.int IntKind.i64 x_1) h' ∧ ∃ (x_2 : Int), ∃ (x_3 : Int), ∃ (x_4 : ByteArray), ∃ (a : Option Addr), ∃ (n : Nat), ∃ (c : Nat), ∃ (h'_2 : AHeap), ACall Try.prog (101 : Nat) [Value.pointer a_1, Value.int IntKind.i64 (IntKind.wrap IntKind.i64 ((1 : Int) + x)), Value.int IntKind.i64 (IntKind.wrap IntKind.i64 (x_1 - (1 : Int)))] h' (Value.agg (Array.mk [Value.int IntKind.i64 x_2, Value.int IntKind.i64 x_3, Value.string x_4, Value.slice a n c])) h'_2 ∧ Q (Value.agg (Array.mk [Value.int IntKind.i64 x_2, Value.int IntKind.i64 x_3, Value.string x_4, Value.slice a n c])) h'_2) = _) ?_
  refine ⟨_, _, A1, ?_⟩
  refine kN (Dr.refl z1) 4 (by omega) fun r g a1 _ b1 d => ?_
  refine kN d 9 (by omega) fun r2 g2 a2 _ b2 d2 => ?_
  have b1 := b1 (by omega)
  have b2 := b2 (by omega)
  have e1 : IntKind.i64.wrap (1 + r) = 1 + r := wrap_i64 (by omega)
  have e2 : IntKind.i64.wrap (r2 - 1) = r2 - 1 := wrap_i64 (by omega)
  obtain ⟨_, g3, A3, d3, v, op, xs, a4, n4, c4, ids, rfl, S, F, P⟩ := dr_proof g2 h.n d2.src (IntKind.i64.wrap (1 + r)) (IntKind.i64.wrap (r2 - 1)) (by omega) (by omega)
  have dt := d2.trans d3
  obtain ⟨_, _, es⟩ := S.so.sl.isSlice
  cases es
  exact ⟨_, _, _, _, _, _, _, A3, HQ _ _ ⟨dt.top hw le1 (Nat.le_refl _), dt.wf, v, _, op, a4, c4, xs, rfl, S.so.sl, P.1.2.2.2⟩⟩
theorem drawChange_spec (h : AHeap) (hw : h.wf) (a : Option Addr) (n c : Nat) (bytes : List Sh.byte.T) (hx : Sl h Sh.byte bytes (.slice a n c)) (ok : (Sh.sl Sh.byte).ok bytes) :
    ∃ v h', ACall Try.prog 35 [.slice a n c] h v h' ∧ h.Le h' ∧ h'.wf ∧ ∃ (f v' : Int) (a1 : Option Addr) (c1 : Nat) (ps : List proofSh.T), v = .agg #[.int .i64 f, .int .i64 v', .slice a1 ps.length c1] ∧ Sl h' proofSh ps (.slice a1 ps.length c1) ∧ (Sh.sl proofSh).ok ps := by
  obtain ⟨h1, A1, le1, w1, z1⟩ := dr_new h hw a n c bytes hx ok
  refine acall_q fun Q HQ => ?_
  refine acall_vc (fun _ => false) (fun _ => []) (fun _ => .none) mixed Try.func35 rfl rfl rfl (Nat.le_of_ble_eq_true rfl) (by refine vc_mp (by kernel_rfl : (True ∧ True ∧ True ∧ True ∧ True) = _) ?_; simp only [and_self]) ?_
  refine vc_mp (by kernel_rfl : (∃ (a_1 : Option Addr), ∃ (h' : AHeap), ACall Try.prog (65 : Nat) [Value.slice a n c] h (Value.pointer a_1) h' ∧ ∃ (x : Int), ∃ (h'_1 : AHeap), ACall Try.prog (69 : Nat) [Value.pointer a_1, Value.int IntKind.i64 (6 : Int)] h' (Value.int IntKind.i64 x) h'_1 ∧ ∃ (x_1 : Int), ∃ (h' : AHeap), ACall Try.prog (69 : Nat) [Value.pointer a_1, Value.int IntKind.i64 (8 : Int)] h'_1 (Value.int IntKind.i64 x_1) h' ∧ ∃ (x_2 : Int), ∃ (x_3 : Int), ∃ (a : Option Addr), ∃ (n : Nat), ∃ (c : Nat), ∃ (h'_2 : AHeap), ACall Try.prog (102 : Nat) [Value.pointer a_1, Value.int IntKind.i64 (IntKind.wrap IntKind.i64 (x - (1 : Int))), Value.int IntKind.i64 (IntKind.wrap IntKind.i64 ((1 : Int) + x_1))] h' (Value.agg (Array.mk [Value.int IntKind.i64 x_2, Value.int IntKind.i64 x_3, Value.slice a n c])) h'_2 ∧ Q (Value.agg (Array.mk [Value.int IntKind.i64 x_2, Value.int IntKind.i64 x_3, Value.slice a n c])) h'_2) = _) ?_
  refine ⟨_, _, A1, ?_⟩
  refine kN (Dr.refl z1) 6 (by omega) fun r g a1 _ b1 d => ?_
  refine kN d 8 (by omega) fun r2 g2 a2 _ b2 d2 => ?_
  have b2 := b2 (by omega)
  have e2 : IntKind.i64.wrap (1 + r2) = 1 + r2 := wrap_i64 (by omega)
  obtain ⟨_, _, A3, o, rfl, rfl, D, oko, _⟩ := dr_change g2 h.n d2.src (IntKind.i64.wrap (r - 1)) (IntKind.i64.wrap (1 + r2)) (by omega)
  have dt := d2.trans D.out
  exact ⟨_, _, _, _, _, _, A3, HQ _ _ ⟨dt.top hw le1 (Nat.le_refl _), dt.wf, _, _, o.a, o.c, o.xs, rfl, D.sn.so.sl, oko⟩⟩
theorem drawOp_spec (h : AHeap) (hw : h.wf) (a : Option Addr) (n c : Nat) (bytes : List Sh.byte.T) (hx : Sl h Sh.byte bytes (.slice a n c)) (ok : (Sh.sl Sh.byte).ok bytes) :
    ∃ v h', ACall Try.prog 36 [.slice a n c] h v h' ∧ h.Le h' ∧ h'.wf ∧ ∃ t : ByteArray, v = .string t := by
  obtain ⟨h1, A1, le1, w1, z1⟩ := dr_new h hw a n c bytes hx ok
  refine acall_q fun Q HQ => ?_
  refine acall_vc (fun _ => false) (fun _ => []) (fun _ => .none) mixed Try.func36 rfl rfl rfl (Nat.le_of_ble_eq_true rfl) (by refine vc_mp (by kernel_rfl : (True ∧ True ∧ True ∧ True) = _) ?_; simp only [and_self]) ?_
  refine vc_mp (by kernel_rfl : (∃ (a_1 : Option Addr), ∃ (h' : AHeap), ACall Try.prog (65 : Nat) [Value.slice a n c] h (Value.pointer a_1) h' ∧ ∃ (x : Int), ∃ (h'_1 : AHeap), ACall Try.prog (69 : Nat) [Value.pointer a_1, Value.int IntKind.i64 (50 : Int)] h' (Value.int IntKind.i64 x) h'_1 ∧ ∃ (x_1 : Int), ∃ (h' : AHeap), ACall Try.prog (69 : Nat) [Value.pointer a_1, Value.int IntKind.i64 (5 : Int)] (AHeap.push h'_1 (AObj.mk [[Value.int IntKind.i64 (0 : Int)], [Value.int IntKind.i64 (119 : Int)], [Value.int IntKind.i64 (120 : Int)], [Value.int IntKind.i64 (121 : Int)], [Value.int IntKind.i64 x]] (1 : Nat) true)) (Value.int IntKind.i64 x_1) h' ∧ ∃ (l : Nat), ∃ (r : Nat), some (Addr.mk (AHeap.n h'_1) (0 : Nat) (some (1 : Nat))) = some (Addr.mk l r (some (1 : Nat))) ∧ (0 : Int) ≤ x_1 ∧ x_1 < (↑(5 : Nat) : Int) ∧ ∃ (x : Int), AHeap.ld h' l (r + Int.toNat x_1) (0 : Nat) (1 : Nat) = some [Value.int IntKind.i64 x] ∧ (0 : Int) ≤ x ∧ x ≤ x ∧ x * (↑(1 : Nat) : Int) ≤ (140737488355328 : Int) ∧ ∃ (s : ByteArray), AHeap.rowsOf (AHeap.push h' (AObj.mk (List.replicate (Int.toNat x) [Value.int IntKind.u8 (Int.ofNat (0 : Nat))]) (1 : Nat) true)) (Value.slice (some (Addr.mk (AHeap.n h') (0 : Nat) (some (1 : Nat)))) (Int.toNat x) (Int.toNat x + (1 : Nat))) = some (bytesRows s) ∧ Q (Value.string s) (AHeap.push h' (AObj.mk (List.replicate (Int.toNat x) [Value.int IntKind.u8 (Int.ofNat (0 : Nat))]) (1 : Nat) true))) = _) ?_
  refine ⟨_, _, A1, ?_⟩
  refine kN (Dr.refl z1) 50 (by omega) fun r g a1 _ b1 d => ?_
  have b1 := b1 (by omega)
  refine kLit d [0, 119, 120, 121, r] 5 rfl (by omega) fun v g2 hv d2 => ?_
  simp only [List.mem_cons, List.not_mem_nil, or_false] at hv
  have dt := d2.le (.push d2.wf ⟨List.replicate v.toNat [Value.int .u8 (Int.ofNat 0)], 1, true⟩) (d2.wf.push _)
  exact ⟨by omega, by omega, by omega, _, zeros_at AHeap.get_push_eq, HQ _ _ ⟨dt.top hw le1 (Nat.le_refl _), dt.wf, _, rfl⟩⟩
theorem dr_spoil (h : AHeap) (l : Nat) (s : Srz h l) (t : ByteArray) (ht : t.size ≤ 100000) :
    ∃ r h', ACall Try.prog 99 [.pointer (some ⟨l, 0, some 0⟩), .string t] h r h' ∧ ∃ u : ByteArray, r = .string u ∧ u.size ≤ 300000 ∧ Dr l h h' := by
  refine acall_q fun Q HQ => ?_
  refine acall_vc (fun _ => false) (fun r => match r with | 4 => [(0, 0, []), (1, 0, []), (2, 0, []), (3, 0, []), (4, 0, []), (5, 0, []), (6, 0, []), (7, 0, []), (8, 0, []), (9, 0, [])] | 6 => [(0, 0, []), (1, 0, []), (2, 0, []), (3, 0, []), (4, 0, []), (5, 0, []), (6, 0, []), (7, 0, []), (8, 0, [])] | 7 => [(0, 0, []), (1, 0, []), (2, 0, []), (3, 0, []), (4, 0, []), (5, 0, []), (6, 0, []), (7, 0, []), (8, 0, []), (9, 0, []), (10, 0, [])] | _ => []) (fun _ => .none) mixed Try.func99 rfl rfl rfl (Nat.le_of_ble_eq_true rfl) (by refine vc_mp (by kernel_rfl : (True ∧ True ∧ True ∧ (True ∧ (True ∧ True) ∧ True) ∧ (True ∧ (True ∧ True) ∧ True) ∧ True ∧ True) = _) ?_; simp only [and_self]) ?_
  refine vc_mp (by kernel_rfl : (∃ (x : Int), ∃ (h' : AHeap), ACall Try.prog (69 : Nat) [Value.pointer (some (Addr.mk l (0 : Nat) (some (0 : Nat)))), Value.int IntKind.i64 (IntKind.wrap IntKind.i64 ((↑(ByteArray.size t) : Int) + (1 : Int)))] h (Value.int IntKind.i64 x) h' ∧ ∃ (x_1 : Int), ∃ (h'_1 : AHeap), ACall Try.prog (69 : Nat) [Value.pointer (some (Addr.mk l (0 : Nat) (some (0 : Nat)))), Value.int IntKind.i64 (17 : Int)] h' (Value.int IntKind.i64 x_1) h'_1 ∧ (0 : Int) ≤ x_1 ∧ x_1 < (↑(ByteArray.size (ByteArray.mk (Array.mk [(32 : UInt8), (10 : UInt8), (48 : UInt8), (97 : UInt8), (45 : UInt8), (110 : UInt8), (44 : UInt8), (58 : UInt8), (93 : UInt8), (255 : UInt8), (40 : UInt8), (120 : UInt8), (126 : UInt8), (49 : UInt8), (128 : UInt8), (225 : UInt8), (59 : UInt8)]))) : Int) ∧ ∃ (s : ByteArray), AHeap.rowsOf (AHeap.push h'_1 (AObj.mk [[Value.int IntKind.u8 (byteAt (ByteArray.mk (Array.mk [(32 : UInt8), (10 : UInt8), (48 : UInt8), (97 : UInt8), (45 : UInt8), (110 : UInt8), (44 : UInt8), (58 : UInt8), (93 : UInt8), (255 : UInt8), (40 : UInt8), (120 : UInt8), (126 : UInt8), (49 : UInt8), (128 : UInt8), (225 : UInt8), (59 : UInt8)])) x_1)]] (1 : Nat) true)) (Value.slice (some (Addr.mk (AHeap.n h'_1) (0 : Nat) (some (1 : Nat)))) (1 : Nat) (2 : Nat)) = some (bytesRows s) ∧ bs (decide (x = (↑(ByteArray.size t) : Int))) ((0 : Int) ≤ (0 : Int) ∧ (0 : Int) ≤ x ∧ x ≤ (↑(ByteArray.size t) : Int) ∧ ByteArray.size (ByteArray.extract t (Int.toNat (0 : Int)) (Int.toNat x)) + ByteArray.size s ≤ (9223372036854775807 : Nat) ∧ (0 : Int) ≤ x ∧ x ≤ (↑(ByteArray.size t) : Int) ∧ (↑(ByteArray.size t) : Int) ≤ (↑(ByteArray.size t) : Int) ∧ ByteArray.size (Append.append (ByteArray.extract t (Int.toNat (0 : Int)) (Int.toNat x)) s) + ByteArray.size (ByteArray.extract t (Int.toNat x) (Int.toNat (↑(ByteArray.size t) : Int))) ≤ (9223372036854775807 : Nat) ∧ Q (Value.string (Append.append (Append.append (ByteArray.extract t (Int.toNat (0 : Int)) (Int.toNat x)) s) (ByteArray.extract t (Int.toNat x) (Int.toNat (↑(ByteArray.size t) : Int))))) (AHeap.push h'_1 (AObj.mk [[Value.int IntKind.u8 (byteAt (ByteArray.mk (Array.mk [(32 : UInt8), (10 : UInt8), (48 : UInt8), (97 : UInt8), (45 : UInt8), (110 : UInt8), (44 : UInt8), (58 : UInt8), (93 : UInt8), (255 : UInt8), (40 : UInt8), (120 : UInt8), (126 : UInt8), (49 : UInt8), (128 : UInt8), (225 : UInt8), (59 : UInt8)])) x_1)]] (1 : Nat) true))) (∃ (x_2 : Bool), ∃ (h' : AHeap), ACall Try.prog (66 : Nat) [Value.pointer (some (Addr.mk l (0 : Nat) (some (0 : Nat)))), Value.int IntKind.i64 (3 : Int)] (AHeap.push h'_1 (AObj.mk [[Value.int IntKind.u8 (byteAt (ByteArray.mk (Array.mk [(32 : UInt8), (10 : UInt8), (48 : UInt8), (97 : UInt8), (45 : UInt8), (110 : UInt8), (44 : UInt8), (58 : UInt8), (93 : UInt8), (255 : UInt8), (40 : UInt8), (120 : UInt8), (126 : UInt8), (49 : UInt8), (128 : UInt8), (225 : UInt8), (59 : UInt8)])) x_1)]] (1 : Nat) true)) (Value.bool x_2) h' ∧ bs x_2 ((0 : Int) ≤ (0 : Int) ∧ (0 : Int) ≤ x ∧ x ≤ (↑(ByteArray.size t) : Int) ∧ ByteArray.size (ByteArray.extract t (Int.toNat (0 : Int)) (Int.toNat x)) + ByteArray.size s ≤ (9223372036854775807 : Nat) ∧ (0 : Int) ≤ x ∧ x ≤ (↑(ByteArray.size t) : Int) ∧ (↑(ByteArray.size t) : Int) ≤ (↑(ByteArray.size t) : Int) ∧ ByteArray.size (Append.append (ByteArray.extract t (Int.toNat (0 : Int)) (Int.toNat x)) s) + ByteArray.size (ByteArray.extract t (Int.toNat x) (Int.toNat (↑(ByteArray.size t) : Int))) ≤ (9223372036854775807 : Nat) ∧ Q (Value.string (Append.append (Append.append (ByteArray.extract t (Int.toNat (0 : Int)) (Int.toNat x)) s) (ByteArray.extract t (Int.toNat x) (Int.toNat (↑(ByteArray.size t) : Int))))) h') (∃ (x_3 : Bool), ∃ (h'_2 : AHeap), ACall Try.prog (66 : Nat) [Value.pointer (some (Addr.mk l (0 : Nat) (some (0 : Nat)))), Value.int IntKind.i64 (2 : Int)] h' (Value.bool x_3) h'_2 ∧ bs x_3 ((0 : Int) ≤ (0 : Int) ∧ (0 : Int) ≤ x ∧ x ≤ (↑(ByteArray.size t) : Int) ∧ (0 : Int) ≤ IntKind.wrap IntKind.i64 (x + (1 : Int)) ∧ IntKind.wrap IntKind.i64 (x + (1 : Int)) ≤ (↑(ByteArray.size t) : Int) ∧ (↑(ByteArray.size t) : Int) ≤ (↑(ByteArray.size t) : Int) ∧ ByteArray.size (ByteArray.extract t (Int.toNat (0 : Int)) (Int.toNat x)) + ByteArray.size (ByteArray.extract t (Int.toNat (IntKind.wrap IntKind.i64 (x + (1 : Int)))) (Int.toNat (↑(ByteArray.size t) : Int))) ≤ (9223372036854775807 : Nat) ∧ Q (Value.string (Append.append (ByteArray.extract t (Int.toNat (0 : Int)) (Int.toNat x)) (ByteArray.extract t (Int.toNat (IntKind.wrap IntKind.i64 (x + (1 : Int)))) (Int.toNat (↑(ByteArray.size t) : Int))))) h'_2) ((0 : Int) ≤ (0 : Int) ∧ (0 : Int) ≤ x ∧ x ≤ (↑(ByteArray.size t) : Int) ∧ ByteArray.size (ByteArray.extract t (Int.toNat (0 : Int)) (Int.toNat x)) + ByteArray.size s ≤ (9223372036854775807 : Nat) ∧ (0 : Int) ≤ IntKind.wrap IntKind.i64 (x + (1 : Int)) ∧ IntKind.wrap IntKind.i64 (x + (1 : Int)) ≤ (↑(ByteArray.size t) : Int) ∧ (↑(ByteArray.size t) : Int) ≤ (↑(ByteArray.size t) : Int) ∧ ByteArray.size (Append.append (ByteArray.extract t (Int.toNat (0 : Int)) (Int.toNat x)) s) + ByteArray.size (ByteArray.extract t (Int.toNat (IntKind.wrap IntKind.i64 (x + (1 : Int)))) (Int.toNat (↑(ByteArray.size t) : Int))) ≤ (9223372036854775807 : Nat) ∧ Q (Value.string (Append.append (Append.append (ByteArray.extract t (Int.toNat (0 : Int)) (Int.toNat x)) s) (ByteArray.extract t (Int.toNat (IntKind.wrap IntKind.i64 (x + (1 : Int)))) (Int.toNat (↑(ByteArray.size t) : Int))))) h'_2)))) = _) ?_
  have sz : ∀ a b : ByteArray, (Append.append a b).size = a.size + b.size := fun a b => ByteArray.size_append
  have ew : IntKind.i64.wrap ((t.size : Int) + 1) = (t.size : Int) + 1 := wrap_i64 (by omega)
  rw [ew]
  refine kN (Dr.refl s) ((t.size : Int) + 1) (by omega) fun r g a1 e1 b1 d => ?_
  have hr : r ≤ t.size := by
    by_cases e : (t.size : Int) + 1 ≤ 1
    · have := e1 e; omega
    · have := b1 (by omega); omega
  have er : IntKind.i64.wrap (r + 1) = r + 1 := wrap_i64 (by omega)
  refine kN d 17 (by omega) fun r2 g2 a2 _ b2 d2 => ?_
  have b2 := b2 (by omega)
  generalize hlit : (⟨#[32, 10, 48, 97, 45, 110, 44, 58, 93, 255, 40, 120, 126, 49, 128, 225, 59]⟩ : ByteArray) = lit
  have hl17 : lit.size = 17 := by rw [← hlit]; rfl
  obtain ⟨k2, rfl⟩ : ∃ k2 : Nat, r2 = (k2 : Int) := ⟨r2.toNat, by omega⟩
  have hb := bN_lt lit k2
  obtain ⟨sb, hsb, hs1⟩ := rowsB [byteAt lit (k2 : Int)] (fun x hx => by
    simp only [List.mem_cons, List.not_mem_nil, or_false] at hx
    rw [hx, byteAt_nat]; omega)
  have hs1' : sb.size = 1 := hs1
  have dp := d2.le (.push d2.wf ⟨[[Value.int .u8 (byteAt lit (k2 : Int))]], 1, true⟩) (d2.wf.push _)
  have hrow : (g2.push ⟨[[Value.int .u8 (byteAt lit (k2 : Int))]], 1, true⟩).rowsOf (.slice (some ⟨g2.n, 0, some 1⟩) 1 2) = some (bytesRows sb) := by
    rw [hsb]; exact rowsV_lit2 (c := 2) rfl
  have x1 : ∀ i j : Nat, (t.extract i j).size ≤ t.size := fun i j => by rw [ByteArray.size_extract]; omega
  have x2 := x1 (Int.toNat 0) r.toNat
  have x3 := x1 r.toNat ((t.size : Int)).toNat
  have x4 := x1 (r + 1).toNat ((t.size : Int)).toNat
  have fin : ∀ (u : ByteArray) (g : AHeap), u.size ≤ 300000 → Dr l h g → Q (.string u) g := fun u g hu d => HQ _ _ ⟨u, rfl, hu, d⟩
  refine ⟨a2, by omega, sb, hrow, bs_d (fun _ => ?_) (fun hne => ?_)⟩
  · exact ⟨by omega, a1, hr, by omega, a1, hr, by omega, by simp only [sz]; omega, fin _ _ (by simp only [sz]; omega) dp⟩
  · refine kOne dp 3 (by omega) fun _ g3 d3 => bs_of (fun _ => ?_) (fun _ => ?_)
    · exact ⟨by omega, a1, hr, by omega, a1, hr, by omega, by simp only [sz]; omega, fin _ _ (by simp only [sz]; omega) d3⟩
    · rw [er]
      refine kOne d3 2 (by omega) fun _ g4 d4 => bs_of (fun _ => ?_) (fun _ => ?_)
      · exact ⟨by omega, a1, hr, by omega, by omega, by omega, by omega, fin _ _ (by simp only [sz]; omega) d4⟩
      · exact ⟨by omega, a1, hr, by omega, by omega, by omega, by omega, by simp only [sz]; omega, fin _ _ (by simp only [sz]; omega) d4⟩
theorem drawSayRead_spec (h : AHeap) (hw : h.wf) (a : Option Addr) (n c : Nat) (bytes : List Sh.byte.T) (hx : Sl h Sh.byte bytes (.slice a n c)) (ok : (Sh.sl Sh.byte).ok bytes) :
    ∃ v h', ACall Try.prog 32 [.slice a n c] h v h' ∧ h.Le h' ∧ h'.wf ∧ ∃ t : ByteArray, v = .string t ∧ t.size ≤ 300000 := by
  obtain ⟨h1, A1, le1, w1, z1⟩ := dr_new h hw a n c bytes hx ok
  obtain ⟨_, _, A2, k, f, v, q, op, o, rfl, rfl, D, okc⟩ := dr_say h1 h.n z1
  refine acall_q fun Q HQ => ?_
  refine acall_vc (fun _ => false) (fun _ => []) (fun _ => .none) mixed Try.func32 rfl rfl rfl (Nat.le_of_ble_eq_true rfl) (by refine vc_mp (by kernel_rfl : (True ∧ True ∧ True ∧ (True ∧ True ∧ True ∧ True ∧ True ∧ True) ∧ True ∧ True) = _) ?_; simp only [and_self]) ?_
  refine vc_mp (by kernel_rfl : (∃ (a_1 : Option Addr), ∃ (h' : AHeap), ACall Try.prog (65 : Nat) [Value.slice a n c] h (Value.pointer a_1) h' ∧ ∃ (x : Int), ∃ (x_1 : Int), ∃ (x_2 : Int), ∃ (x_3 : Int), ∃ (x_4 : ByteArray), ∃ (a : Option Addr), ∃ (n : Nat), ∃ (c : Nat), ∃ (h'_1 : AHeap), ACall Try.prog (96 : Nat) [Value.pointer a_1] h' (Value.agg (Array.mk [Value.int IntKind.i64 x, Value.int IntKind.i64 x_1, Value.int IntKind.i64 x_2, Value.int IntKind.i64 x_3, Value.string x_4, Value.slice a n c])) h'_1 ∧ ∃ (x_5 : ByteArray), ∃ (h' : AHeap), ACall Try.prog (37 : Nat) [Value.agg (Array.mk [Value.int IntKind.i64 x, Value.int IntKind.i64 x_1, Value.int IntKind.i64 x_2, Value.int IntKind.i64 x_3, Value.string x_4, Value.slice a n c])] h'_1 (Value.string x_5) h' ∧ ∃ (x : Int), ∃ (h'_2 : AHeap), ACall Try.prog (69 : Nat) [Value.pointer a_1, Value.int IntKind.i64 (4 : Int)] h' (Value.int IntKind.i64 x) h'_2 ∧ bs (decide (x = (0 : Int))) (∃ (x : ByteArray), ∃ (h' : AHeap), ACall Try.prog (99 : Nat) [Value.pointer a_1, Value.string x_5] h'_2 (Value.string x) h' ∧ Q (Value.string x) h') (bs (decide (x = (1 : Int))) (∃ (x : Int), ∃ (h' : AHeap), ACall Try.prog (69 : Nat) [Value.pointer a_1, Value.int IntKind.i64 (IntKind.wrap IntKind.i64 ((↑(ByteArray.size x_5) : Int) + (1 : Int)))] h'_2 (Value.int IntKind.i64 x) h' ∧ (0 : Int) ≤ (0 : Int) ∧ (0 : Int) ≤ x ∧ x ≤ (↑(ByteArray.size x_5) : Int) ∧ Q (Value.string (ByteArray.extract x_5 (Int.toNat (0 : Int)) (Int.toNat x))) h') (Q (Value.string x_5) h'_2))) = _) ?_
  obtain ⟨_, g3, A3, le3, w3, rfl⟩ := specSayBytes o.g D.out.wf k f v q op o.xs o.a o.c D.sn.so.sl okc
  have d3 := D.out.le le3 w3
  generalize ht : (bif tr (SayOk k f v q op o.xs) then sayB k f v q op o.xs else ⟨#[]⟩ : ByteArray) = t at A3
  have hts : t.size ≤ 100000 := by
    rw [← ht]
    cases hc : tr (SayOk k f v q op o.xs) with
    | false => exact Nat.zero_le _
    | true =>
      have := sayPre_size (of_tr hc) o.xs.length
      show (sayB k f v q op o.xs).size ≤ 100000
      have e : (sayB k f v q op o.xs).size ≤ 5200 := this
      omega
  refine ⟨_, _, A1, _, _, _, _, _, _, _, _, _, A2, _, _, A3, ?_⟩
  have fin : ∀ (u : ByteArray) (g : AHeap), u.size ≤ 300000 → Dr h.n h1 g → Q (.string u) g := fun u g hu d => HQ _ _ ⟨d.top hw le1 (Nat.le_refl _), d.wf, u, rfl, hu⟩
  refine kN d3 4 (by omega) fun r g4 _ _ _ d4 => bs_d (fun _ => ?_) (fun _ => bs_d (fun _ => ?_) (fun _ => fin _ _ (by omega) d4))
  · obtain ⟨_, g5, A5, u, rfl, hu, d5⟩ := dr_spoil g4 h.n d4.src t hts
    exact ⟨_, _, A5, fin _ _ hu (d4.trans d5)⟩
  · have ew : IntKind.i64.wrap ((t.size : Int) + 1) = (t.size : Int) + 1 := wrap_i64 (by omega)
    rw [ew]
    refine kN d4 ((t.size : Int) + 1) (by omega) fun r5 g5 a5 e5 b5 d5 => ?_
    have hr : r5 ≤ t.size := by
      by_cases e : (t.size : Int) + 1 ≤ 1
      · have := e5 e; omega
      · have := b5 (by omega); omega
    exact ⟨by omega, a5, hr, fin _ _ (by rw [ByteArray.size_extract]; omega) d5⟩
end Go.Proofs.Ytanienlcebkijaa
end
section
namespace Go.Proofs.Ytanienlcebkijaa
open Go.Abs Go.Dat
set_option maxRecDepth 100000
set_option maxHeartbeats 8000000
theorem lawFSay (h : AHeap) (hw : h.wf) (a : Option Addr) (n c : Nat) (bytes : List Sh.byte.T) (hx : Sl h Sh.byte bytes (.slice a n c)) (ok : (Sh.sl Sh.byte).ok bytes)
    (a2 : Option Addr) (n2 c2 : Nat) (bytes2 : List Sh.byte.T) (hx2 : Sl h Sh.byte bytes2 (.slice a2 n2 c2)) (ok2 : (Sh.sl Sh.byte).ok bytes2) :
    ∃ v h', ACall Try.prog 6 [.slice a n c, .slice a2 n2 c2] h v h' ∧ v = .bool true := by
  obtain ⟨_, h1, A1, le1, w1, k, f, v, q, op, a1, c1, cs, rfl, sl1, okc⟩ := drawSay_spec h hw a n c bytes hx ok
  obtain ⟨_, h2, A2, le2, w2, rfl⟩ := implSayBytes_spec h1 w1 k f v q op cs a1 c1 sl1 okc
  obtain ⟨_, h3, A3, le3, w3, u, rfl, hu⟩ := drawSayRead_spec h2 w2 a2 n2 c2 bytes2 (hx2.mono (le1.trans le2)) ok2
  obtain ⟨_, h4, A4, le4, w4, y4, j4, rfl, so4, _⟩ := xiSayRead h3 w3 u (by omega)
  obtain ⟨M, hM⟩ : ∃ M, M = sayReadM u := ⟨_, rfl⟩
  rw [← hM] at A4 so4
  obtain ⟨⟨(k' : Int), (f' : Int), (v' : Int), (q' : Int), (op' : ByteArray), (cs' : List changeSh.T)⟩, (code' : Int)⟩ := M
  dsimp only at A4 so4
  have l14 := le2.trans (le3.trans le4)
  obtain ⟨_, h5, A5, le5, w5, pv, pq, pop, a5, c5, pl, rfl, sl5, ok5⟩ := drawProof_spec h4 w4 a n c bytes (hx.mono (le1.trans l14)) ok
  obtain ⟨_, h6, A6, le6, w6, cf, cv, a6, c6, ps, rfl, sl6, ok6⟩ := drawChange_spec h5 w5 a2 n2 c2 bytes2 (hx2.mono (le1.trans (l14.trans le5))) ok2
  obtain ⟨_, h7, A7, le7, w7, ot, rfl⟩ := drawOp_spec h6 w6 a n c bytes (hx.mono (le1.trans (l14.trans (le5.trans le6)))) ok
  have l47 := le5.trans (le6.trans le7)
  obtain ⟨_, h8, A8, le8, w8, rfl⟩ := specSayBytes h7 w7 k f v q op cs a1 c1 (sl1.mono (l14.trans l47)) okc
  have sl1' := sl1.mono (l14.trans (l47.trans le8))
  have B1 := implSayRight_spec h8 k f v q op cs a1 c1 sl1' okc
  have B2 := sayRight_spec h8 k f v q op cs a1 c1 sl1' okc
  have sl5' := sl5.mono (le6.trans (le7.trans le8))
  have B3 := implProofRight_spec h8 pv pq pop pl a5 c5 sl5' ok5
  have B4 := proofRight_spec h8 pv pq pop pl a5 c5 sl5' ok5
  have sl6' := sl6.mono (le7.trans le8)
  have B5 := implChangeRight_spec h8 cf cv ps a6 c6 sl6' ok6
  have B6 := changeRight_spec h8 cf cv ps a6 c6 sl6' ok6
  have B7 := implOpRight_spec h8 ot
  have B8 := opRight_spec h8 ot
  have B9 := implNewRight_spec h8 k f v q op cs a1 c1 sl1' okc
  have B10 := newRight_spec h8 k f v q op cs a1 c1 sl1' okc
  obtain ⟨a4, c4, rfl⟩ := so4.sl.isSlice
  have so4' := so4.sl.mono (l47.trans le8)
  refine acall_vc (fun _ => false) (fun r => match r with | 10 => [(0, 0, []), (1, 1, []), (2, 3, []), (3, 0, []), (4, 0, []), (5, 1, []), (7, 1, []), (6, 3, [7]), (8, 3, []), (9, 0, []), (10, 0, []), (11, 0, []), (12, 1, []), (14, 1, []), (13, 3, [14]), (15, 3, []), (16, 0, []), (17, 0, []), (18, 0, []), (19, 1, []), (21, 1, []), (20, 3, [21]), (22, 3, []), (23, 0, []), (24, 0, []), (25, 0, []), (26, 0, []), (28, 0, []), (27, 3, []), (29, 3, []), (30, 0, []), (31, 0, []), (32, 0, []), (33, 1, []), (35, 1, []), (34, 3, [35]), (36, 3, []), (37, 0, []), (38, 0, [])] | 14 => [(0, 0, []), (2, 0, []), (1, 1, []), (3, 3, [1]), (4, 0, []), (5, 0, []), (6, 0, []), (7, 0, []), (8, 1, []), (9, 0, []), (10, 0, []), (11, 0, []), (14, 0, []), (12, 1, []), (13, 3, []), (15, 0, []), (16, 0, []), (17, 0, []), (18, 0, [])] | _ => []) (fun _ => .none) mixed Try.func6 rfl rfl rfl (Nat.le_of_ble_eq_true rfl) (by refine vc_mp (by kernel_rfl : (True ∧ (True ∧ (True ∧ True) ∧ True) ∧ True ∧ True ∧ True ∧ True ∧ True ∧ True ∧ True ∧ (True ∧ (True ∧ True) ∧ True) ∧ (True ∧ (True ∧ True) ∧ True) ∧ True ∧ True) = _) ?_; simp only [and_self]) ?_
  refine vc_mp (by kernel_rfl : (bs (decide ((↑n : Int) > (1048576 : Int))) (Value.bool true = Value.bool true) (bs (decide ((↑n2 : Int) > (1048576 : Int))) (Value.bool true = Value.bool true) (∃ (x : Int), ∃ (x_1 : Int), ∃ (x_2 : Int), ∃ (x_3 : Int), ∃ (x_4 : ByteArray), ∃ (a_1 : Option Addr), ∃ (n_1 : Nat), ∃ (c_1 : Nat), ∃ (h' : AHeap), ACall Try.prog (30 : Nat) [Value.slice a n c] h (Value.agg (Array.mk [Value.int IntKind.i64 x, Value.int IntKind.i64 x_1, Value.int IntKind.i64 x_2, Value.int IntKind.i64 x_3, Value.string x_4, Value.slice a_1 n_1 c_1])) h' ∧ ∃ (x_5 : ByteArray), ∃ (h'_1 : AHeap), ACall Try.prog (31 : Nat) [Value.agg (Array.mk [Value.int IntKind.i64 x, Value.int IntKind.i64 x_1, Value.int IntKind.i64 x_2, Value.int IntKind.i64 x_3, Value.string x_4, Value.slice a_1 n_1 c_1])] h' (Value.string x_5) h'_1 ∧ ∃ (x_6 : ByteArray), ∃ (h' : AHeap), ACall Try.prog (32 : Nat) [Value.slice a2 n2 c2] h'_1 (Value.string x_6) h' ∧ ∃ (x_7 : Int), ∃ (x_8 : Int), ∃ (x_9 : Int), ∃ (x_10 : Int), ∃ (x_11 : ByteArray), ∃ (a_2 : Option Addr), ∃ (n_2 : Nat), ∃ (c_2 : Nat), ∃ (x_12 : Int), ∃ (h'_2 : AHeap), ACall Try.prog (33 : Nat) [Value.string x_6] h' (Value.agg (Array.mk [Value.int IntKind.i64 x_7, Value.int IntKind.i64 x_8, Value.int IntKind.i64 x_9, Value.int IntKind.i64 x_10, Value.string x_11, Value.slice a_2 n_2 c_2, Value.int IntKind.i64 x_12])) h'_2 ∧ ∃ (x_13 : Int), ∃ (x_14 : Int), ∃ (x_15 : ByteArray), ∃ (a_3 : Option Addr), ∃ (n_3 : Nat), ∃ (c_3 : Nat), ∃ (h' : AHeap), ACall Try.prog (34 : Nat) [Value.slice a n c] h'_2 (Value.agg (Array.mk [Value.int IntKind.i64 x_13, Value.int IntKind.i64 x_14, Value.string x_15, Value.slice a_3 n_3 c_3])) h' ∧ ∃ (x_16 : Int), ∃ (x_17 : Int), ∃ (a_4 : Option Addr), ∃ (n_4 : Nat), ∃ (c_4 : Nat), ∃ (h'_3 : AHeap), ACall Try.prog (35 : Nat) [Value.slice a2 n2 c2] h' (Value.agg (Array.mk [Value.int IntKind.i64 x_16, Value.int IntKind.i64 x_17, Value.slice a_4 n_4 c_4])) h'_3 ∧ ∃ (x_18 : ByteArray), ∃ (h' : AHeap), ACall Try.prog (36 : Nat) [Value.slice a n c] h'_3 (Value.string x_18) h' ∧ ∃ (x_19 : ByteArray), ∃ (h'_4 : AHeap), ACall Try.prog (37 : Nat) [Value.agg (Array.mk [Value.int IntKind.i64 x, Value.int IntKind.i64 x_1, Value.int IntKind.i64 x_2, Value.int IntKind.i64 x_3, Value.string x_4, Value.slice a_1 n_1 c_1])] h' (Value.string x_19) h'_4 ∧ bs (!decide (x_5 = x_19)) (Value.bool false = Value.bool true) (∃ (x_20 : Bool), ∃ (h' : AHeap), ACall Try.prog (38 : Nat) [Value.agg (Array.mk [Value.int IntKind.i64 x, Value.int IntKind.i64 x_1, Value.int IntKind.i64 x_2, Value.int IntKind.i64 x_3, Value.string x_4, Value.slice a_1 n_1 c_1])] h'_4 (Value.bool x_20) h' ∧ Value.agg (Array.mk [Value.int IntKind.i64 x, Value.int IntKind.i64 x_1, Value.int IntKind.i64 x_2, Value.int IntKind.i64 x_3, Value.string x_4, Value.slice a_1 n_1 c_1]) = Value.agg (Array.mk [Value.int IntKind.i64 x, Value.int IntKind.i64 x_1, Value.int IntKind.i64 x_2, Value.int IntKind.i64 x_3, Value.string x_4, Value.slice a_1 n_1 c_1]) ∧ ∃ (x_21 : Bool), ∃ (h'_5 : AHeap), ACall Try.prog (39 : Nat) [Value.agg (Array.mk [Value.int IntKind.i64 x, Value.int IntKind.i64 x_1, Value.int IntKind.i64 x_2, Value.int IntKind.i64 x_3, Value.string x_4, Value.slice a_1 n_1 c_1])] h' (Value.bool x_21) h'_5 ∧ bs (!decide (x_20 = x_21)) (Value.bool false = Value.bool true) (∃ (x_22 : Bool), ∃ (h' : AHeap), ACall Try.prog (40 : Nat) [Value.agg (Array.mk [Value.int IntKind.i64 x_13, Value.int IntKind.i64 x_14, Value.string x_15, Value.slice a_3 n_3 c_3])] h'_5 (Value.bool x_22) h' ∧ Value.agg (Array.mk [Value.int IntKind.i64 x_13, Value.int IntKind.i64 x_14, Value.string x_15, Value.slice a_3 n_3 c_3]) = Value.agg (Array.mk [Value.int IntKind.i64 x_13, Value.int IntKind.i64 x_14, Value.string x_15, Value.slice a_3 n_3 c_3]) ∧ ∃ (x_23 : Bool), ∃ (h'_6 : AHeap), ACall Try.prog (41 : Nat) [Value.agg (Array.mk [Value.int IntKind.i64 x_13, Value.int IntKind.i64 x_14, Value.string x_15, Value.slice a_3 n_3 c_3])] h' (Value.bool x_23) h'_6 ∧ bs (!decide (x_22 = x_23)) (Value.bool false = Value.bool true) (∃ (x_24 : Bool), ∃ (h' : AHeap), ACall Try.prog (42 : Nat) [Value.agg (Array.mk [Value.int IntKind.i64 x_16, Value.int IntKind.i64 x_17, Value.slice a_4 n_4 c_4])] h'_6 (Value.bool x_24) h' ∧ Value.agg (Array.mk [Value.int IntKind.i64 x_16, Value.int IntKind.i64 x_17, Value.slice a_4 n_4 c_4]) = Value.agg (Array.mk [Value.int IntKind.i64 x_16, Value.int IntKind.i64 x_17, Value.slice a_4 n_4 c_4]) ∧ ∃ (x_25 : Bool), ∃ (h'_7 : AHeap), ACall Try.prog (43 : Nat) [Value.agg (Array.mk [Value.int IntKind.i64 x_16, Value.int IntKind.i64 x_17, Value.slice a_4 n_4 c_4])] h' (Value.bool x_25) h'_7 ∧ bs (!decide (x_24 = x_25)) (Value.bool false = Value.bool true) (∃ (x_26 : Bool), ∃ (h' : AHeap), ACall Try.prog (44 : Nat) [Value.string x_18] h'_7 (Value.bool x_26) h' ∧ ∃ (x_27 : Bool), ∃ (h'_8 : AHeap), ACall Try.prog (45 : Nat) [Value.string x_18] h' (Value.bool x_27) h'_8 ∧ bs (!decide (x_26 = x_27)) (Value.bool false = Value.bool true) (∃ (x_28 : Bool), ∃ (h' : AHeap), ACall Try.prog (46 : Nat) [Value.agg (Array.mk [Value.int IntKind.i64 x, Value.int IntKind.i64 x_1, Value.int IntKind.i64 x_2, Value.int IntKind.i64 x_3, Value.string x_4, Value.slice a_1 n_1 c_1])] h'_8 (Value.bool x_28) h' ∧ Value.agg (Array.mk [Value.int IntKind.i64 x, Value.int IntKind.i64 x_1, Value.int IntKind.i64 x_2, Value.int IntKind.i64 x_3, Value.string x_4, Value.slice a_1 n_1 c_1]) = Value.agg (Array.mk [Value.int IntKind.i64 x, Value.int IntKind.i64 x_1, Value.int IntKind.i64 x_2, Value.int IntKind.i64 x_3, Value.string x_4, Value.slice a_1 n_1 c_1]) ∧ ∃ (x_29 : Bool), ∃ (h'_9 : AHeap), ACall Try.prog (47 : Nat) [Value.agg (Array.mk [Value.int IntKind.i64 x, Value.int IntKind.i64 x_1, Value.int IntKind.i64 x_2, Value.int IntKind.i64 x_3, Value.string x_4, Value.slice a_1 n_1 c_1])] h' (Value.bool x_29) h'_9 ∧ bs (!decide (x_28 = x_29)) (Value.bool false = Value.bool true) (bs (!decide (x_5 = ByteArray.mk (Array.mk []))) (∃ (x : Int), ∃ (x_30 : Int), ∃ (x_31 : Int), ∃ (x_32 : Int), ∃ (x_33 : ByteArray), ∃ (a : Option Addr), ∃ (n : Nat), ∃ (c : Nat), ∃ (x_34 : Int), ∃ (h' : AHeap), ACall Try.prog (33 : Nat) [Value.string x_5] h'_9 (Value.agg (Array.mk [Value.int IntKind.i64 x, Value.int IntKind.i64 x_30, Value.int IntKind.i64 x_31, Value.int IntKind.i64 x_32, Value.string x_33, Value.slice a n c, Value.int IntKind.i64 x_34])) h' ∧ bs (!decide (x_34 = (0 : Int))) (Value.bool false = Value.bool true) (∃ (x : Int), ∃ (x_35 : Int), ∃ (x_36 : Int), ∃ (x_37 : Int), ∃ (x_38 : ByteArray), ∃ (a : Option Addr), ∃ (n : Nat), ∃ (c : Nat), ∃ (x_39 : Int), ∃ (h'_10 : AHeap), ACall Try.prog (33 : Nat) [Value.string x_5] h' (Value.agg (Array.mk [Value.int IntKind.i64 x, Value.int IntKind.i64 x_35, Value.int IntKind.i64 x_36, Value.int IntKind.i64 x_37, Value.string x_38, Value.slice a n c, Value.int IntKind.i64 x_39])) h'_10 ∧ ∃ (x_40 : ByteArray), ∃ (h' : AHeap), ACall Try.prog (31 : Nat) [Value.agg (Array.mk [Value.int IntKind.i64 x, Value.int IntKind.i64 x_35, Value.int IntKind.i64 x_36, Value.int IntKind.i64 x_37, Value.string x_38, Value.slice a n c])] h'_10 (Value.string x_40) h' ∧ bs (!decide (x_40 = x_5)) (Value.bool false = Value.bool true) (∃ (x : Int), ∃ (x_41 : Int), ∃ (x_42 : Int), ∃ (x_43 : Int), ∃ (x_44 : ByteArray), ∃ (a : Option Addr), ∃ (n : Nat), ∃ (c : Nat), ∃ (x_45 : Int), ∃ (h'_11 : AHeap), ACall Try.prog (48 : Nat) [Value.string x_6] h' (Value.agg (Array.mk [Value.int IntKind.i64 x, Value.int IntKind.i64 x_41, Value.int IntKind.i64 x_42, Value.int IntKind.i64 x_43, Value.string x_44, Value.slice a n c, Value.int IntKind.i64 x_45])) h'_11 ∧ Value.int IntKind.i64 x_12 = Value.int IntKind.i64 x_12 ∧ bs (decide (x_12 = x_45)) (bs (!decide (x_12 = (0 : Int))) (Value.bool true = Value.bool true) (∃ (x : ByteArray), ∃ (h' : AHeap), ACall Try.prog (31 : Nat) [Value.agg (Array.mk [Value.int IntKind.i64 x_7, Value.int IntKind.i64 x_8, Value.int IntKind.i64 x_9, Value.int IntKind.i64 x_10, Value.string x_11, Value.slice a_2 n_2 c_2])] h'_11 (Value.string x) h' ∧ Value.bool (decide (x = x_6)) = Value.bool true)) (Value.bool false = Value.bool true)))) (∃ (x : Int), ∃ (x_30 : Int), ∃ (x_31 : Int), ∃ (x_32 : Int), ∃ (x_33 : ByteArray), ∃ (a : Option Addr), ∃ (n : Nat), ∃ (c : Nat), ∃ (x_34 : Int), ∃ (h' : AHeap), ACall Try.prog (48 : Nat) [Value.string x_6] h'_9 (Value.agg (Array.mk [Value.int IntKind.i64 x, Value.int IntKind.i64 x_30, Value.int IntKind.i64 x_31, Value.int IntKind.i64 x_32, Value.string x_33, Value.slice a n c, Value.int IntKind.i64 x_34])) h' ∧ Value.int IntKind.i64 x_12 = Value.int IntKind.i64 x_12 ∧ bs (decide (x_12 = x_34)) (bs (!decide (x_12 = (0 : Int))) (Value.bool true = Value.bool true) (∃ (x : ByteArray), ∃ (h'_10 : AHeap), ACall Try.prog (31 : Nat) [Value.agg (Array.mk [Value.int IntKind.i64 x_7, Value.int IntKind.i64 x_8, Value.int IntKind.i64 x_9, Value.int IntKind.i64 x_10, Value.string x_11, Value.slice a_2 n_2 c_2])] h' (Value.string x) h'_10 ∧ Value.bool (decide (x = x_6)) = Value.bool true)) (Value.bool false = Value.bool true))))))))))) = _) ?_
  refine bs_d (fun _ => rfl) fun _ => bs_d (fun _ => rfl) fun _ => ⟨_, _, _, _, _, _, _, _, _, A1, _, _, A2, _, _, A3, _, _, _, _, _, _, _, _, _, _, A4, _, _, _, _, _, _, _, A5, _, _, _, _, _, _, A6, _, _, A7, ?_⟩
  refine ⟨_, _, A8, bs_dn (fun h => absurd rfl h) fun _ => ⟨_, _, B1, rfl, _, _, B2, bs_dn (fun h => absurd rfl h) fun _ => ⟨_, _, B3, rfl, _, _, B4, bs_dn (fun h => absurd rfl h) fun _ => ⟨_, _, B5, rfl, _, _, B6, bs_dn (fun h => absurd rfl h) fun _ => ⟨_, _, B7, _, _, B8, bs_dn (fun h => absurd rfl h) fun _ => ⟨_, _, B9, rfl, _, _, B10, bs_dn (fun h => absurd rfl h) fun _ => ?_⟩⟩⟩⟩⟩⟩
  refine bs_dn (fun hne => ?_) (fun _ => ?_)
  · have HS : SayOk k f v q op cs := by
      cases hc : tr (SayOk k f v q op cs) with
      | true => exact of_tr hc
      | false => exact absurd (by unfold sayT; rw [hc]; rfl) hne
    have eT : sayT k f v q op cs = sayB k f v q op cs := by unfold sayT; rw [← tr_true HS]; rfl
    have szT : (sayB k f v q op cs).size ≤ 5200 := sayPre_size HS cs.length
    rw [eT]
    have hR := sayRead_bytes HS
    obtain ⟨_, g9, R1, l9, w9, y9, j9, rfl, so9, _⟩ := xiSayRead h8 w8 (sayB k f v q op cs) (by omega)
    rw [hR] at R1 so9
    dsimp only at R1 so9
    obtain ⟨a9, c9, rfl⟩ := so9.sl.isSlice
    obtain ⟨_, g10, R2, l10, w10, y10, j10, rfl, so10, _⟩ := xiSayRead g9 w9 (sayB k f v q op cs) (by omega)
    rw [hR] at R2 so10
    dsimp only at R2 so10
    obtain ⟨a10, c10, rfl⟩ := so10.sl.isSlice
    obtain ⟨_, g, R3, l11, wg, rfl⟩ := implSayBytes_spec g10 w10 k f v q op cs a10 c10 so10.sl HS.okk.2.2.2.2.2
    rw [eT] at R3
    have leg : h8.Le g := l9.trans (l10.trans l11)
    refine ⟨_, _, _, _, _, _, _, _, _, _, R1, bs_dn (fun h => absurd rfl h) fun _ => ⟨_, _, _, _, _, _, _, _, _, _, R2, _, _, R3, bs_dn (fun h => absurd rfl h) fun _ => ?_⟩⟩
    obtain ⟨_, g2, T1, leg2, wg2, y, rfl, sy⟩ := xsSayRead g wg u (by omega)
    rw [← hM] at T1 sy
    dsimp only at T1 sy
    obtain ⟨ay, cy, rfl⟩ := sy.isSlice
    refine ⟨_, _, _, _, _, _, _, _, _, _, T1, rfl, bs_d (fun _ => bs_dn (fun _ => rfl) fun e0 => ?_) (fun hne => absurd rfl hne)⟩
    obtain ⟨HB, eB⟩ := bytes_sayRead (t := u) (k := k') (f := f') (v := v') (q := q') (op := op') (cs := cs') (by rw [← hM, e0])
    obtain ⟨_, g3, T2, _, _, rfl⟩ := implSayBytes_spec g2 wg2 k' f' v' q' op' cs' a4 c4 (so4'.mono (leg.trans leg2)) HB.okk.2.2.2.2.2
    refine ⟨_, _, T2, ?_⟩
    rw [show sayT k' f' v' q' op' cs' = u from by unfold sayT; rw [← tr_true HB]; exact eB, decide_eq_true rfl]
  · have leg : h8.Le h8 := .refl _
    have wg := w8
    generalize hg : h8 = g at leg wg ⊢
    subst hg
    obtain ⟨_, g2, T1, leg2, wg2, y, rfl, sy⟩ := xsSayRead h8 wg u (by omega)
    rw [← hM] at T1 sy
    dsimp only at T1 sy
    obtain ⟨ay, cy, rfl⟩ := sy.isSlice
    refine ⟨_, _, _, _, _, _, _, _, _, _, T1, rfl, bs_d (fun _ => bs_dn (fun _ => rfl) fun e0 => ?_) (fun hne => absurd rfl hne)⟩
    obtain ⟨HB, eB⟩ := bytes_sayRead (t := u) (k := k') (f := f') (v := v') (q := q') (op := op') (cs := cs') (by rw [← hM, e0])
    obtain ⟨_, g3, T2, _, _, rfl⟩ := implSayBytes_spec g2 wg2 k' f' v' q' op' cs' a4 c4 (so4'.mono (leg.trans leg2)) HB.okk.2.2.2.2.2
    refine ⟨_, _, T2, ?_⟩
    rw [show sayT k' f' v' q' op' cs' = u from by unfold sayT; rw [← tr_true HB]; exact eB, decide_eq_true rfl]
end Go.Proofs.Ytanienlcebkijaa
end
