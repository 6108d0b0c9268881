/- Z1, Z2, K1, K2, Z3, Z4. -/
import Derived.Test.YtanienlcebkijaaV15Y9
import Derived.Test.YtanienlcebkijaaV15U5
import Derived.Test.YtanienlcebkijaaV15H5
import Derived.Test.YtanienlcebkijaaV15C2
import Derived.Test.YtanienlcebkijaaV15V6
section
namespace Go.Proofs.Ytanienlcebkijaa
open Go.Abs Go.Dat
set_option maxRecDepth 100000
set_option maxHeartbeats 8000000
theorem drawClientAsk_spec (h : AHeap) (hw : h.wf) (a : Option Addr) (n c : Nat) (bytes : List Sh.byte.T) (hx : Sl h Sh.byte bytes (.slice a n c)) (ok : (Sh.sl Sh.byte).ok bytes) :
    ∃ v h', ACall Try.prog 54 [.slice a n c] h v h' ∧ h.Le h' ∧ h'.wf ∧ ∃ (id nu : Int) (asked : Bool) (told : ByteArray) (a1 : Option Addr) (c1 : Nat) (hs : List heardSh.T) (cl nu1 ki : Int) (topic group text : ByteArray) (m : Int),
      v = .tuple #[.agg #[.int .i64 id, .int .i64 nu, .bool asked, .slice a1 hs.length c1, .string told], .agg #[.int .i64 cl, .int .i64 nu1, .int .i64 ki, .string topic, .string group, .string text, .int .i64 m]] ∧
      Sl h' heardSh hs (.slice a1 hs.length c1) ∧ CliE id nu hs told ∧ CmdD cl nu1 ki topic group text m := by
  obtain ⟨h1, A1, le1, w1, z1⟩ := dr_new h hw a n c bytes hx ok
  obtain ⟨_, _, A2, id, nu, asked, told, o, rfl, rfl, D, C⟩ := dr_client h1 h.n z1
  obtain ⟨_, g3, A3, cl, nu1, ki, topic, group, text, m, rfl, CD, d3⟩ := dr_command o.g h.n D.out.src
  have D3 := D.dr d3
  refine acall_q fun Q HQ => ?_
  refine acall_vc (fun _ => false) (fun r => match r with | 3 => [(1, 0, []), (0, 1, []), (2, 3, [0]), (3, 3, []), (4, 3, [])] | _ => []) (fun _ => .none) mixed Try.func54 rfl rfl rfl (Nat.le_of_ble_eq_true rfl) (by refine vc_mp (by kernel_rfl : (True ∧ True ∧ True ∧ True ∧ True) = _) ?_; simp only [and_self]) ?_
  refine vc_mp (by kernel_rfl : (∃ (a_1 : Option Addr), ∃ (h' : AHeap), ACall Try.prog (65 : Nat) [Value.slice a n c] h (Value.pointer a_1) h' ∧ ∃ (x : Int), ∃ (x_1 : Int), ∃ (x_2 : Bool), ∃ (a : Option Addr), ∃ (n : Nat), ∃ (c : Nat), ∃ (x_3 : ByteArray), ∃ (h'_1 : AHeap), ACall Try.prog (129 : Nat) [Value.pointer a_1] h' (Value.agg (Array.mk [Value.int IntKind.i64 x, Value.int IntKind.i64 x_1, Value.bool x_2, Value.slice a n c, Value.string x_3])) h'_1 ∧ ∃ (x_4 : Int), ∃ (x_5 : Int), ∃ (x_6 : Int), ∃ (x_7 : ByteArray), ∃ (x_8 : ByteArray), ∃ (x_9 : ByteArray), ∃ (x_10 : Int), ∃ (h' : AHeap), ACall Try.prog (130 : Nat) [Value.pointer a_1] h'_1 (Value.agg (Array.mk [Value.int IntKind.i64 x_4, Value.int IntKind.i64 x_5, Value.int IntKind.i64 x_6, Value.string x_7, Value.string x_8, Value.string x_9, Value.int IntKind.i64 x_10])) h' ∧ Value.agg (Array.mk [Value.int IntKind.i64 x, Value.int IntKind.i64 x_1, Value.bool x_2, Value.slice a n c, Value.string x_3]) = Value.agg (Array.mk [Value.int IntKind.i64 x, Value.int IntKind.i64 x_1, Value.bool x_2, Value.slice a n c, Value.string x_3]) ∧ Q (Value.tuple (Array.mk [Value.agg (Array.mk [Value.int IntKind.i64 x, Value.int IntKind.i64 x_1, Value.bool x_2, Value.slice a n c, Value.string x_3]), Value.agg (Array.mk [Value.int IntKind.i64 x_4, Value.int IntKind.i64 x_5, Value.int IntKind.i64 x_6, Value.string x_7, Value.string x_8, Value.string x_9, Value.int IntKind.i64 x_10])])) h') = _) ?_
  refine ⟨_, _, A1, _, _, _, _, _, _, _, _, A2, ?_⟩
  exact ⟨_, _, _, _, _, _, _, _, A3, rfl, HQ _ _ ⟨D3.out.top hw le1 (Nat.le_refl _), D3.out.wf, id, nu, asked, told, o.a, o.c, o.xs, cl, nu1, ki, topic, group, text, m, rfl, D3.sn.so.sl, C, CD⟩⟩
theorem drawClientHear_spec (h : AHeap) (hw : h.wf) (a : Option Addr) (n c : Nat) (bytes : List Sh.byte.T) (hx : Sl h Sh.byte bytes (.slice a n c)) (ok : (Sh.sl Sh.byte).ok bytes) :
    ∃ v h', ACall Try.prog 56 [.slice a n c] h v h' ∧ h.Le h' ∧ h'.wf ∧ ∃ (id nu : Int) (asked : Bool) (told : ByteArray) (a1 : Option Addr) (c1 : Nat) (hs : List heardSh.T) (f rc rn : Int) (rt : ByteArray),
      v = .tuple #[.agg #[.int .i64 id, .int .i64 nu, .bool asked, .slice a1 hs.length c1, .string told], .int .i64 f, .agg #[.int .i64 rc, .int .i64 rn, .string rt]] ∧
      Sl h' heardSh hs (.slice a1 hs.length c1) ∧ CliE id nu hs told ∧ (-1 ≤ f ∧ f ≤ 10) ∧ (-1 ≤ rc ∧ rc ≤ 1000000001) ∧ (-1 ≤ rn ∧ rn ≤ 1000000001) ∧ rt.size ≤ 1000 := by
  obtain ⟨h1, A1, le1, w1, z1⟩ := dr_new h hw a n c bytes hx ok
  obtain ⟨_, _, A2, id, nu, asked, told, o, rfl, rfl, D, C⟩ := dr_client h1 h.n z1
  refine acall_q fun Q HQ => ?_
  refine acall_vc (fun t => t == 7) (fun r => match r with | 3 => [(8, 2, []), (0, 0, []), (2, 0, []), (4, 0, []), (1, 1, []), (3, 1, []), (5, 3, [8, 1, 3]), (6, 3, [8, 1, 3]), (7, 0, []), (9, 3, [])] | 6 => [(1, 0, []), (0, 1, []), (4, 1, []), (2, 3, [0, 4]), (3, 0, []), (5, 3, [4]), (6, 0, []), (7, 3, [])] | _ => []) (fun _ => .none) mixed Try.func56 rfl rfl rfl (Nat.le_of_ble_eq_true rfl) (by refine vc_mp (by kernel_rfl : (True ∧ True ∧ True ∧ True ∧ (True ∧ True ∧ True) ∧ True ∧ True) = _) ?_; simp only [and_self]) ?_
  refine vc_mp (by kernel_rfl : (∃ (a_1 : Option Addr), ∃ (h' : AHeap), ACall Try.prog (65 : Nat) [Value.slice a n c] h (Value.pointer a_1) h' ∧ ∃ (x : Int), ∃ (x_1 : Int), ∃ (x_2 : Bool), ∃ (a : Option Addr), ∃ (n : Nat), ∃ (c : Nat), ∃ (x_3 : ByteArray), ∃ (h'_1 : AHeap), ACall Try.prog (129 : Nat) [Value.pointer a_1] h' (Value.agg (Array.mk [Value.int IntKind.i64 x, Value.int IntKind.i64 x_1, Value.bool x_2, Value.slice a n c, Value.string x_3])) h'_1 ∧ Value.int IntKind.i64 x_1 = Value.int IntKind.i64 x_1 ∧ Value.int IntKind.i64 x = Value.int IntKind.i64 x ∧ (AHeap.get (AHeap.push (AHeap.push h'_1 (AObj.mk [[Value.int IntKind.i64 (Int.ofNat (0 : Nat)), Value.int IntKind.i64 (Int.ofNat (0 : Nat)), Value.string (ByteArray.mk (Array.mk []))]] (3 : Nat) true)) (AObj.mk [[Value.string (ByteArray.mk (Array.mk [(111 : UInt8), (107 : UInt8)]))], [Value.string (ByteArray.mk (Array.mk [(111 : UInt8), (107 : UInt8), (32 : UInt8), (49 : UInt8)]))], [Value.string (ByteArray.mk (Array.mk [(110 : UInt8), (111 : UInt8)]))]] (1 : Nat) true)) (AHeap.n h'_1) = AHeap.get (AHeap.push h'_1 (AObj.mk [[Value.int IntKind.i64 (Int.ofNat (0 : Nat)), Value.int IntKind.i64 (Int.ofNat (0 : Nat)), Value.string (ByteArray.mk (Array.mk []))]] (3 : Nat) true)) (AHeap.n h'_1) ∧ AHeap.n (AHeap.push h'_1 (AObj.mk [[Value.int IntKind.i64 (Int.ofNat (0 : Nat)), Value.int IntKind.i64 (Int.ofNat (0 : Nat)), Value.string (ByteArray.mk (Array.mk []))]] (3 : Nat) true)) ≤ AHeap.n (AHeap.push (AHeap.push h'_1 (AObj.mk [[Value.int IntKind.i64 (Int.ofNat (0 : Nat)), Value.int IntKind.i64 (Int.ofNat (0 : Nat)), Value.string (ByteArray.mk (Array.mk []))]] (3 : Nat) true)) (AObj.mk [[Value.string (ByteArray.mk (Array.mk [(111 : UInt8), (107 : UInt8)]))], [Value.string (ByteArray.mk (Array.mk [(111 : UInt8), (107 : UInt8), (32 : UInt8), (49 : UInt8)]))], [Value.string (ByteArray.mk (Array.mk [(110 : UInt8), (111 : UInt8)]))]] (1 : Nat) true))) ∧ ∃ (x_4 : ByteArray), ∃ (h' : AHeap), ACall Try.prog (68 : Nat) [Value.pointer a_1, Value.slice (some (Addr.mk (AHeap.n (AHeap.push h'_1 (AObj.mk [[Value.int IntKind.i64 (Int.ofNat (0 : Nat)), Value.int IntKind.i64 (Int.ofNat (0 : Nat)), Value.string (ByteArray.mk (Array.mk []))]] (3 : Nat) true))) (0 : Nat) (some (1 : Nat)))) (3 : Nat) (4 : Nat)] (AHeap.push (AHeap.push h'_1 (AObj.mk [[Value.int IntKind.i64 (Int.ofNat (0 : Nat)), Value.int IntKind.i64 (Int.ofNat (0 : Nat)), Value.string (ByteArray.mk (Array.mk []))]] (3 : Nat) true)) (AObj.mk [[Value.string (ByteArray.mk (Array.mk [(111 : UInt8), (107 : UInt8)]))], [Value.string (ByteArray.mk (Array.mk [(111 : UInt8), (107 : UInt8), (32 : UInt8), (49 : UInt8)]))], [Value.string (ByteArray.mk (Array.mk [(110 : UInt8), (111 : UInt8)]))]] (1 : Nat) true)) (Value.string x_4) h' ∧ Value.int IntKind.i64 x_1 = Value.int IntKind.i64 x_1 ∧ Value.int IntKind.i64 x = Value.int IntKind.i64 x ∧ (AHeap.get h' (AHeap.n h'_1) = AHeap.get (AHeap.push (AHeap.push h'_1 (AObj.mk [[Value.int IntKind.i64 (Int.ofNat (0 : Nat)), Value.int IntKind.i64 (Int.ofNat (0 : Nat)), Value.string (ByteArray.mk (Array.mk []))]] (3 : Nat) true)) (AObj.mk [[Value.string (ByteArray.mk (Array.mk [(111 : UInt8), (107 : UInt8)]))], [Value.string (ByteArray.mk (Array.mk [(111 : UInt8), (107 : UInt8), (32 : UInt8), (49 : UInt8)]))], [Value.string (ByteArray.mk (Array.mk [(110 : UInt8), (111 : UInt8)]))]] (1 : Nat) true)) (AHeap.n h'_1) ∧ AHeap.n (AHeap.push (AHeap.push h'_1 (AObj.mk [[Value.int IntKind.i64 (Int.ofNat (0 : Nat)), Value.int IntKind.i64 (Int.ofNat (0 : Nat)), Value.string (ByteArray.mk (Array.mk []))]] (3 : Nat) true)) (AObj.mk [[Value.string (ByteArray.mk (Array.mk [(111 : UInt8), (107 : UInt8)]))], [Value.string (ByteArray.mk (Array.mk [(111 : UInt8), (107 : UInt8), (32 : UInt8), (49 : UInt8)]))], [Value.string (ByteArray.mk (Array.mk [(110 : UInt8), (111 : UInt8)]))]] (1 : Nat) true)) ≤ AHeap.n h') ∧ ∃ (h'_2 : AHeap), AHeap.wr h' (AHeap.n h'_1) (0 : Nat) (0 : Nat) [Value.int IntKind.i64 x, Value.int IntKind.i64 x_1, Value.string x_4] = some h'_2 ∧ ∃ (x_5 : Bool), ∃ (h' : AHeap), ACall Try.prog (66 : Nat) [Value.pointer a_1, Value.int IntKind.i64 (10 : Int)] h'_2 (Value.bool x_5) h' ∧ bs x_5 (∃ (x_6 : Int), ∃ (h'_3 : AHeap), ACall Try.prog (69 : Nat) [Value.pointer a_1, Value.int IntKind.i64 (3 : Int)] h' (Value.int IntKind.i64 x_6) h'_3 ∧ ∃ (x_7 : Int), ∃ (h' : AHeap), ACall Try.prog (69 : Nat) [Value.pointer a_1, Value.int IntKind.i64 (3 : Int)] h'_3 (Value.int IntKind.i64 x_7) h' ∧ ∃ (x_8 : Int), ∃ (h'_4 : AHeap), ACall Try.prog (69 : Nat) [Value.pointer a_1, Value.int IntKind.i64 (2 : Int)] h' (Value.int IntKind.i64 x_8) h'_4 ∧ (0 : Int) ≤ IntKind.wrap IntKind.i64 ((900 : Int) + x_8) ∧ IntKind.wrap IntKind.i64 ((900 : Int) + x_8) ≤ IntKind.wrap IntKind.i64 ((900 : Int) + x_8) ∧ IntKind.wrap IntKind.i64 ((900 : Int) + x_8) * (↑(1 : Nat) : Int) ≤ (140737488355328 : Int) ∧ ∃ (s : ByteArray), AHeap.rowsOf (AHeap.push h'_4 (AObj.mk (List.replicate (Int.toNat (IntKind.wrap IntKind.i64 ((900 : Int) + x_8))) [Value.int IntKind.u8 (Int.ofNat (0 : Nat))]) (1 : Nat) true)) (Value.slice (some (Addr.mk (AHeap.n h'_4) (0 : Nat) (some (1 : Nat)))) (Int.toNat (IntKind.wrap IntKind.i64 ((900 : Int) + x_8))) (Int.toNat (IntKind.wrap IntKind.i64 ((900 : Int) + x_8)) + (1 : Nat))) = some (bytesRows s) ∧ ∃ (h' : AHeap), AHeap.wr (AHeap.push h'_4 (AObj.mk (List.replicate (Int.toNat (IntKind.wrap IntKind.i64 ((900 : Int) + x_8))) [Value.int IntKind.u8 (Int.ofNat (0 : Nat))]) (1 : Nat) true)) (AHeap.n h'_1) (0 : Nat) (0 : Nat) [Value.int IntKind.i64 x_6, Value.int IntKind.i64 x_7, Value.string s] = some h' ∧ ∃ (x_9 : Int), ∃ (x_10 : Int), ∃ (x_11 : ByteArray), AHeap.ld h' (AHeap.n h'_1) (0 : Nat) (0 : Nat) (3 : Nat) = some [Value.int IntKind.i64 x_9, Value.int IntKind.i64 x_10, Value.string x_11] ∧ ∃ (x_12 : Int), ∃ (h'_5 : AHeap), ACall Try.prog (69 : Nat) [Value.pointer a_1, Value.int IntKind.i64 (6 : Int)] h' (Value.int IntKind.i64 x_12) h'_5 ∧ (∃ (x : Int), ∃ (x_13 : Int), ∃ (x_14 : ByteArray), AHeap.ld h'_5 (AHeap.n h'_1) (0 : Nat) (0 : Nat) (3 : Nat) = some [Value.int IntKind.i64 x, Value.int IntKind.i64 x_13, Value.string x_14] ∧ Value.agg (Array.mk [Value.int IntKind.i64 x, Value.int IntKind.i64 x_13, Value.string x_14]) = Value.agg (Array.mk [Value.int IntKind.i64 x_9, Value.int IntKind.i64 x_10, Value.string x_11])) ∧ Value.agg (Array.mk [Value.int IntKind.i64 x, Value.int IntKind.i64 x_1, Value.bool x_2, Value.slice a n c, Value.string x_3]) = Value.agg (Array.mk [Value.int IntKind.i64 x, Value.int IntKind.i64 x_1, Value.bool x_2, Value.slice a n c, Value.string x_3]) ∧ (∃ (x : Int), ∃ (x_13 : Int), ∃ (x_14 : ByteArray), AHeap.ld h'_5 (AHeap.n h'_1) (0 : Nat) (0 : Nat) (3 : Nat) = some [Value.int IntKind.i64 x, Value.int IntKind.i64 x_13, Value.string x_14] ∧ Value.agg (Array.mk [Value.int IntKind.i64 x, Value.int IntKind.i64 x_13, Value.string x_14]) = Value.agg (Array.mk [Value.int IntKind.i64 x_9, Value.int IntKind.i64 x_10, Value.string x_11])) ∧ Q (Value.tuple (Array.mk [Value.agg (Array.mk [Value.int IntKind.i64 x, Value.int IntKind.i64 x_1, Value.bool x_2, Value.slice a n c, Value.string x_3]), Value.int IntKind.i64 (IntKind.wrap IntKind.i64 (x_12 - (1 : Int))), Value.agg (Array.mk [Value.int IntKind.i64 x_9, Value.int IntKind.i64 x_10, Value.string x_11])])) h'_5) (∃ (x_6 : Int), ∃ (x_7 : Int), ∃ (x_8 : ByteArray), AHeap.ld h' (AHeap.n h'_1) (0 : Nat) (0 : Nat) (3 : Nat) = some [Value.int IntKind.i64 x_6, Value.int IntKind.i64 x_7, Value.string x_8] ∧ ∃ (x_9 : Int), ∃ (h'_3 : AHeap), ACall Try.prog (69 : Nat) [Value.pointer a_1, Value.int IntKind.i64 (6 : Int)] h' (Value.int IntKind.i64 x_9) h'_3 ∧ (∃ (x : Int), ∃ (x_10 : Int), ∃ (x_11 : ByteArray), AHeap.ld h'_3 (AHeap.n h'_1) (0 : Nat) (0 : Nat) (3 : Nat) = some [Value.int IntKind.i64 x, Value.int IntKind.i64 x_10, Value.string x_11] ∧ Value.agg (Array.mk [Value.int IntKind.i64 x, Value.int IntKind.i64 x_10, Value.string x_11]) = Value.agg (Array.mk [Value.int IntKind.i64 x_6, Value.int IntKind.i64 x_7, Value.string x_8])) ∧ Value.agg (Array.mk [Value.int IntKind.i64 x, Value.int IntKind.i64 x_1, Value.bool x_2, Value.slice a n c, Value.string x_3]) = Value.agg (Array.mk [Value.int IntKind.i64 x, Value.int IntKind.i64 x_1, Value.bool x_2, Value.slice a n c, Value.string x_3]) ∧ (∃ (x : Int), ∃ (x_10 : Int), ∃ (x_11 : ByteArray), AHeap.ld h'_3 (AHeap.n h'_1) (0 : Nat) (0 : Nat) (3 : Nat) = some [Value.int IntKind.i64 x, Value.int IntKind.i64 x_10, Value.string x_11] ∧ Value.agg (Array.mk [Value.int IntKind.i64 x, Value.int IntKind.i64 x_10, Value.string x_11]) = Value.agg (Array.mk [Value.int IntKind.i64 x_6, Value.int IntKind.i64 x_7, Value.string x_8])) ∧ Q (Value.tuple (Array.mk [Value.agg (Array.mk [Value.int IntKind.i64 x, Value.int IntKind.i64 x_1, Value.bool x_2, Value.slice a n c, Value.string x_3]), Value.int IntKind.i64 (IntKind.wrap IntKind.i64 (x_9 - (1 : Int))), Value.agg (Array.mk [Value.int IntKind.i64 x_6, Value.int IntKind.i64 x_7, Value.string x_8])])) h'_3)) = _) ?_
  refine ⟨_, _, A1, _, _, _, _, _, _, _, _, A2, ?_⟩
  have lt := D.out.src.lt
  have hgn : h1.n ≤ o.g.n := D.out.kp.n
  have nid : o.g.n ∉ o.ids := fun e => by
    have := (D.B.fr.bd _ e).2
    omega
  have l1 := AHeap.Le.push D.out.wf ⟨[[.int .i64 0, .int .i64 0, .string ⟨#[]⟩]], 3, true⟩
  have w1' := D.out.wf.push ⟨[[.int .i64 0, .int .i64 0, .string ⟨#[]⟩]], 3, true⟩
  have l2 := AHeap.Le.push w1' ⟨[[.string ⟨#[111, 107]⟩], [.string ⟨#[111, 107, 32, 49]⟩], [.string ⟨#[110, 111]⟩]], 1, true⟩
  have w2 := w1'.push ⟨[[.string ⟨#[111, 107]⟩], [.string ⟨#[111, 107, 32, 49]⟩], [.string ⟨#[110, 111]⟩]], 1, true⟩
  have D2 := D.grow (l1.trans l2) w2
  have q1 := l2.get o.g.n _ AHeap.get_push_eq
  obtain ⟨t4, g4, A4, ht4, d4⟩ := dr_pick _ h.n D2.out.src (some ⟨o.g.n + 1, 0, some 1⟩) 3 4 [⟨#[111, 107]⟩, ⟨#[111, 107, 32, 49]⟩, ⟨#[110, 111]⟩] (sl_strs [⟨#[111, 107]⟩, ⟨#[111, 107, 32, 49]⟩, ⟨#[110, 111]⟩] 3 4 rfl) (fun l2 r e => by cases e; omega) (by omega)
  have q4 := d4.kp.get o.g.n _ (by simp; omega) q1
  have s4 : t4.size ≤ 4 := by
    simp only [List.mem_cons, List.not_mem_nil, or_false] at ht4
    rcases ht4 with rfl | rfl | rfl <;> exact Nat.le_of_ble_eq_true rfl
  have D4 := D2.dr d4
  obtain ⟨C1, C2, C3, C4, C5⟩ := C
  refine ⟨rfl, rfl, ⟨q1.trans AHeap.get_push_eq.symm, l2.n⟩, _, _, A4, rfl, rfl, ⟨q4.trans q1.symm, d4.kp.n⟩, _, wr_all' q4 rfl rfl, ?_⟩
  have D5 := D4.put q4 nid hgn (some ⟨[[.int .i64 id, .int .i64 nu, .string t4]], 3, true⟩)
  have q5 : (g4.put o.g.n (some ⟨[[.int .i64 id, .int .i64 nu, .string t4]], 3, true⟩)).get o.g.n = some ⟨[[.int .i64 id, .int .i64 nu, .string t4]], 3, true⟩ := AHeap.get_put_eq
  have hl : o.g.n ∉ [h.n] := by simp; omega
  have ldq : ∀ {g : AHeap} {x y : Int} {z : ByteArray}, g.get o.g.n = some ⟨[[.int .i64 x, .int .i64 y, .string z]], 3, true⟩ → g.ld o.g.n 0 0 3 = some [.int .i64 x, .int .i64 y, .string z] := fun {g x y z} e => by unfold AHeap.ld; rw [e]; rfl
  have tl : ∀ (rc rn : Int) (rt : ByteArray) (g : AHeap), g.get o.g.n = some ⟨[[.int .i64 rc, .int .i64 rn, .string rt]], 3, true⟩ → DL heardSh h1 h.n ⟨o.a, o.c, o.xs, o.ids, g⟩ → (-1 ≤ rc ∧ rc ≤ 1000000001) → (-1 ≤ rn ∧ rn ≤ 1000000001) → rt.size ≤ 1000 →
      ∃ x x1 x2, g.ld o.g.n 0 0 3 = some [.int .i64 x, .int .i64 x1, .string x2] ∧ ∃ x3 g', ACall Try.prog 69 [.pointer (some ⟨h.n, 0, some 0⟩), .int .i64 6] g (.int .i64 x3) g' ∧
        (∃ x4 x5 x6, g'.ld o.g.n 0 0 3 = some [.int .i64 x4, .int .i64 x5, .string x6] ∧ Value.agg #[.int .i64 x4, .int .i64 x5, .string x6] = Value.agg #[.int .i64 x, .int .i64 x1, .string x2]) ∧
        Value.agg #[.int .i64 id, .int .i64 nu, .bool asked, .slice o.a o.xs.length o.c, .string told] = Value.agg #[.int .i64 id, .int .i64 nu, .bool asked, .slice o.a o.xs.length o.c, .string told] ∧
        (∃ x4 x5 x6, g'.ld o.g.n 0 0 3 = some [.int .i64 x4, .int .i64 x5, .string x6] ∧ Value.agg #[.int .i64 x4, .int .i64 x5, .string x6] = Value.agg #[.int .i64 x, .int .i64 x1, .string x2]) ∧
        Q (.tuple #[.agg #[.int .i64 id, .int .i64 nu, .bool asked, .slice o.a o.xs.length o.c, .string told], .int .i64 (IntKind.i64.wrap (x3 - 1)), .agg #[.int .i64 x, .int .i64 x1, .string x2]]) g' := fun rc rn rt g q D b1 b2 b3 => by
    obtain ⟨r, g', A, a1, _, a3, d⟩ := dr_n g h.n D.out.src 6 (by omega)
    have a3 := a3 (by omega)
    have q' := d.kp.get o.g.n _ hl q
    have D' := D.dr d
    refine ⟨rc, rn, rt, ldq q, r, g', A, ⟨_, _, _, ldq q', rfl⟩, rfl, ⟨_, _, _, ldq q', rfl⟩, HQ _ _ ⟨D'.out.top hw le1 (Nat.le_refl _), D'.out.wf, id, nu, asked, told, o.a, o.c, o.xs, _, rc, rn, rt, rfl, D'.sn.so.sl, ⟨C1, C2, C3, C4, C5⟩, ?_, b1, b2, b3⟩⟩
    rw [wrap_i64 (by omega)]; omega
  obtain ⟨b6, g6, A6, d6⟩ := dr_one _ h.n D5.out.src 10 (by omega)
  have q6 := d6.kp.get o.g.n _ hl q5
  have D6 := D5.dr d6
  refine ⟨_, _, A6, bs_of (fun _ => ?_) (fun _ => tl _ _ _ _ q6 D6 (by omega) (by omega) (by omega))⟩
  obtain ⟨r7, g7, A7, a7, _, b7, d7⟩ := dr_n g6 h.n D6.out.src 3 (by omega)
  obtain ⟨r8, g8, A8, a8, _, b8, d8⟩ := dr_n g7 h.n d7.src 3 (by omega)
  have b7 := b7 (by omega)
  have b8 := b8 (by omega)
  obtain ⟨r9, g9, A9, a9, _, b9, d9⟩ := dr_n g8 h.n d8.src 2 (by omega)
  have b9 := b9 (by omega)
  have q9 := d9.kp.get o.g.n _ hl (d8.kp.get o.g.n _ hl (d7.kp.get o.g.n _ hl q6))
  have ew : IntKind.i64.wrap (900 + r9) = 900 + r9 := wrap_i64 (by omega)
  have lp := AHeap.Le.push d9.wf ⟨List.replicate (IntKind.i64.wrap (900 + r9)).toNat [Value.int .u8 (Int.ofNat 0)], 1, true⟩
  have D9 := (((D6.dr d7).dr d8).dr d9).grow lp (d9.wf.push _)
  have q9' := lp.get o.g.n _ q9
  refine ⟨_, _, A7, _, _, A8, _, _, A9, by omega, by omega, by omega, _, zeros_at AHeap.get_push_eq, _, wr_all' q9' rfl rfl, tl _ _ _ _ AHeap.get_put_eq (D9.put q9' nid hgn _) (by omega) (by omega) ?_⟩
  show (Array.replicate _ (0 : UInt8)).size ≤ 1000
  rw [Array.size_replicate]; omega
theorem drawClientNew_spec (h : AHeap) (hw : h.wf) (a : Option Addr) (n c : Nat) (bytes : List Sh.byte.T) (hx : Sl h Sh.byte bytes (.slice a n c)) (ok : (Sh.sl Sh.byte).ok bytes) :
    ∃ v h', ACall Try.prog 57 [.slice a n c] h v h' ∧ h.Le h' ∧ h'.wf ∧ ∃ x : Int, v = .int .i64 x := by
  obtain ⟨h1, A1, le1, w1, z1⟩ := dr_new h hw a n c bytes hx ok
  refine acall_q fun Q HQ => ?_
  refine acall_vc (fun _ => false) (fun _ => []) (fun _ => .none) mixed Try.func57 rfl rfl rfl (Nat.le_of_ble_eq_true rfl) (by refine vc_mp (by kernel_rfl : (True ∧ True ∧ True ∧ True) = _) ?_; simp only [and_self]) ?_
  refine vc_mp (by kernel_rfl : (∃ (a_1 : Option Addr), ∃ (h' : AHeap), ACall Try.prog (65 : Nat) [Value.slice a n c] h (Value.pointer a_1) h' ∧ ∃ (x : Int), ∃ (h'_1 : AHeap), ACall Try.prog (69 : Nat) [Value.pointer a_1, Value.int IntKind.i64 (12 : Int)] h' (Value.int IntKind.i64 x) h'_1 ∧ Q (Value.int IntKind.i64 (IntKind.wrap IntKind.i64 (x - (1 : Int)))) h'_1) = _) ?_
  refine ⟨_, _, A1, ?_⟩
  refine kN (Dr.refl z1) 12 (by omega) fun r g _ _ _ d => ?_
  exact HQ _ _ ⟨d.top hw le1 (Nat.le_refl _), d.wf, _, rfl⟩
theorem implClientNew (h : AHeap) (id : Int) : ACall Try.prog 60 [.int .i64 id] h (.agg #[.int .i64 (if 1 ≤ id ∧ id ≤ 9 then id else 0), .int .i64 0, .bool false, .slice none 0 0, .string ⟨#[]⟩]) h := by
  refine acall_out ?_
  refine acall_vc (fun _ => false) (fun _ => []) (fun _ => .none) mixed Try.func60 rfl rfl rfl (Nat.le_of_ble_eq_true rfl) (by refine vc_mp (by kernel_rfl : (True ∧ (True ∧ (True ∧ True) ∧ True) ∧ True ∧ True) = _) ?_; simp only [and_self]) ?_
  refine vc_mp (by kernel_rfl : (∃ (x : Bool), ∃ (h' : AHeap), ACall Try.prog (76 : Nat) [Value.int IntKind.i64 id, Value.int IntKind.i64 (1 : Int), Value.int IntKind.i64 (9 : Int)] h (Value.bool x) h' ∧ bs (!x) (Value.agg (Array.mk [Value.int IntKind.i64 (Int.ofNat (0 : Nat)), Value.int IntKind.i64 (Int.ofNat (0 : Nat)), Value.bool false, Value.slice none (0 : Nat) (0 : Nat), Value.string (ByteArray.mk (Array.mk []))]) = Value.agg (Array.mk [Value.int IntKind.i64 (if (1 : Int) ≤ id ∧ id ≤ (9 : Int) then id else (0 : Int)), Value.int IntKind.i64 (0 : Int), Value.bool false, Value.slice none (0 : Nat) (0 : Nat), Value.string (ByteArray.mk (Array.mk []))]) ∧ h' = h) (Value.agg (Array.mk [Value.int IntKind.i64 id, Value.int IntKind.i64 (Int.ofNat (0 : Nat)), Value.bool false, Value.slice none (0 : Nat) (0 : Nat), Value.string (ByteArray.mk (Array.mk []))]) = Value.agg (Array.mk [Value.int IntKind.i64 (if (1 : Int) ≤ id ∧ id ≤ (9 : Int) then id else (0 : Int)), Value.int IntKind.i64 (0 : Int), Value.bool false, Value.slice none (0 : Nat) (0 : Nat), Value.string (ByteArray.mk (Array.mk []))]) ∧ h' = h)) = _) ?_
  refine ⟨_, _, within_spec id 1 9 h, bs_nb (fun hf => ⟨?_, rfl⟩) (fun ht => ⟨?_, rfl⟩)⟩
  · simp only [Bool.and_eq_false_iff, decide_eq_false_iff_not] at hf
    rw [if_neg (by omega)]; rfl
  · simp only [Bool.and_eq_true, decide_eq_true_eq] at ht
    rw [if_pos (by omega)]; rfl
def lwcL (h : AHeap) (S1 S2 : List Value) (n : Nat) : LSpec where
  ι := Nat
  κ := Unit
  I := fun i => i ≤ n
  μ := fun i => n - i
  head := fun i => ⟨[(2, .complex .f32 0 0), (3, .complex .f32 1 0), (5, .int .i64 i)], [S1, S2], h⟩
  post := fun _ => ⟨[], [S1, S2], h⟩
  R := fun _ _ => True
  ret := fun _ _ _ => False
theorem lwClient_same (h : AHeap) (id nu : Int) (asked : Bool) (told : ByteArray) (a b : Option Addr) (c c2 : Nat) (hs : List heardSh.T) (hx : Sl h heardSh hs (.slice a hs.length c)) (hy : Sl h heardSh hs (.slice b hs.length c2)) (hn : hs.length ≤ 9223372036854775807) :
    ACall Try.prog 59 [.agg #[.int .i64 id, .int .i64 nu, .bool asked, .slice a hs.length c, .string told], .agg #[.int .i64 id, .int .i64 nu, .bool asked, .slice b hs.length c2, .string told]] h (.bool true) h := by
  refine acall_out ?_
  refine acall_vc (fun _ => false) (fun r => match r with | 6 => [(0, 0, []), (2, 0, []), (5, 0, []), (7, 0, []), (1, 1, []), (3, 0, []), (4, 1, []), (6, 1, []), (8, 0, []), (9, 1, []), (10, 0, [])] | _ => []) (fun _ => lwcL h [.int .i64 id, .int .i64 nu, .bool asked, .slice a hs.length c, .string told] [.int .i64 id, .int .i64 nu, .bool asked, .slice b hs.length c2, .string told] hs.length) mixed Try.func59 rfl rfl rfl (Nat.le_of_ble_eq_true rfl) ?_ ?_
  · refine vc_mp (by kernel_rfl : (True ∧ (True ∧ (True ∧ True) ∧ True) ∧ (True ∧ (∀ (i : Nat), i ≤ List.length hs → bs (decide ((↑i : Int) < (↑(List.length hs) : Int))) (∃ (l : Nat), ∃ (r : Nat), a = some (Addr.mk l r (some (2 : Nat))) ∧ (0 : Int) ≤ (↑i : Int) ∧ (↑i : Int) < (↑(List.length hs) : Int) ∧ ∃ (x : Int), ∃ (x_1 : ByteArray), AHeap.ld h l (r + Int.toNat (↑i : Int)) (0 : Nat) (2 : Nat) = some [Value.int IntKind.i64 x, Value.string x_1] ∧ ∃ (l : Nat), ∃ (r : Nat), b = some (Addr.mk l r (some (2 : Nat))) ∧ (0 : Int) ≤ (↑i : Int) ∧ (↑i : Int) < (↑(List.length hs) : Int) ∧ ∃ (x_2 : Int), ∃ (x_3 : ByteArray), AHeap.ld h l (r + Int.toNat (↑i : Int)) (0 : Nat) (2 : Nat) = some [Value.int IntKind.i64 x_2, Value.string x_3] ∧ bs (!(decide (x = x_2) && (decide (x_1 = x_3) && true))) False (∃ (j : Nat), Value.complex FloatKind.f32 (0 : Nat) (0 : Nat) = Value.complex FloatKind.f32 (0 : Nat) (0 : Nat) ∧ Value.complex FloatKind.f32 (1 : Nat) (0 : Nat) = Value.complex FloatKind.f32 (1 : Nat) (0 : Nat) ∧ Value.int IntKind.i64 (IntKind.wrap IntKind.i64 ((↑i : Int) + (1 : Int))) = Value.int IntKind.i64 (↑j : Int) ∧ [Value.int IntKind.i64 id, Value.int IntKind.i64 nu, Value.bool asked, Value.slice a (List.length hs) c, Value.string told] = [Value.int IntKind.i64 id, Value.int IntKind.i64 nu, Value.bool asked, Value.slice a (List.length hs) c, Value.string told] ∧ [Value.int IntKind.i64 id, Value.int IntKind.i64 nu, Value.bool asked, Value.slice b (List.length hs) c2, Value.string told] = [Value.int IntKind.i64 id, Value.int IntKind.i64 nu, Value.bool asked, Value.slice b (List.length hs) c2, Value.string told] ∧ h = h ∧ j ≤ List.length hs ∧ List.length hs - j < List.length hs - i ∧ (∀ (k : Unit), True → True) ∧ ∀ (v : Value) (h : AHeap), False → False)) (∃ (j : Unit), [Value.int IntKind.i64 id, Value.int IntKind.i64 nu, Value.bool asked, Value.slice a (List.length hs) c, Value.string told] = [Value.int IntKind.i64 id, Value.int IntKind.i64 nu, Value.bool asked, Value.slice a (List.length hs) c, Value.string told] ∧ [Value.int IntKind.i64 id, Value.int IntKind.i64 nu, Value.bool asked, Value.slice b (List.length hs) c2, Value.string told] = [Value.int IntKind.i64 id, Value.int IntKind.i64 nu, Value.bool asked, Value.slice b (List.length hs) c2, Value.string told] ∧ h = h ∧ True)) ∧ (True ∧ True ∧ True) ∧ (True ∧ (True ∧ True) ∧ True) ∧ True) ∧ True ∧ True) = _) ?_
    simp only [true_and, and_true]
    rintro i hi
    refine bs_d (fun hlt => ?_) (fun hge => ⟨(), trivial⟩)
    obtain ⟨⟨f, t⟩, hat⟩ : ∃ y : Int × ByteArray, hs[i]? = some y := ⟨_, List.getElem?_eq_getElem (by omega)⟩
    obtain ⟨l1, r1, row1, ha1, _, hrd1, hld1⟩ := hx.elem hat
    obtain rfl := rd_heard.1 hrd1
    obtain ⟨l2, r2, row2, ha2, _, hrd2, hld2⟩ := hy.elem hat
    obtain rfl := rd_heard.1 hrd2
    dsimp only at hld1 hld2
    refine ⟨l1, r1, ha1, by omega, hlt, _, _, hld1, l2, r2, ha2, by omega, hlt, _, _, hld2, ?_⟩
    rw [decide_eq_true rfl, decide_eq_true rfl]
    exact ⟨i + 1, by rw [wrap_i64 (by omega)]; rfl, by omega, by omega, fun _ h => h, fun _ _ h => h⟩
  refine vc_mp (by kernel_rfl : (bs (!decide (id = id)) (Value.bool false = Value.bool true ∧ h = h) (bs (!decide (nu = nu)) (Value.bool false = Value.bool true ∧ h = h) (bs (!decide (asked = asked)) (Value.bool false = Value.bool true ∧ h = h) (bs (!decide (told = told)) (Value.bool false = Value.bool true ∧ h = h) (bs (!decide ((↑(List.length hs) : Int) = (↑(List.length hs) : Int))) (Value.bool false = Value.bool true ∧ h = h) (∃ (i : Nat), Value.complex FloatKind.f32 (0 : Nat) (0 : Nat) = Value.complex FloatKind.f32 (0 : Nat) (0 : Nat) ∧ Value.complex FloatKind.f32 (1 : Nat) (0 : Nat) = Value.complex FloatKind.f32 (1 : Nat) (0 : Nat) ∧ Value.int IntKind.i64 (0 : Int) = Value.int IntKind.i64 (↑i : Int) ∧ [Value.int IntKind.i64 id, Value.int IntKind.i64 nu, Value.bool asked, Value.slice a (List.length hs) c, Value.string told] = [Value.int IntKind.i64 id, Value.int IntKind.i64 nu, Value.bool asked, Value.slice a (List.length hs) c, Value.string told] ∧ [Value.int IntKind.i64 id, Value.int IntKind.i64 nu, Value.bool asked, Value.slice b (List.length hs) c2, Value.string told] = [Value.int IntKind.i64 id, Value.int IntKind.i64 nu, Value.bool asked, Value.slice b (List.length hs) c2, Value.string told] ∧ h = h ∧ i ≤ List.length hs ∧ (∀ (j : Unit), True → Value.bool true = Value.bool true ∧ h = h) ∧ ∀ (v : Value) (h_1 : AHeap), False → v = Value.bool true ∧ h_1 = h)))))) = _) ?_
  exact bs_dn (fun hne => absurd rfl hne) fun _ => bs_dn (fun hne => absurd rfl hne) fun _ => bs_dn (fun hne => absurd rfl hne) fun _ => bs_dn (fun hne => absurd rfl hne) fun _ => bs_dn (fun hne => absurd rfl hne) fun _ => ⟨0, rfl, rfl, rfl, rfl, rfl, rfl, Nat.zero_le _, fun _ _ => ⟨rfl, rfl⟩, fun _ _ h => h.elim⟩
end Go.Proofs.Ytanienlcebkijaa
end
section
namespace Go.Dat
open Go.Abs
theorem ba_app_inj {a b c d : ByteArray} (h : a ++ b = c ++ d) (hs : a.size = c.size) : a = c ∧ b = d := by
  have h1 : a.data.toList ++ b.data.toList = c.data.toList ++ d.data.toList := by
    have := congrArg (fun x : ByteArray => x.data.toList) h
    simpa using this
  have hl : a.data.toList.length = c.data.toList.length := by rw [Array.length_toList, Array.length_toList]; exact hs
  obtain ⟨e1, e2⟩ := List.append_inj h1 hl
  exact ⟨ba_ext e1, ba_ext e2⟩
def At (t : ByteArray) (a : Nat) (x : ByteArray) : Prop := t.extract a (a + x.size) = x ∧ a + x.size ≤ t.size
theorem At.self (t : ByteArray) : At t 0 t := ⟨by rw [Nat.zero_add]; apply ba_ext; simp, by omega⟩
theorem At.split {t : ByteArray} {a : Nat} {x y : ByteArray} (h : At t a (x ++ y)) : At t a x ∧ At t (a + x.size) y := by
  obtain ⟨h1, h2⟩ := h
  rw [ByteArray.size_append] at h1 h2
  rw [extract_split (b := a + x.size) (by omega) (by omega)] at h1
  have e1 : (t.extract a (a + x.size)).size = x.size := by rw [ByteArray.size_extract]; omega
  obtain ⟨e2, e3⟩ := ba_app_inj h1 e1
  exact ⟨⟨e2, by omega⟩, ⟨by rw [Nat.add_assoc]; exact e3, by omega⟩⟩
theorem gn_fwd : ∀ (w : Nat) (t : ByteArray) (a i u0 : Nat), i ≤ 9 → At t (a + i) (vb w) → w * 128 ^ i < 18446744073709551616 → (0 < i → 0 < w) → gn t a i u0 = some (u0 + w * 128 ^ i, a + i + (vb w).size) := by
  intro w
  induction w using Nat.strongRecOn with
  | ind w ih =>
    intro t a i u0 hi h hw hp
    rw [gn]
    by_cases hlo : w < 128
    · rw [vb_lo hlo] at h ⊢
      obtain ⟨h1, h2⟩ := h
      have hs : (oneB w).size = 1 := rfl
      rw [hs] at h1 h2 ⊢
      rw [extract_one (by omega)] at h1
      have hb := oneB_inj (bN_lt _ _) (by omega) h1
      rw [if_neg (by omega), hb, if_neg (fun e => by
        obtain ⟨e1, e2⟩ := e
        subst e1
        have h9 : 128 ^ 9 = 9223372036854775808 := by decide
        rw [h9] at hw
        omega), if_neg (by omega), if_neg (fun e => by have := hp e.2; omega)]
    · rw [vb_hi hlo] at h ⊢
      obtain ⟨A1, A2⟩ := h.split
      have hs : (oneB (w % 128 + 128)).size = 1 := rfl
      rw [hs] at A2
      obtain ⟨h1, h2⟩ := A1
      rw [hs] at h1 h2
      rw [extract_one (by omega)] at h1
      have hb := oneB_inj (bN_lt _ _) (by omega) h1
      have hi8 : i ≤ 8 := by
        by_cases e : i = 9
        · subst e
          have h9 : 128 ^ 9 = 9223372036854775808 := by decide
          rw [h9] at hw
          omega
        · omega
      have e1 : 128 ^ (i + 1) = 128 ^ i * 128 := Nat.pow_succ _ _
      have e2 : w * 128 ^ i = w % 128 * 128 ^ i + w / 128 * 128 ^ (i + 1) := by
        rw [e1, Nat.mul_comm (128 ^ i) 128, ← Nat.mul_assoc, ← Nat.add_mul]
        congr 1; omega
      rw [if_neg (by omega), hb, if_neg (by omega), if_pos (by omega)]
      have := ih (w / 128) (by omega) t a (i + 1) (u0 + (w % 128 + 128) % 128 * 128 ^ i) (by omega) (by rw [← Nat.add_assoc]; exact A2) (by omega) (by omega)
      rw [this, ByteArray.size_append, hs, show (w % 128 + 128) % 128 = w % 128 by omega]
      congr 2
      · omega
      · omega
theorem unfold_fold {n : Int} (h : -9223372036854775808 ≤ n ∧ n ≤ 9223372036854775807) : unfoldN (foldN n) = n := by
  unfold foldN unfoldN
  split <;> (split <;> omega)
theorem pNum_fwd {t : ByteArray} {a : Nat} {n : Int} (hn : -9223372036854775808 ≤ n ∧ n ≤ 9223372036854775807) (h : At t a (vb (foldN n))) : pNum t a = some (n, a + (vb (foldN n)).size) := by
  unfold pNum
  have hf := foldN_lt hn
  rw [gn_fwd (foldN n) t a 0 0 (by omega) h (by omega) (by omega)]
  simp only [Option.map_some, Nat.pow_zero, Nat.mul_one, Nat.zero_add, Nat.add_zero, unfold_fold hn]
theorem pWord_fwd {t : ByteArray} {a : Nat} {s : ByteArray} (hs : s.size ≤ 20000) (h : At t a (vt s)) : pWord t a = some (s, a + (vt s).size) := by
  unfold vt at h ⊢
  obtain ⟨A1, A2⟩ := h.split
  have h2 := A2.2
  unfold pWord
  rw [pNum_fwd (by omega) A1]
  dsimp only
  rw [if_pos (by omega), ByteArray.size_append, show ((s.size : Int)).toNat = s.size from rfl, A2.1, Nat.add_assoc]
theorem Rd.get {α : Type} {p : Option (α × Nat)} {t : ByteArray} {x y : α} {a' e : Nat} {b' : Bool} (r : Rd p t false x a' b') (h : p = some (y, e)) : y = x ∧ e = a' ∧ b' = false := by
  cases b' with
  | true => have := r.no rfl rfl; rw [h] at this; cases this
  | false =>
    have := r.ok rfl rfl
    rw [h] at this
    cases this
    exact ⟨rfl, rfl, rfl⟩
end Go.Dat
end
section
namespace Go.Dat
open Go.Abs
end Go.Dat
namespace Go.Proofs.Ytanienlcebkijaa
open Go.Abs Go.Dat
set_option maxRecDepth 100000
set_option maxHeartbeats 8000000
end Go.Proofs.Ytanienlcebkijaa
end
section
namespace Go.Dat
open Go.Abs
end Go.Dat
namespace Go.Proofs.Ytanienlcebkijaa
open Go.Abs Go.Dat
set_option maxRecDepth 100000
set_option maxHeartbeats 8000000
end Go.Proofs.Ytanienlcebkijaa
end
section
namespace Go.Proofs.Ytanienlcebkijaa
open Go.Abs Go.Dat
set_option maxRecDepth 100000
set_option maxHeartbeats 8000000
theorem small_cmd {cl nu ki : Int} {topic group text : ByteArray} {n : Int} (b3 : -9223372036854775808 ≤ ki ∧ ki ≤ 9223372036854775807) (b4 : -9223372036854775808 ≤ n ∧ n ≤ 9223372036854775807) (H : CmdOk cl nu ki topic group text n) : (cmdB cl nu ki topic group text n).size ≤ 20000 ∧ topic.size ≤ 40 ∧ group.size ≤ 40 ∧ text.size ≤ 40 := by
  have z : (⟨#[]⟩ : ByteArray).size = 0 := rfl
  have h1 := H.2.2.1.2.1
  have key : group.size ≤ 40 ∧ text.size ≤ 40 := by
    rcases H.2.2.2 with ⟨_, rfl, rfl, _⟩ | ⟨_, h2, rfl, _⟩ | ⟨_, h2, rfl, _⟩ | ⟨_, rfl, rfl, _⟩
    · omega
    · have := h2.2; omega
    · have := h2.2.1; omega
    · omega
  have s1 := vb_size10 (n := cl) (by have := H.1; omega)
  have s2 := vb_size10 (n := nu) (by have := H.2.1; omega)
  have s3 := vb_size10 b3
  have s7 := vb_size10 b4
  have s4 := vb_size10 (n := (topic.size : Int)) (by omega)
  have s5 := vb_size10 (n := (group.size : Int)) (by omega)
  have s6 := vb_size10 (n := (text.size : Int)) (by omega)
  refine ⟨?_, by omega, key.1, key.2⟩
  unfold cmdB vt
  simp only [ByteArray.size_append]
  omega
theorem l06Read_fwd (h : AHeap) (hw : h.wf) (cl nu ki : Int) (topic group text : ByteArray) (n : Int) (b3 : -9223372036854775808 ≤ ki ∧ ki ≤ 9223372036854775807) (b4 : -9223372036854775808 ≤ n ∧ n ≤ 9223372036854775807) (H : CmdOk cl nu ki topic group text n) :
    ∃ v h', ACall Try.prog 134 [.string (cmdB cl nu ki topic group text n)] h v h' ∧ h.Le h' ∧ h'.wf ∧ v = .tuple #[.agg #[.int .i64 cl, .int .i64 nu, .int .i64 ki, .string topic, .string group, .string text, .int .i64 n], .bool true] := by
  obtain ⟨ht, z1, z2, z3⟩ := small_cmd b3 b4 H
  have bc : -9223372036854775808 ≤ cl ∧ cl ≤ 9223372036854775807 := by have := H.1; omega
  have bn : -9223372036854775808 ≤ nu ∧ nu ≤ 9223372036854775807 := by have := H.2.1; omega
  obtain ⟨t, et⟩ : ∃ t, t = cmdB cl nu ki topic group text n := ⟨_, rfl⟩
  have S := At.self t
  have hne : t ≠ ⟨#[]⟩ := by rw [et]; exact cmdB_pos
  rw [← et] at ht ⊢
  have S0 := S
  rw [show t = vb (foldN cl) ++ vb (foldN nu) ++ vb (foldN ki) ++ vt topic ++ vt group ++ vt text ++ vb (foldN n) from et] at S0
  rw [← show t = vb (foldN cl) ++ vb (foldN nu) ++ vb (foldN ki) ++ vt topic ++ vt group ++ vt text ++ vb (foldN n) from et] at S0
  have key : At t 0 (vb (foldN cl) ++ vb (foldN nu) ++ vb (foldN ki) ++ vt topic ++ vt group ++ vt text ++ vb (foldN n)) := by
    rw [← show t = vb (foldN cl) ++ vb (foldN nu) ++ vb (foldN ki) ++ vt topic ++ vt group ++ vt text ++ vb (foldN n) from et]; exact S
  simp only [ba_assoc] at key
  obtain ⟨k1, key⟩ := key.split
  obtain ⟨k2, key⟩ := key.split
  obtain ⟨k3, key⟩ := key.split
  obtain ⟨k4, key⟩ := key.split
  obtain ⟨k5, key⟩ := key.split
  obtain ⟨k6, k7⟩ := key.split
  have wp := hw.push (rdO t 0 false)
  have lp := AHeap.Le.push hw (rdO t 0 false)
  have hg0 : (h.push (rdO t 0 false)).get h.n = some (rdO t 0 false) := AHeap.get_push_eq
  obtain ⟨_, g1, A1, w1, o1, x1, a1, b1, rfl, hx1, hg1, R1⟩ := srnum_spec _ wp h.n t 0 false ht (Nat.zero_le _) hg0
  obtain ⟨rfl, rfl, rfl⟩ := R1.get (pNum_fwd bc k1)
  obtain ⟨_, g2, A2, w2, o2, x2, a2, b2, rfl, hx2, hg2, R2⟩ := srnum_spec g1 w1 h.n t _ false ht R1.le hg1
  obtain ⟨rfl, rfl, rfl⟩ := R2.get (pNum_fwd bn k2)
  obtain ⟨_, g3, A3, w3, o3, x3, a3, b3', rfl, hx3, hg3, R3⟩ := srnum_spec g2 w2 h.n t _ false ht R2.le hg2
  obtain ⟨rfl, rfl, rfl⟩ := R3.get (pNum_fwd b3 k3)
  obtain ⟨_, g4, A4, w4, o4, x4, a4, b4', rfl, hx4, hg4, R4⟩ := srtext_spec g3 w3 h.n t _ false ht R3.le hg3
  obtain ⟨rfl, rfl, rfl⟩ := R4.get (pWord_fwd (by omega) k4)
  obtain ⟨_, g5, A5, w5, o5, x5, a5, b5, rfl, hx5, hg5, R5⟩ := srtext_spec g4 w4 h.n t _ false ht R4.le hg4
  obtain ⟨rfl, rfl, rfl⟩ := R5.get (pWord_fwd (by omega) k5)
  obtain ⟨_, g6, A6, w6, o6, x6, a6, b6, rfl, hx6, hg6, R6⟩ := srtext_spec g5 w5 h.n t _ false ht R5.le hg5
  obtain ⟨rfl, rfl, rfl⟩ := R6.get (pWord_fwd (by omega) k6)
  obtain ⟨_, g7, A7, w7, o7, x7, a7, b7, rfl, hx7, hg7, R7⟩ := srnum_spec g6 w6 h.n t _ false ht R6.le hg6
  obtain ⟨rfl, rfl, rfl⟩ := R7.get (pNum_fwd b4 k7)
  have k7 : Kp [h.n] h g7 := (Kp.of_le lp).trans (o1.kp.trans (o2.kp.trans (o3.kp.trans (o4.kp.trans (o5.kp.trans (o6.kp.trans o7.kp))))))
  have le7 : h.Le g7 := k7.le hw (fun z hz => by simp at hz; omega)
  obtain ⟨_, g8, A8, le8, w8, rfl⟩ := specCommandBytes g7 w7 cl nu ki topic group text n bc bn b3 b4 (by omega) (by omega)
  rw [show cmdT cl nu ki topic group text n = t from by unfold cmdT; rw [if_pos H, et]] at A8
  obtain ⟨_, _, f2, _⟩ := rd_ld hg7
  refine acall_q fun Q HQ => ?_
  refine acall_vc (fun t => t == 8) (fun r => match r with | 9 => [(1, 0, []), (2, 0, []), (3, 0, []), (0, 1, []), (4, 1, []), (5, 0, []), (6, 0, []), (7, 0, []), (8, 0, []), (9, 0, []), (10, 0, []), (13, 0, []), (11, 1, []), (12, 3, [0]), (14, 0, []), (15, 0, []), (16, 3, []), (17, 0, [])] | _ => []) (fun _ => .none) mixed Try.func134 rfl rfl rfl (Nat.le_of_ble_eq_true rfl) (by refine vc_mp (by kernel_rfl : (True ∧ True ∧ True ∧ True ∧ True ∧ True ∧ True ∧ True ∧ True ∧ True ∧ True) = _) ?_; simp only [and_self]) ?_
  refine vc_mp (by kernel_rfl : (∃ (x : Int), ∃ (h' : AHeap), ACall Try.prog (169 : Nat) [Value.pointer (some (Addr.mk (AHeap.n h) (0 : Nat) (some (0 : Nat))))] (AHeap.push h (AObj.mk [[Value.string t, Value.int IntKind.i64 (Int.ofNat (0 : Nat)), Value.bool false]] (3 : Nat) true)) (Value.int IntKind.i64 x) h' ∧ ∃ (x_1 : Int), ∃ (h'_1 : AHeap), ACall Try.prog (169 : Nat) [Value.pointer (some (Addr.mk (AHeap.n h) (0 : Nat) (some (0 : Nat))))] h' (Value.int IntKind.i64 x_1) h'_1 ∧ ∃ (x_2 : Int), ∃ (h' : AHeap), ACall Try.prog (169 : Nat) [Value.pointer (some (Addr.mk (AHeap.n h) (0 : Nat) (some (0 : Nat))))] h'_1 (Value.int IntKind.i64 x_2) h' ∧ ∃ (x_3 : ByteArray), ∃ (h'_2 : AHeap), ACall Try.prog (170 : Nat) [Value.pointer (some (Addr.mk (AHeap.n h) (0 : Nat) (some (0 : Nat))))] h' (Value.string x_3) h'_2 ∧ ∃ (x_4 : ByteArray), ∃ (h' : AHeap), ACall Try.prog (170 : Nat) [Value.pointer (some (Addr.mk (AHeap.n h) (0 : Nat) (some (0 : Nat))))] h'_2 (Value.string x_4) h' ∧ ∃ (x_5 : ByteArray), ∃ (h'_3 : AHeap), ACall Try.prog (170 : Nat) [Value.pointer (some (Addr.mk (AHeap.n h) (0 : Nat) (some (0 : Nat))))] h' (Value.string x_5) h'_3 ∧ ∃ (x_6 : Int), ∃ (h' : AHeap), ACall Try.prog (169 : Nat) [Value.pointer (some (Addr.mk (AHeap.n h) (0 : Nat) (some (0 : Nat))))] h'_3 (Value.int IntKind.i64 x_6) h' ∧ ∃ (x_7 : Bool), AHeap.ld h' (AHeap.n h) (0 : Nat) (2 : Nat) (1 : Nat) = some [Value.bool x_7] ∧ bs (!x_7) (bs (!decide (t = ByteArray.mk (Array.mk []))) (∃ (x_8 : ByteArray), ∃ (h'_4 : AHeap), ACall Try.prog (133 : Nat) [Value.agg (Array.mk [Value.int IntKind.i64 x, Value.int IntKind.i64 x_1, Value.int IntKind.i64 x_2, Value.string x_3, Value.string x_4, Value.string x_5, Value.int IntKind.i64 x_6])] h' (Value.string x_8) h'_4 ∧ Value.agg (Array.mk [Value.int IntKind.i64 x, Value.int IntKind.i64 x_1, Value.int IntKind.i64 x_2, Value.string x_3, Value.string x_4, Value.string x_5, Value.int IntKind.i64 x_6]) = Value.agg (Array.mk [Value.int IntKind.i64 x, Value.int IntKind.i64 x_1, Value.int IntKind.i64 x_2, Value.string x_3, Value.string x_4, Value.string x_5, Value.int IntKind.i64 x_6]) ∧ Q (Value.tuple (Array.mk [Value.agg (Array.mk [Value.int IntKind.i64 x, Value.int IntKind.i64 x_1, Value.int IntKind.i64 x_2, Value.string x_3, Value.string x_4, Value.string x_5, Value.int IntKind.i64 x_6]), Value.bool (decide (x_8 = t))])) h'_4) (Q (Value.tuple (Array.mk [Value.agg (Array.mk [Value.int IntKind.i64 x, Value.int IntKind.i64 x_1, Value.int IntKind.i64 x_2, Value.string x_3, Value.string x_4, Value.string x_5, Value.int IntKind.i64 x_6]), Value.bool false])) h')) (Q (Value.tuple (Array.mk [Value.agg (Array.mk [Value.int IntKind.i64 x, Value.int IntKind.i64 x_1, Value.int IntKind.i64 x_2, Value.string x_3, Value.string x_4, Value.string x_5, Value.int IntKind.i64 x_6]), Value.bool false])) h')) = _) ?_
  refine ⟨_, _, A1, _, _, A2, _, _, A3, _, _, A4, _, _, A5, _, _, A6, _, _, A7, ?_⟩
  refine ⟨_, f2, bs_nb (fun _ => bs_dn (fun _ => ⟨_, _, A8, rfl, HQ _ _ ⟨le7.trans le8, w8, ?_⟩⟩) (fun e => absurd e hne)) (fun e => by cases e)⟩
  rw [decide_eq_true rfl]
theorem commandRead_fwd (h : AHeap) (hw : h.wf) (cl nu ki : Int) (topic group text : ByteArray) (n : Int) (b3 : -9223372036854775808 ≤ ki ∧ ki ≤ 9223372036854775807) (b4 : -9223372036854775808 ≤ n ∧ n ≤ 9223372036854775807) (H : CmdOk cl nu ki topic group text n) :
    ∃ v h', ACall Try.prog 64 [.string (cmdB cl nu ki topic group text n)] h v h' ∧ h.Le h' ∧ h'.wf ∧ v = .agg #[.int .i64 cl, .int .i64 nu, .int .i64 ki, .string topic, .string group, .string text, .int .i64 n, .int .i64 0] := by
  have ht := (small_cmd b3 b4 H).1
  obtain ⟨_, h1, A1, le1, w1, rfl⟩ := l06Read_fwd h hw cl nu ki topic group text n b3 b4 H
  refine acall_q fun Q HQ => ?_
  refine acall_vc (fun _ => false) (fun _ => []) (fun _ => .none) mixed Try.func64 rfl rfl rfl (Nat.le_of_ble_eq_true rfl) (by refine vc_mp (by kernel_rfl : (True ∧ (True ∧ (True ∧ True) ∧ True) ∧ True ∧ (True ∧ (True ∧ True) ∧ True) ∧ True ∧ True) = _) ?_; simp only [and_self]) ?_
  refine vc_mp (by kernel_rfl : (bs (decide ((↑(ByteArray.size (cmdB cl nu ki topic group text n)) : Int) > (20000 : Int))) (Q (Value.agg (Array.mk [Value.int IntKind.i64 (Int.ofNat (0 : Nat)), Value.int IntKind.i64 (Int.ofNat (0 : Nat)), Value.int IntKind.i64 (Int.ofNat (0 : Nat)), Value.string (ByteArray.mk (Array.mk [])), Value.string (ByteArray.mk (Array.mk [])), Value.string (ByteArray.mk (Array.mk [])), Value.int IntKind.i64 (Int.ofNat (0 : Nat)), Value.int IntKind.i64 (2 : Int)])) h) (∃ (x : Int), ∃ (x_1 : Int), ∃ (x_2 : Int), ∃ (x_3 : ByteArray), ∃ (x_4 : ByteArray), ∃ (x_5 : ByteArray), ∃ (x_6 : Int), ∃ (x_7 : Bool), ∃ (h' : AHeap), ACall Try.prog (134 : Nat) [Value.string (cmdB cl nu ki topic group text n)] h (Value.tuple (Array.mk [Value.agg (Array.mk [Value.int IntKind.i64 x, Value.int IntKind.i64 x_1, Value.int IntKind.i64 x_2, Value.string x_3, Value.string x_4, Value.string x_5, Value.int IntKind.i64 x_6]), Value.bool x_7])) h' ∧ bs (!x_7) (Q (Value.agg (Array.mk [Value.int IntKind.i64 (Int.ofNat (0 : Nat)), Value.int IntKind.i64 (Int.ofNat (0 : Nat)), Value.int IntKind.i64 (Int.ofNat (0 : Nat)), Value.string (ByteArray.mk (Array.mk [])), Value.string (ByteArray.mk (Array.mk [])), Value.string (ByteArray.mk (Array.mk [])), Value.int IntKind.i64 (Int.ofNat (0 : Nat)), Value.int IntKind.i64 (3 : Int)])) h') (Q (Value.agg (Array.mk [Value.int IntKind.i64 x, Value.int IntKind.i64 x_1, Value.int IntKind.i64 x_2, Value.string x_3, Value.string x_4, Value.string x_5, Value.int IntKind.i64 x_6, Value.int IntKind.i64 (Int.ofNat (0 : Nat))])) h'))) = _) ?_
  exact bs_d (fun e => by omega) fun _ => ⟨_, _, _, _, _, _, _, _, _, A1, bs_nb (fun e => by cases e) fun _ => HQ _ _ ⟨le1, w1, rfl⟩⟩
end Go.Proofs.Ytanienlcebkijaa
end
section
namespace Go.Proofs.Ytanienlcebkijaa
open Go.Abs Go.Dat
set_option maxRecDepth 100000
set_option maxHeartbeats 8000000
theorem kOf_spec : ∀ (hs : List heardSh.T) (y : Int), (∀ (j : Nat) (x : heardSh.T), j < kOf hs y → hs[j]? = some x → (show Int from x.1) < y) ∧ ∀ x : heardSh.T, hs[kOf hs y]? = some x → y ≤ (show Int from x.1)
  | [], y => ⟨fun j x _ h => (by cases h), fun x h => (by cases h)⟩
  | z :: hs, y => by
    obtain ⟨h1, h2⟩ := kOf_spec hs y
    by_cases hz : (show Int from z.1) < y
    · have e : kOf (z :: hs) y = kOf hs y + 1 := by
        unfold kOf
        rw [List.takeWhile_cons, decide_eq_true hz]; rfl
      rw [e]
      refine ⟨fun j x hj hx => ?_, fun x hx => h2 x (by simpa using hx)⟩
      cases j with
      | zero => simp at hx; subst hx; exact hz
      | succ j => exact h1 j x (by omega) (by simpa using hx)
    · have e : kOf (z :: hs) y = 0 := by
        unfold kOf
        rw [List.takeWhile_cons, decide_eq_false hz]; rfl
      rw [e]
      refine ⟨fun j x hj => absurd hj (Nat.not_lt_zero _), fun x hx => ?_⟩
      simp at hx; subst hx; omega
theorem hok_ins {hs : List heardSh.T} (H : ∀ i, i < hs.length → HOk hs i) {f : Int} (hf : 0 ≤ f ∧ f ≤ 3) {t : ByteArray} (ht : t.size ≤ 900) (hno : ¬ ∃ x : heardSh.T, hs[kOf hs f]? = some x ∧ (show Int from x.1) = f) : ∀ i, i < (ins hs (kOf hs f) (f, t)).length → HOk (ins hs (kOf hs f) (f, t)) i := by
  have hk := kOf_le hs f
  obtain ⟨h1, h2⟩ := kOf_spec hs f
  have get := fun j => ins_get (xs := hs) (x := ((f, t) : heardSh.T)) hk j
  intro i hi
  rw [ins_length hk] at hi
  rcases Nat.lt_trichotomy i (kOf hs f) with c | c | c
  · obtain ⟨g, u, e, b, s, p⟩ := H i (by omega)
    refine ⟨g, u, by rw [get i, if_pos c]; exact e, b, s, fun j hj => ?_⟩
    obtain ⟨g', u', e', l'⟩ := p j hj
    exact ⟨g', u', by rw [get j, if_pos (by omega)]; exact e', l'⟩
  · refine ⟨f, t, by rw [get i, if_neg (by omega), if_pos c], hf, ht, fun j hj => ?_⟩
    obtain ⟨g, u, e, _⟩ := H j (by omega)
    exact ⟨g, u, by rw [get j, if_pos (by omega)]; exact e, h1 j (g, u) (by omega) e⟩
  · obtain ⟨g, u, e, b, s, p⟩ := H (i - 1) (by omega)
    refine ⟨g, u, by rw [get i, if_neg (by omega), if_neg (by omega)]; exact e, b, s, fun j hj => ?_⟩
    by_cases cj : j = kOf hs f
    · refine ⟨f, t, by rw [get j, if_neg (by omega), if_pos cj], ?_⟩
      rw [show i - 1 = kOf hs f by omega] at e
      have h3 := h2 (g, u) e
      have h4 : g ≠ f := fun e4 => hno ⟨(g, u), e, e4⟩
      have h5 : f ≤ g := h3
      omega
    · obtain ⟨g', u', e', l'⟩ := p (j - 1) (by omega)
      exact ⟨g', u', by rw [get j, if_neg (by omega), if_neg cj]; exact e', l'⟩
theorem hear_law {c : clientSh.T} {f : Int} {r : replySh.T} (h : (show Int from (clientHearM c f r).2.2) = 0) :
    ClientOk (clientHearM c f r).1.1 (clientHearM c f r).1.2.1 (clientHearM c f r).1.2.2.1 (clientHearM c f r).1.2.2.2.1 (clientHearM c f r).1.2.2.2.2 ∧
    (((clientHearM c f r).1.2.2.1 = true ∧ List.length (clientHearM c f r).1.2.2.2.1 = List.length (α := heardSh.T) c.2.2.2.1 + 1) ∨
     ((clientHearM c f r).1.2.2.1 = false ∧ (clientHearM c f r).1.2.2.2.2 = r.2.2 ∧ ∃ (i : Nat) (g : Int), (show List heardSh.T from c.2.2.2.1)[i]? = some (g, r.2.2) ∧ g ≠ f)) := by
  unfold clientHearM at h ⊢
  split
  · rename_i h1; rw [if_pos h1] at h; exact absurd h (by decide)
  rename_i h1
  rw [if_neg h1] at h
  obtain ⟨⟨C1, C2, C3, C4, C5, C6, C7⟩, F, R⟩ := Classical.not_not.1 h1
  split
  · rename_i h2; rw [if_pos h2] at h; exact absurd h (by decide)
  rename_i h2
  rw [if_neg h2] at h
  have ha : (show Bool from c.2.2.1) = true := by
    cases hb : (show Bool from c.2.2.1) with
    | true => rfl
    | false => exact absurd (.inl hb) h2
  split
  · rename_i h3; rw [if_pos h3] at h; exact absurd h (by decide)
  rename_i h3
  have hnum : (show Int from c.2.1) ≠ 0 := fun e => C5 ⟨ha, e⟩
  split
  · rename_i h4
    obtain ⟨x, hx, hx2⟩ := h4
    refine ⟨⟨C1, C2, R, fun e => e.1.elim (fun h => (by cases h)) hnum, fun e => (by cases e.1), fun e => absurd e.2 (Nat.lt_irrefl _), fun i hi => absurd hi (Nat.not_lt_zero _)⟩, .inr ⟨rfl, rfl, ?_⟩⟩
    obtain ⟨i, hi⟩ := List.mem_iff_getElem?.1 hx
    obtain ⟨g, u⟩ := x
    have hx2 : u = r.2.2 := hx2
    rw [hx2] at hi
    refine ⟨i, g, hi, fun e => h3 ?_⟩
    have ek : kOf c.2.2.2.1 f = i := kOf_eq (by have := (List.getElem?_eq_some_iff.1 hi).1; omega) (fun j y hj hy => by
      have := heardAsc C7 j i y _ hj hy hi
      have e2 : (show Int from y.1) < g := this
      omega) (fun y hy => by rw [hi] at hy; cases hy; show f ≤ g; omega)
    rw [ek]
    exact ⟨_, hi, e⟩
  · refine ⟨⟨C1, C2, Nat.zero_le _, fun e => absurd rfl e.2, fun e => hnum e.2, fun e => (by cases e.1), hok_ins C7 F R h3⟩, .inl ⟨rfl, ?_⟩⟩
    exact ins_length (kOf_le _ _)
theorem ask_law {id number : Int} {asked : Bool} {hs : List heardSh.T} {told : ByteArray} {ki : Int} {topic group text : ByteArray} {n : Int} (h : (askT id number asked hs told ki topic group text n).2.2.2.2 = 0) :
    askT id number asked hs told ki topic group text n = (id, number + 1, true, cmdB id (number + 1) ki topic group text n, 0) ∧ ClientOk id (number + 1) true [] ⟨#[]⟩ ∧ CmdOk id (number + 1) ki topic group text n := by
  unfold askT at h ⊢
  split
  · rename_i h1; rw [if_pos h1] at h; exact absurd h (by decide)
  rename_i h1
  rw [if_neg h1] at h
  obtain ⟨C1, C2, _⟩ := Classical.not_not.1 h1
  split
  · rename_i h2; rw [if_pos h2] at h; exact absurd h (by decide)
  rename_i h2; rw [if_neg h2] at h
  split
  · rename_i h3; rw [if_pos h3] at h; exact absurd h (by decide)
  rename_i h3; rw [if_neg h3] at h
  split
  · rename_i h4; rw [if_pos h4] at h; exact absurd h (by decide)
  rename_i h4
  exact ⟨rfl, ⟨C1, by omega, Nat.zero_le _, fun e => absurd rfl e.2, fun e => (by have := e.2; omega), fun e => (by cases e.1), fun i hi => absurd hi (Nat.not_lt_zero _)⟩, Classical.not_not.1 h4⟩
end Go.Proofs.Ytanienlcebkijaa
end
