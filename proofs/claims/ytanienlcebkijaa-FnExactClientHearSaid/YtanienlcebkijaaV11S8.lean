/- The law FnExactClientHear tells true. Written by law.py. -/
import Derived.Test.YtanienlcebkijaaV11V6
import Derived.Test.YtanienlcebkijaaV11N2
import Derived.Test.YtanienlcebkijaaV11K1
namespace Go.Proofs.Ytanienlcebkijaa
open Go.Abs Go.Dat
set_option maxRecDepth 100000
set_option maxHeartbeats 8000000
theorem lawClientHear (h : AHeap) (hw : h.wf) (a0 : clientSh.T) (v0_1 : Value) (s0_1 : Sl h heardSh a0.2.2.2.1 v0_1) (ok0 : clientSh.ok a0) (a1 : Int) (b1 : -9223372036854775808 ≤ a1 ∧ a1 ≤ 9223372036854775807) (a2 : replySh.T) (ok2 : replySh.ok a2) :
    ∃ v h', ACall Try.prog 5 [.agg #[.int .i64 a0.1, .int .i64 a0.2.1, .bool a0.2.2.1, v0_1, .string a0.2.2.2.2], .int .i64 a1, .agg #[.int .i64 a2.1, .int .i64 a2.2.1, .string a2.2.2]] h v h' ∧ v = .bool true := by
  obtain ⟨T, hT⟩ : ∃ T, T = (clientHearM a0 a1 a2) := ⟨_, rfl⟩
  refine acall_q fun Q HQ => ?_
  refine acall_vc (fun t => t == 8 || t == 10 || t == 14) (fun r => match r with | 8 => [(6, 2, []), (2, 0, []), (0, 1, []), (3, 1, []), (1, 3, [6, 3]), (4, 3, [6]), (5, 3, [6]), (7, 3, [])] | 10 => [(5, 2, []), (1, 0, []), (0, 1, []), (2, 1, []), (3, 3, [5, 0]), (4, 3, [5]), (6, 3, [])] | 13 => [(0, 1, []), (1, 1, []), (2, 3, [0]), (3, 3, []), (4, 0, [])] | 27 => [(6, 2, []), (2, 0, []), (0, 1, []), (3, 1, []), (1, 3, [6, 3]), (4, 3, [6]), (5, 3, [6]), (7, 3, [])] | _ => []) (fun _ => .none) mixed Try.func5 rfl rfl rfl (Nat.le_of_ble_eq_true rfl) (by refine vc_mp (by kernel_rfl : (True ∧ True ∧ True ∧ (True ∧ (True ∧ True) ∧ True) ∧ True ∧ (True ∧ (True ∧ True) ∧ True) ∧ True ∧ True ∧ True ∧ (True ∧ (True ∧ True) ∧ True) ∧ (True ∧ (True ∧ True) ∧ True) ∧ True ∧ True ∧ (True ∧ (True ∧ True) ∧ True) ∧ True ∧ True ∧ True ∧ True ∧ (True ∧ (True ∧ True) ∧ True) ∧ (True ∧ (True ∧ True) ∧ True) ∧ True ∧ (True ∧ (True ∧ True) ∧ True) ∧ True ∧ True ∧ (True ∧ (True ∧ True) ∧ True) ∧ (True ∧ (True ∧ True) ∧ True) ∧ True ∧ True) = _) ?_; simp only [and_self]) ?_
  refine vc_mp (by kernel_rfl : (∃ (x : Int), ∃ (h' : AHeap), ACall Try.prog (19 : Nat) [Value.agg (Array.mk [Value.int IntKind.i64 (Prod.fst a0), Value.int IntKind.i64 (Prod.fst (Prod.snd a0)), Value.bool (Prod.fst (Prod.snd (Prod.snd a0))), v0_1, Value.string (Prod.snd (Prod.snd (Prod.snd (Prod.snd a0))))]), Value.int IntKind.i64 (1048576 : Int)] h (Value.int IntKind.i64 x) h' ∧ bs (decide (x < (0 : Int))) (Q (Value.bool true) h') (∃ (x_1 : Int), ∃ (h'_1 : AHeap), ACall Try.prog (20 : Nat) [Value.agg (Array.mk [Value.int IntKind.i64 (Prod.fst a2), Value.int IntKind.i64 (Prod.fst (Prod.snd a2)), Value.string (Prod.snd (Prod.snd a2))]), Value.int IntKind.i64 x] h' (Value.int IntKind.i64 x_1) h'_1 ∧ bs (decide (x_1 < (0 : Int))) (Q (Value.bool true) h'_1) (∃ (x : Int), ∃ (x_2 : Int), ∃ (x_3 : Bool), ∃ (a : Option Addr), ∃ (n : Nat), ∃ (c : Nat), ∃ (x_4 : ByteArray), ∃ (h' : AHeap), ACall Try.prog (22 : Nat) [Value.agg (Array.mk [Value.int IntKind.i64 (Prod.fst a0), Value.int IntKind.i64 (Prod.fst (Prod.snd a0)), Value.bool (Prod.fst (Prod.snd (Prod.snd a0))), v0_1, Value.string (Prod.snd (Prod.snd (Prod.snd (Prod.snd a0))))])] (AHeap.push h'_1 (AObj.mk [[Value.int IntKind.i64 (Int.ofNat (0 : Nat)), Value.int IntKind.i64 (Int.ofNat (0 : Nat)), Value.bool false, Value.slice none (0 : Nat) (0 : Nat), Value.string (ByteArray.mk (Array.mk [])), Value.string (ByteArray.mk (Array.mk [])), Value.int IntKind.i64 (Int.ofNat (0 : Nat))]] (7 : Nat) true)) (Value.agg (Array.mk [Value.int IntKind.i64 x, Value.int IntKind.i64 x_2, Value.bool x_3, Value.slice a n c, Value.string x_4])) h' ∧ Value.agg (Array.mk [Value.int IntKind.i64 (Prod.fst a2), Value.int IntKind.i64 (Prod.fst (Prod.snd a2)), Value.string (Prod.snd (Prod.snd a2))]) = Value.agg (Array.mk [Value.int IntKind.i64 (Prod.fst a2), Value.int IntKind.i64 (Prod.fst (Prod.snd a2)), Value.string (Prod.snd (Prod.snd a2))]) ∧ (AHeap.get h' (AHeap.n h'_1) = AHeap.get (AHeap.push h'_1 (AObj.mk [[Value.int IntKind.i64 (Int.ofNat (0 : Nat)), Value.int IntKind.i64 (Int.ofNat (0 : Nat)), Value.bool false, Value.slice none (0 : Nat) (0 : Nat), Value.string (ByteArray.mk (Array.mk [])), Value.string (ByteArray.mk (Array.mk [])), Value.int IntKind.i64 (Int.ofNat (0 : Nat))]] (7 : Nat) true)) (AHeap.n h'_1) ∧ AHeap.n (AHeap.push h'_1 (AObj.mk [[Value.int IntKind.i64 (Int.ofNat (0 : Nat)), Value.int IntKind.i64 (Int.ofNat (0 : Nat)), Value.bool false, Value.slice none (0 : Nat) (0 : Nat), Value.string (ByteArray.mk (Array.mk [])), Value.string (ByteArray.mk (Array.mk [])), Value.int IntKind.i64 (Int.ofNat (0 : Nat))]] (7 : Nat) true)) ≤ AHeap.n h') ∧ ∃ (x_5 : Int), ∃ (x_6 : Int), ∃ (x_7 : ByteArray), ∃ (h'_2 : AHeap), ACall Try.prog (23 : Nat) [Value.agg (Array.mk [Value.int IntKind.i64 (Prod.fst a2), Value.int IntKind.i64 (Prod.fst (Prod.snd a2)), Value.string (Prod.snd (Prod.snd a2))])] h' (Value.agg (Array.mk [Value.int IntKind.i64 x_5, Value.int IntKind.i64 x_6, Value.string x_7])) h'_2 ∧ (AHeap.get h'_2 (AHeap.n h'_1) = AHeap.get h' (AHeap.n h'_1) ∧ AHeap.n h' ≤ AHeap.n h'_2) ∧ ∃ (x_8 : Int), ∃ (x_9 : Int), ∃ (x_10 : Bool), ∃ (a_1 : Option Addr), ∃ (n_1 : Nat), ∃ (c_1 : Nat), ∃ (x_11 : ByteArray), ∃ (x_12 : ByteArray), ∃ (x_13 : Int), ∃ (h' : AHeap), ACall Try.prog (21 : Nat) [Value.agg (Array.mk [Value.int IntKind.i64 x, Value.int IntKind.i64 x_2, Value.bool x_3, Value.slice a n c, Value.string x_4]), Value.int IntKind.i64 a1, Value.agg (Array.mk [Value.int IntKind.i64 x_5, Value.int IntKind.i64 x_6, Value.string x_7])] h'_2 (Value.agg (Array.mk [Value.int IntKind.i64 x_8, Value.int IntKind.i64 x_9, Value.bool x_10, Value.slice a_1 n_1 c_1, Value.string x_11, Value.string x_12, Value.int IntKind.i64 x_13])) h' ∧ (AHeap.get h' (AHeap.n h'_1) = AHeap.get h'_2 (AHeap.n h'_1) ∧ AHeap.n h'_2 ≤ AHeap.n h') ∧ ∃ (h'_3 : AHeap), AHeap.wr h' (AHeap.n h'_1) (0 : Nat) (0 : Nat) [Value.int IntKind.i64 x_8, Value.int IntKind.i64 x_9, Value.bool x_10, Value.slice a_1 n_1 c_1, Value.string x_11, Value.string x_12, Value.int IntKind.i64 x_13] = some h'_3 ∧ ∃ (x : Int), ∃ (x_14 : Int), ∃ (x_15 : Bool), ∃ (a : Option Addr), ∃ (n : Nat), ∃ (c : Nat), ∃ (x_16 : ByteArray), ∃ (h' : AHeap), ACall Try.prog (22 : Nat) [Value.agg (Array.mk [Value.int IntKind.i64 (Prod.fst a0), Value.int IntKind.i64 (Prod.fst (Prod.snd a0)), Value.bool (Prod.fst (Prod.snd (Prod.snd a0))), v0_1, Value.string (Prod.snd (Prod.snd (Prod.snd (Prod.snd a0))))])] h'_3 (Value.agg (Array.mk [Value.int IntKind.i64 x, Value.int IntKind.i64 x_14, Value.bool x_15, Value.slice a n c, Value.string x_16])) h' ∧ ∃ (x_17 : Int), ∃ (x_18 : Int), ∃ (x_19 : ByteArray), ∃ (h'_4 : AHeap), ACall Try.prog (23 : Nat) [Value.agg (Array.mk [Value.int IntKind.i64 (Prod.fst a2), Value.int IntKind.i64 (Prod.fst (Prod.snd a2)), Value.string (Prod.snd (Prod.snd a2))])] (AHeap.push h' (AObj.mk [[Value.int IntKind.i64 (Int.ofNat (0 : Nat)), Value.int IntKind.i64 (Int.ofNat (0 : Nat)), Value.bool false, Value.slice none (0 : Nat) (0 : Nat), Value.string (ByteArray.mk (Array.mk [])), Value.string (ByteArray.mk (Array.mk [])), Value.int IntKind.i64 (Int.ofNat (0 : Nat))]] (7 : Nat) true)) (Value.agg (Array.mk [Value.int IntKind.i64 x_17, Value.int IntKind.i64 x_18, Value.string x_19])) h'_4 ∧ Value.agg (Array.mk [Value.int IntKind.i64 x, Value.int IntKind.i64 x_14, Value.bool x_15, Value.slice a n c, Value.string x_16]) = Value.agg (Array.mk [Value.int IntKind.i64 x, Value.int IntKind.i64 x_14, Value.bool x_15, Value.slice a n c, Value.string x_16]) ∧ (AHeap.get h'_4 (AHeap.n h') = AHeap.get (AHeap.push h' (AObj.mk [[Value.int IntKind.i64 (Int.ofNat (0 : Nat)), Value.int IntKind.i64 (Int.ofNat (0 : Nat)), Value.bool false, Value.slice none (0 : Nat) (0 : Nat), Value.string (ByteArray.mk (Array.mk [])), Value.string (ByteArray.mk (Array.mk [])), Value.int IntKind.i64 (Int.ofNat (0 : Nat))]] (7 : Nat) true)) (AHeap.n h') ∧ AHeap.n (AHeap.push h' (AObj.mk [[Value.int IntKind.i64 (Int.ofNat (0 : Nat)), Value.int IntKind.i64 (Int.ofNat (0 : Nat)), Value.bool false, Value.slice none (0 : Nat) (0 : Nat), Value.string (ByteArray.mk (Array.mk [])), Value.string (ByteArray.mk (Array.mk [])), Value.int IntKind.i64 (Int.ofNat (0 : Nat))]] (7 : Nat) true)) ≤ AHeap.n h'_4) ∧ ∃ (x_20 : Int), ∃ (x_21 : Int), ∃ (x_22 : Bool), ∃ (a_2 : Option Addr), ∃ (n_2 : Nat), ∃ (c_2 : Nat), ∃ (x_23 : ByteArray), ∃ (x_24 : ByteArray), ∃ (x_25 : Int), ∃ (h'_5 : AHeap), ACall Try.prog (24 : Nat) [Value.agg (Array.mk [Value.int IntKind.i64 x, Value.int IntKind.i64 x_14, Value.bool x_15, Value.slice a n c, Value.string x_16]), Value.int IntKind.i64 a1, Value.agg (Array.mk [Value.int IntKind.i64 x_17, Value.int IntKind.i64 x_18, Value.string x_19])] h'_4 (Value.agg (Array.mk [Value.int IntKind.i64 x_20, Value.int IntKind.i64 x_21, Value.bool x_22, Value.slice a_2 n_2 c_2, Value.string x_23, Value.string x_24, Value.int IntKind.i64 x_25])) h'_5 ∧ (AHeap.get h'_5 (AHeap.n h') = AHeap.get h'_4 (AHeap.n h') ∧ AHeap.n h'_4 ≤ AHeap.n h'_5) ∧ ∃ (h'_6 : AHeap), AHeap.wr h'_5 (AHeap.n h') (0 : Nat) (0 : Nat) [Value.int IntKind.i64 x_20, Value.int IntKind.i64 x_21, Value.bool x_22, Value.slice a_2 n_2 c_2, Value.string x_23, Value.string x_24, Value.int IntKind.i64 x_25] = some h'_6 ∧ ∃ (x_26 : Int), ∃ (x_27 : Int), ∃ (x_28 : Bool), ∃ (a_3 : Option Addr), ∃ (n_3 : Nat), ∃ (c_3 : Nat), ∃ (x_29 : ByteArray), ∃ (x_30 : ByteArray), ∃ (x_31 : Int), AHeap.ld h'_6 (AHeap.n h') (0 : Nat) (0 : Nat) (7 : Nat) = some [Value.int IntKind.i64 x_26, Value.int IntKind.i64 x_27, Value.bool x_28, Value.slice a_3 n_3 c_3, Value.string x_29, Value.string x_30, Value.int IntKind.i64 x_31] ∧ ∃ (x_32 : Int), ∃ (x_33 : Int), ∃ (x_34 : Bool), ∃ (a_4 : Option Addr), ∃ (n_4 : Nat), ∃ (c_4 : Nat), ∃ (x_35 : ByteArray), ∃ (x_36 : ByteArray), ∃ (x_37 : Int), AHeap.ld h'_6 (AHeap.n h'_1) (0 : Nat) (0 : Nat) (7 : Nat) = some [Value.int IntKind.i64 x_32, Value.int IntKind.i64 x_33, Value.bool x_34, Value.slice a_4 n_4 c_4, Value.string x_35, Value.string x_36, Value.int IntKind.i64 x_37] ∧ ∃ (x_38 : Bool), ∃ (h'_7 : AHeap), ACall Try.prog (25 : Nat) [Value.agg (Array.mk [Value.int IntKind.i64 x_26, Value.int IntKind.i64 x_27, Value.bool x_28, Value.slice a_3 n_3 c_3, Value.string x_29, Value.string x_30, Value.int IntKind.i64 x_31]), Value.agg (Array.mk [Value.int IntKind.i64 x_32, Value.int IntKind.i64 x_33, Value.bool x_34, Value.slice a_4 n_4 c_4, Value.string x_35, Value.string x_36, Value.int IntKind.i64 x_37])] h'_6 (Value.bool x_38) h'_7 ∧ bs (!x_38) (Q (Value.bool false) h'_7) (∃ (x_39 : Int), ∃ (x_40 : Int), ∃ (x_41 : Bool), ∃ (a_5 : Option Addr), ∃ (n_5 : Nat), ∃ (c_5 : Nat), ∃ (x_42 : ByteArray), ∃ (h'_8 : AHeap), ACall Try.prog (22 : Nat) [Value.agg (Array.mk [Value.int IntKind.i64 (Prod.fst a0), Value.int IntKind.i64 (Prod.fst (Prod.snd a0)), Value.bool (Prod.fst (Prod.snd (Prod.snd a0))), v0_1, Value.string (Prod.snd (Prod.snd (Prod.snd (Prod.snd a0))))])] h'_7 (Value.agg (Array.mk [Value.int IntKind.i64 x_39, Value.int IntKind.i64 x_40, Value.bool x_41, Value.slice a_5 n_5 c_5, Value.string x_42])) h'_8 ∧ Value.agg (Array.mk [Value.int IntKind.i64 x, Value.int IntKind.i64 x_14, Value.bool x_15, Value.slice a n c, Value.string x_16]) = Value.agg (Array.mk [Value.int IntKind.i64 x, Value.int IntKind.i64 x_14, Value.bool x_15, Value.slice a n c, Value.string x_16]) ∧ ∃ (x_43 : Bool), ∃ (h'_9 : AHeap), ACall Try.prog (26 : Nat) [Value.agg (Array.mk [Value.int IntKind.i64 x, Value.int IntKind.i64 x_14, Value.bool x_15, Value.slice a n c, Value.string x_16]), Value.agg (Array.mk [Value.int IntKind.i64 x_39, Value.int IntKind.i64 x_40, Value.bool x_41, Value.slice a_5 n_5 c_5, Value.string x_42])] h'_8 (Value.bool x_43) h'_9 ∧ bs (!x_43) (Q (Value.bool false) h'_9) (∃ (x_44 : Int), ∃ (h'_10 : AHeap), ACall Try.prog (27 : Nat) [Value.agg (Array.mk [Value.int IntKind.i64 x, Value.int IntKind.i64 x_14, Value.bool x_15, Value.slice a n c, Value.string x_16]), Value.int IntKind.i64 (1 : Int)] h'_9 (Value.int IntKind.i64 x_44) h'_10 ∧ bs (decide (x_44 < (0 : Int))) (Q (Value.bool false) h'_10) (∃ (x : Int), ∃ (x_45 : Int), ∃ (x_46 : Bool), ∃ (a : Option Addr), ∃ (n : Nat), ∃ (c : Nat), ∃ (x_47 : ByteArray), ∃ (x_48 : ByteArray), ∃ (x_49 : Int), AHeap.ld h'_10 (AHeap.n h') (0 : Nat) (0 : Nat) (7 : Nat) = some [Value.int IntKind.i64 x, Value.int IntKind.i64 x_45, Value.bool x_46, Value.slice a n c, Value.string x_47, Value.string x_48, Value.int IntKind.i64 x_49] ∧ ∃ (x_50 : Int), ∃ (x_51 : Int), ∃ (x_52 : Bool), ∃ (a_6 : Option Addr), ∃ (n_6 : Nat), ∃ (c_6 : Nat), ∃ (x_53 : ByteArray), ∃ (x_54 : ByteArray), ∃ (x_55 : Int), AHeap.ld h'_10 (AHeap.n h'_1) (0 : Nat) (0 : Nat) (7 : Nat) = some [Value.int IntKind.i64 x_50, Value.int IntKind.i64 x_51, Value.bool x_52, Value.slice a_6 n_6 c_6, Value.string x_53, Value.string x_54, Value.int IntKind.i64 x_55] ∧ ∃ (x_56 : Bool), ∃ (h'_11 : AHeap), ACall Try.prog (25 : Nat) [Value.agg (Array.mk [Value.int IntKind.i64 x, Value.int IntKind.i64 x_45, Value.bool x_46, Value.slice a n c, Value.string x_47, Value.string x_48, Value.int IntKind.i64 x_49]), Value.agg (Array.mk [Value.int IntKind.i64 x_50, Value.int IntKind.i64 x_51, Value.bool x_52, Value.slice a_6 n_6 c_6, Value.string x_53, Value.string x_54, Value.int IntKind.i64 x_55])] h'_10 (Value.bool x_56) h'_11 ∧ bs (!x_56) (Q (Value.bool false) h'_11) (∃ (x : Int), ∃ (x_57 : Int), ∃ (x_58 : Bool), ∃ (a : Option Addr), ∃ (n : Nat), ∃ (c : Nat), ∃ (x_59 : ByteArray), ∃ (x_60 : ByteArray), ∃ (x_61 : Int), AHeap.ld h'_11 (AHeap.n h') (0 : Nat) (0 : Nat) (7 : Nat) = some [Value.int IntKind.i64 x, Value.int IntKind.i64 x_57, Value.bool x_58, Value.slice a n c, Value.string x_59, Value.string x_60, Value.int IntKind.i64 x_61] ∧ ∃ (x_62 : Int), ∃ (h'_12 : AHeap), ACall Try.prog (28 : Nat) [Value.agg (Array.mk [Value.int IntKind.i64 x, Value.int IntKind.i64 x_57, Value.bool x_58, Value.slice a n c, Value.string x_59, Value.string x_60, Value.int IntKind.i64 x_61]), Value.int IntKind.i64 (1 : Int)] h'_11 (Value.int IntKind.i64 x_62) h'_12 ∧ ∃ (x : Int), ∃ (x_63 : Int), ∃ (x_64 : Bool), ∃ (a : Option Addr), ∃ (n : Nat), ∃ (c : Nat), ∃ (x_65 : ByteArray), ∃ (x_66 : ByteArray), ∃ (x_67 : Int), AHeap.ld h'_12 (AHeap.n h') (0 : Nat) (0 : Nat) (7 : Nat) = some [Value.int IntKind.i64 x, Value.int IntKind.i64 x_63, Value.bool x_64, Value.slice a n c, Value.string x_65, Value.string x_66, Value.int IntKind.i64 x_67] ∧ ∃ (x_68 : Int), ∃ (h'_13 : AHeap), ACall Try.prog (29 : Nat) [Value.agg (Array.mk [Value.int IntKind.i64 x, Value.int IntKind.i64 x_63, Value.bool x_64, Value.slice a n c, Value.string x_65, Value.string x_66, Value.int IntKind.i64 x_67]), Value.int IntKind.i64 (1 : Int)] h'_12 (Value.int IntKind.i64 x_68) h'_13 ∧ bs (decide (x_68 < (0 : Int))) (Q (Value.bool false) h'_13) (bs (!decide (x_68 = x_62)) (Q (Value.bool false) h'_13) (∃ (x : Int), ∃ (x_69 : Int), ∃ (x_70 : Bool), ∃ (a : Option Addr), ∃ (n : Nat), ∃ (c : Nat), ∃ (x_71 : ByteArray), ∃ (h'_14 : AHeap), ACall Try.prog (22 : Nat) [Value.agg (Array.mk [Value.int IntKind.i64 (Prod.fst a0), Value.int IntKind.i64 (Prod.fst (Prod.snd a0)), Value.bool (Prod.fst (Prod.snd (Prod.snd a0))), v0_1, Value.string (Prod.snd (Prod.snd (Prod.snd (Prod.snd a0))))])] (AHeap.push h'_13 (AObj.mk [[Value.int IntKind.i64 (Int.ofNat (0 : Nat)), Value.int IntKind.i64 (Int.ofNat (0 : Nat)), Value.bool false, Value.slice none (0 : Nat) (0 : Nat), Value.string (ByteArray.mk (Array.mk [])), Value.string (ByteArray.mk (Array.mk [])), Value.int IntKind.i64 (Int.ofNat (0 : Nat))]] (7 : Nat) true)) (Value.agg (Array.mk [Value.int IntKind.i64 x, Value.int IntKind.i64 x_69, Value.bool x_70, Value.slice a n c, Value.string x_71])) h'_14 ∧ Value.agg (Array.mk [Value.int IntKind.i64 (Prod.fst a2), Value.int IntKind.i64 (Prod.fst (Prod.snd a2)), Value.string (Prod.snd (Prod.snd a2))]) = Value.agg (Array.mk [Value.int IntKind.i64 (Prod.fst a2), Value.int IntKind.i64 (Prod.fst (Prod.snd a2)), Value.string (Prod.snd (Prod.snd a2))]) ∧ (AHeap.get h'_14 (AHeap.n h'_13) = AHeap.get (AHeap.push h'_13 (AObj.mk [[Value.int IntKind.i64 (Int.ofNat (0 : Nat)), Value.int IntKind.i64 (Int.ofNat (0 : Nat)), Value.bool false, Value.slice none (0 : Nat) (0 : Nat), Value.string (ByteArray.mk (Array.mk [])), Value.string (ByteArray.mk (Array.mk [])), Value.int IntKind.i64 (Int.ofNat (0 : Nat))]] (7 : Nat) true)) (AHeap.n h'_13) ∧ AHeap.n (AHeap.push h'_13 (AObj.mk [[Value.int IntKind.i64 (Int.ofNat (0 : Nat)), Value.int IntKind.i64 (Int.ofNat (0 : Nat)), Value.bool false, Value.slice none (0 : Nat) (0 : Nat), Value.string (ByteArray.mk (Array.mk [])), Value.string (ByteArray.mk (Array.mk [])), Value.int IntKind.i64 (Int.ofNat (0 : Nat))]] (7 : Nat) true)) ≤ AHeap.n h'_14) ∧ ∃ (x_72 : Int), ∃ (x_73 : Int), ∃ (x_74 : ByteArray), ∃ (h'_15 : AHeap), ACall Try.prog (23 : Nat) [Value.agg (Array.mk [Value.int IntKind.i64 (Prod.fst a2), Value.int IntKind.i64 (Prod.fst (Prod.snd a2)), Value.string (Prod.snd (Prod.snd a2))])] h'_14 (Value.agg (Array.mk [Value.int IntKind.i64 x_72, Value.int IntKind.i64 x_73, Value.string x_74])) h'_15 ∧ (AHeap.get h'_15 (AHeap.n h'_13) = AHeap.get h'_14 (AHeap.n h'_13) ∧ AHeap.n h'_14 ≤ AHeap.n h'_15) ∧ ∃ (x_75 : Int), ∃ (x_76 : Int), ∃ (x_77 : Bool), ∃ (a_7 : Option Addr), ∃ (n_7 : Nat), ∃ (c_7 : Nat), ∃ (x_78 : ByteArray), ∃ (x_79 : ByteArray), ∃ (x_80 : Int), ∃ (h'_16 : AHeap), ACall Try.prog (24 : Nat) [Value.agg (Array.mk [Value.int IntKind.i64 x, Value.int IntKind.i64 x_69, Value.bool x_70, Value.slice a n c, Value.string x_71]), Value.int IntKind.i64 a1, Value.agg (Array.mk [Value.int IntKind.i64 x_72, Value.int IntKind.i64 x_73, Value.string x_74])] h'_15 (Value.agg (Array.mk [Value.int IntKind.i64 x_75, Value.int IntKind.i64 x_76, Value.bool x_77, Value.slice a_7 n_7 c_7, Value.string x_78, Value.string x_79, Value.int IntKind.i64 x_80])) h'_16 ∧ (AHeap.get h'_16 (AHeap.n h'_13) = AHeap.get h'_15 (AHeap.n h'_13) ∧ AHeap.n h'_15 ≤ AHeap.n h'_16) ∧ ∃ (h'_17 : AHeap), AHeap.wr h'_16 (AHeap.n h'_13) (0 : Nat) (0 : Nat) [Value.int IntKind.i64 x_75, Value.int IntKind.i64 x_76, Value.bool x_77, Value.slice a_7 n_7 c_7, Value.string x_78, Value.string x_79, Value.int IntKind.i64 x_80] = some h'_17 ∧ ∃ (x : Int), ∃ (x_81 : Int), ∃ (x_82 : Bool), ∃ (a : Option Addr), ∃ (n : Nat), ∃ (c : Nat), ∃ (x_83 : ByteArray), ∃ (x_84 : ByteArray), ∃ (x_85 : Int), AHeap.ld h'_17 (AHeap.n h'_13) (0 : Nat) (0 : Nat) (7 : Nat) = some [Value.int IntKind.i64 x, Value.int IntKind.i64 x_81, Value.bool x_82, Value.slice a n c, Value.string x_83, Value.string x_84, Value.int IntKind.i64 x_85] ∧ ∃ (x_86 : Int), ∃ (x_87 : Int), ∃ (x_88 : Bool), ∃ (a_8 : Option Addr), ∃ (n_8 : Nat), ∃ (c_8 : Nat), ∃ (x_89 : ByteArray), ∃ (x_90 : ByteArray), ∃ (x_91 : Int), AHeap.ld h'_17 (AHeap.n h'_1) (0 : Nat) (0 : Nat) (7 : Nat) = some [Value.int IntKind.i64 x_86, Value.int IntKind.i64 x_87, Value.bool x_88, Value.slice a_8 n_8 c_8, Value.string x_89, Value.string x_90, Value.int IntKind.i64 x_91] ∧ ∃ (x_92 : Bool), ∃ (h'_18 : AHeap), ACall Try.prog (25 : Nat) [Value.agg (Array.mk [Value.int IntKind.i64 x, Value.int IntKind.i64 x_81, Value.bool x_82, Value.slice a n c, Value.string x_83, Value.string x_84, Value.int IntKind.i64 x_85]), Value.agg (Array.mk [Value.int IntKind.i64 x_86, Value.int IntKind.i64 x_87, Value.bool x_88, Value.slice a_8 n_8 c_8, Value.string x_89, Value.string x_90, Value.int IntKind.i64 x_91])] h'_17 (Value.bool x_92) h'_18 ∧ bs (!x_92) (Q (Value.bool false) h'_18) (∃ (x : Int), ∃ (x_93 : Int), ∃ (x_94 : Bool), ∃ (a : Option Addr), ∃ (n : Nat), ∃ (c : Nat), ∃ (x_95 : ByteArray), ∃ (x_96 : ByteArray), ∃ (x_97 : Int), AHeap.ld h'_18 (AHeap.n h') (0 : Nat) (0 : Nat) (7 : Nat) = some [Value.int IntKind.i64 x, Value.int IntKind.i64 x_93, Value.bool x_94, Value.slice a n c, Value.string x_95, Value.string x_96, Value.int IntKind.i64 x_97] ∧ ∃ (x_98 : Int), ∃ (h' : AHeap), ACall Try.prog (29 : Nat) [Value.agg (Array.mk [Value.int IntKind.i64 x, Value.int IntKind.i64 x_93, Value.bool x_94, Value.slice a n c, Value.string x_95, Value.string x_96, Value.int IntKind.i64 x_97]), Value.int IntKind.i64 (1 : Int)] h'_18 (Value.int IntKind.i64 x_98) h' ∧ bs (decide (x_98 < (0 : Int))) (Q (Value.bool false) h') (bs (!decide (x_98 = x_62)) (Q (Value.bool false) h') (Q (Value.bool true) h')))))))))))) = _) ?_
  refine ⟨_, _, szClient_spec h a0 1048576 _ s0_1 (by omega) ok0, bs_d (fun _ => HQ _ _ rfl) (fun q0 => ?_)⟩
  have z0 := clientSh.sz_le a0 1048576 (by omega)
  have sm0 := clientSh.sz_small a0 1048576 (by omega) (by omega) (by omega)
  have hcv0 : (clientSh.cv a0 : Int) ≤ 200000000 := by have := Sh.cv_le clientSh (by decide) a0 1048576 (by omega) (by omega); omega
  refine ⟨_, _, szReply_spec h a2 (clientSh.sz a0 1048576) (by omega) ok2, bs_d (fun _ => HQ _ _ rfl) (fun q2 => ?_)⟩
  have z2 := replySh.sz_le a2 (clientSh.sz a0 1048576) (by omega)
  have sm2 := replySh.sz_small a2 (clientSh.sz a0 1048576) (by omega) (by omega) (by omega)
  have okT : clientOutSh.ok T := by rw [hT]; exact clientHearM_ok a0 ok0 sm0 a1 b1 a2 ok2 sm2
  have cnT : (clientOutSh.cv T : Int) ≤ 900000000000 := by rw [hT]; exact clientHearM_cn a0 ok0 sm0 hcv0 a1 b1 a2 ok2 sm2
  obtain ⟨g1, hg1⟩ : ∃ g : AHeap, g = h.push ⟨[[.int .i64 (Int.ofNat 0), .int .i64 (Int.ofNat 0), .bool false, .slice none 0 0, .string ⟨#[]⟩, .string ⟨#[]⟩, .int .i64 (Int.ofNat 0)]], 7, true⟩ := ⟨_, rfl⟩
  have w1 : g1.wf := by rw [hg1]; exact hw.push _
  have k1 : h.Le g1 := by rw [hg1]; exact .push hw _
  have eW : g1.get h.n = some ⟨[[.int .i64 (Int.ofNat 0), .int .i64 (Int.ofNat 0), .bool false, .slice none 0 0, .string ⟨#[]⟩, .string ⟨#[]⟩, .int .i64 (Int.ofNat 0)]], 7, true⟩ := by rw [hg1]; exact AHeap.get_push_eq
  have np1 : g1.n = h.n + 1 := by rw [hg1]; rfl
  have nn1 := k1.n
  have l0_1 := k1
  rw [← hg1]
  have eo := eW
  obtain ⟨_, g2, C1, k2, w2, y1_1, ids1, rfl, r1, f1⟩ := toClient_spec g1 a0 _ (s0_1.mono l0_1) w1 sm0
  obtain ⟨z1_1, d1_1, ez, ei, p1_1⟩ := ro_client.1 r1
  cases ez
  subst ei
  try simp only [List.nil_append, List.append_nil] at f1
  obtain ⟨u1_1, e1_1, rfl⟩ := p1_1.sl.isSlice
  have nn2 := k2.n
  have eW := k2.get _ _ eW
  have l0_2 := l0_1.trans k2
  refine ⟨_, _, _, _, _, _, _, _, C1, (by first | rfl | exact keepq k2 eo), (by first | rfl | exact keepq k2 eo), ?_⟩
  have eo := eW
  obtain ⟨_, g3, C2, k3, w3, ids2, rfl, r2, f2⟩ := toReply_spec g2 a2 w2
  have nn3 := k3.n
  have eW := k3.get _ _ eW
  have l0_3 := l0_2.trans k3
  have p1_1 := So.le k3 p1_1
  refine ⟨_, _, _, _, C2, (by first | rfl | exact keepq k3 eo), ?_⟩
  obtain ⟨_, g4, CW, k4, w4, W1, JW1, rfl, RW1, fW⟩ := xsClientHear g3 w3 a0 _ p1_1.sl ok0 sm0 a1 b1 a2 ok2 sm2
  rw [← hT] at CW RW1
  obtain ⟨oW1, cW1, rfl⟩ := RW1.sl.isSlice
  have eo := eW
  have nn4 := k4.n
  have eW := k4.get _ _ eW
  have l0_4 := l0_3.trans k4
  refine ⟨_, _, _, _, _, _, _, _, _, _, CW, (by first | rfl | exact keepq k4 eo), ?_⟩
  have wr5 : g4.wr h.n 0 0 [.int .i64 T.1.1, .int .i64 T.1.2.1, .bool T.1.2.2.1, .slice oW1 (List.length T.1.2.2.2.1) cW1, .string T.1.2.2.2.2, .string T.2.1, .int .i64 T.2.2] = some (g4.put h.n (some ⟨[[.int .i64 T.1.1, .int .i64 T.1.2.1, .bool T.1.2.2.1, .slice oW1 (List.length T.1.2.2.2.1) cW1, .string T.1.2.2.2.2, .string T.2.1, .int .i64 T.2.2]], 7, true⟩)) := by unfold AHeap.wr; rw [eW]; rfl
  have O5 : Out [h.n] g4 (g4.put h.n (some ⟨[[.int .i64 T.1.1, .int .i64 T.1.2.1, .bool T.1.2.2.1, .slice oW1 (List.length T.1.2.2.2.1) cW1, .string T.1.2.2.2.2, .string T.2.1, .int .i64 T.2.2]], 7, true⟩)) := Out.put eW rfl
  have w5 := w4.put (w4.lt eW) (some (AObj.mk [[.int .i64 T.1.1, .int .i64 T.1.2.1, .bool T.1.2.2.1, .slice oW1 (List.length T.1.2.2.2.1) cW1, .string T.1.2.2.2.2, .string T.2.1, .int .i64 T.2.2]] 7 true))
  have q5 : (g4.put h.n (some ⟨[[.int .i64 T.1.1, .int .i64 T.1.2.1, .bool T.1.2.2.1, .slice oW1 (List.length T.1.2.2.2.1) cW1, .string T.1.2.2.2.2, .string T.2.1, .int .i64 T.2.2]], 7, true⟩)).get h.n = some ⟨[[.int .i64 T.1.1, .int .i64 T.1.2.1, .bool T.1.2.2.1, .slice oW1 (List.length T.1.2.2.2.1) cW1, .string T.1.2.2.2.2, .string T.2.1, .int .i64 T.2.2]], 7, true⟩ := AHeap.get_put_eq
  refine ⟨_, wr5, ?_⟩
  obtain ⟨g5, hg5⟩ : ∃ g, g = g4.put h.n (some (AObj.mk [[.int .i64 T.1.1, .int .i64 T.1.2.1, .bool T.1.2.2.1, .slice oW1 (List.length T.1.2.2.2.1) cW1, .string T.1.2.2.2.2, .string T.2.1, .int .i64 T.2.2]] 7 true)) := ⟨_, rfl⟩
  rw [← hg5] at O5 w5 q5 ⊢
  have nn5 := O5.shp.n
  have l0_5 := leOut l0_4 hw O5 (fun l hl => by rw [List.mem_singleton.1 hl]; omega)
  have RW1 := So.out RW1 O5 (fun l hl hm => by have h1 := List.mem_singleton.1 hm; have h2 := fW.bd l (by simp [hl]); omega)
  have eW := q5
  obtain ⟨_, g6, C3, k6, w6, y3_1, ids3, rfl, r3, f3⟩ := toClient_spec g5 a0 _ (s0_1.mono l0_5) w5 sm0
  obtain ⟨z3_1, d3_1, ez, ei, p3_1⟩ := ro_client.1 r3
  cases ez
  subst ei
  try simp only [List.nil_append, List.append_nil] at f3
  obtain ⟨u3_1, e3_1, rfl⟩ := p3_1.sl.isSlice
  have nn6 := k6.n
  have eW := k6.get _ _ eW
  have l0_6 := l0_5.trans k6
  have RW1 := So.le k6 RW1
  refine ⟨_, _, _, _, _, _, _, _, C3, ?_⟩
  obtain ⟨g7, hg7⟩ : ∃ g : AHeap, g = g6.push ⟨[[.int .i64 (Int.ofNat 0), .int .i64 (Int.ofNat 0), .bool false, .slice none 0 0, .string ⟨#[]⟩, .string ⟨#[]⟩, .int .i64 (Int.ofNat 0)]], 7, true⟩ := ⟨_, rfl⟩
  have w7 : g7.wf := by rw [hg7]; exact w6.push _
  have k7 : g6.Le g7 := by rw [hg7]; exact .push w6 _
  have eG : g7.get g6.n = some ⟨[[.int .i64 (Int.ofNat 0), .int .i64 (Int.ofNat 0), .bool false, .slice none 0 0, .string ⟨#[]⟩, .string ⟨#[]⟩, .int .i64 (Int.ofNat 0)]], 7, true⟩ := by rw [hg7]; exact AHeap.get_push_eq
  have np7 : g7.n = g6.n + 1 := by rw [hg7]; rfl
  have nn7 := k7.n
  have eW := k7.get _ _ eW
  have l0_7 := l0_6.trans k7
  have RW1 := So.le k7 RW1
  have p3_1 := So.le k7 p3_1
  rw [← hg7]
  have eo := eG
  obtain ⟨_, g8, C4, k8, w8, ids4, rfl, r4, f4⟩ := toReply_spec g7 a2 w7
  have nn8 := k8.n
  have eW := k8.get _ _ eW
  have eG := k8.get _ _ eG
  have l0_8 := l0_7.trans k8
  have RW1 := So.le k8 RW1
  have p3_1 := So.le k8 p3_1
  refine ⟨_, _, _, _, C4, (by first | rfl | exact keepq k8 eo), (by first | rfl | exact keepq k8 eo), ?_⟩
  obtain ⟨_, g9, CG, k9, w9, G1, JG1, rfl, RG1, fG⟩ := xiClientHear g8 w8 a0 _ p3_1.sl ok0 sm0 a1 b1 a2 ok2 sm2
  rw [← hT] at CG RG1
  obtain ⟨oG1, cG1, rfl⟩ := RG1.sl.isSlice
  have eo := eG
  have nn9 := k9.n
  have eW := k9.get _ _ eW
  have eG := k9.get _ _ eG
  have l0_9 := l0_8.trans k9
  have RW1 := So.le k9 RW1
  have p3_1 := So.le k9 p3_1
  refine ⟨_, _, _, _, _, _, _, _, _, _, CG, (by first | rfl | exact keepq k9 eo), ?_⟩
  have wr10 : g9.wr g6.n 0 0 [.int .i64 T.1.1, .int .i64 T.1.2.1, .bool T.1.2.2.1, .slice oG1 (List.length T.1.2.2.2.1) cG1, .string T.1.2.2.2.2, .string T.2.1, .int .i64 T.2.2] = some (g9.put g6.n (some ⟨[[.int .i64 T.1.1, .int .i64 T.1.2.1, .bool T.1.2.2.1, .slice oG1 (List.length T.1.2.2.2.1) cG1, .string T.1.2.2.2.2, .string T.2.1, .int .i64 T.2.2]], 7, true⟩)) := by unfold AHeap.wr; rw [eG]; rfl
  have O10 : Out [g6.n] g9 (g9.put g6.n (some ⟨[[.int .i64 T.1.1, .int .i64 T.1.2.1, .bool T.1.2.2.1, .slice oG1 (List.length T.1.2.2.2.1) cG1, .string T.1.2.2.2.2, .string T.2.1, .int .i64 T.2.2]], 7, true⟩)) := Out.put eG rfl
  have w10 := w9.put (w9.lt eG) (some (AObj.mk [[.int .i64 T.1.1, .int .i64 T.1.2.1, .bool T.1.2.2.1, .slice oG1 (List.length T.1.2.2.2.1) cG1, .string T.1.2.2.2.2, .string T.2.1, .int .i64 T.2.2]] 7 true))
  have q10 : (g9.put g6.n (some ⟨[[.int .i64 T.1.1, .int .i64 T.1.2.1, .bool T.1.2.2.1, .slice oG1 (List.length T.1.2.2.2.1) cG1, .string T.1.2.2.2.2, .string T.2.1, .int .i64 T.2.2]], 7, true⟩)).get g6.n = some ⟨[[.int .i64 T.1.1, .int .i64 T.1.2.1, .bool T.1.2.2.1, .slice oG1 (List.length T.1.2.2.2.1) cG1, .string T.1.2.2.2.2, .string T.2.1, .int .i64 T.2.2]], 7, true⟩ := AHeap.get_put_eq
  refine ⟨_, wr10, ?_⟩
  obtain ⟨g10, hg10⟩ : ∃ g, g = g9.put g6.n (some (AObj.mk [[.int .i64 T.1.1, .int .i64 T.1.2.1, .bool T.1.2.2.1, .slice oG1 (List.length T.1.2.2.2.1) cG1, .string T.1.2.2.2.2, .string T.2.1, .int .i64 T.2.2]] 7 true)) := ⟨_, rfl⟩
  rw [← hg10] at O10 w10 q10 ⊢
  have nn10 := O10.shp.n
  have l0_10 := leOut l0_9 hw O10 (fun l hl => by rw [List.mem_singleton.1 hl]; omega)
  have RW1 := So.out RW1 O10 (fun l hl hm => by have h1 := List.mem_singleton.1 hm; have h2 := fW.bd l (by simp [hl]); omega)
  have p3_1 := So.out p3_1 O10 (fun l hl hm => by have h1 := List.mem_singleton.1 hm; have h2 := f3.bd l (by simp [hl]); omega)
  have RG1 := So.out RG1 O10 (fun l hl hm => by have h1 := List.mem_singleton.1 hm; have h2 := fG.bd l (by simp [hl]); omega)
  have eW := O10.get _ _ (fun hm => by have h1 := List.mem_singleton.1 hm; omega) eW
  have eG := q10
  have E1 := eqClientOut_spec g10 T T _ RG1.sl _ RW1.sl okT
  rw [eqb_self] at E1
  refine ⟨_, _, _, _, _, _, _, _, _, (by unfold AHeap.ld; rw [eG]; rfl), _, _, _, _, _, _, _, _, _, (by unfold AHeap.ld; rw [eW]; rfl), _, _, E1, bs_nb (fun e => by cases e) (fun _ => ?_)⟩
  obtain ⟨_, g11, C5, k11, w11, y5_1, ids5, rfl, r5, f5⟩ := toClient_spec g10 a0 _ (s0_1.mono l0_10) w10 sm0
  obtain ⟨z5_1, d5_1, ez, ei, p5_1⟩ := ro_client.1 r5
  cases ez
  subst ei
  try simp only [List.nil_append, List.append_nil] at f5
  obtain ⟨u5_1, e5_1, rfl⟩ := p5_1.sl.isSlice
  have nn11 := k11.n
  have eW := k11.get _ _ eW
  have eG := k11.get _ _ eG
  have l0_11 := l0_10.trans k11
  have RW1 := So.le k11 RW1
  have p3_1 := So.le k11 p3_1
  have RG1 := So.le k11 RG1
  have E2 := eqClient_spec g11 a0 a0 _ p3_1.sl _ p5_1.sl ok0
  rw [eqb_self] at E2
  refine ⟨_, _, _, _, _, _, _, _, C5, rfl, _, _, E2, bs_nb (fun e => by cases e) (fun _ => ?_)⟩
  have mk0 := Sh.mkv_cv clientSh a0 1
  obtain ⟨_, g12, M0, rfl, w12, O0, p3_1⟩ := mkClient g11 w11 a0 _ _ p3_1 f3.nd 1 (by omega) (by omega)
  have nn12 := O0.shp.n
  have l0_12 := leOut l0_11 hw O0 (fun l hl => by have h1 := (f3.bd l hl).1; omega)
  have RW1 := So.out RW1 O0 (fun l hl hm => by have h1 := f3.bd l hm; have h2 := fW.bd l (by simp [hl]); omega)
  have RG1 := So.out RG1 O0 (fun l hl hm => by have h1 := f3.bd l hm; have h2 := fG.bd l (by simp [hl]); omega)
  have eW := O0.get _ _ (fun hm => by have h1 := f3.bd _ hm; omega) eW
  have eG := O0.get _ _ (fun hm => by have h1 := f3.bd _ hm; omega) eG
  refine ⟨_, _, M0, ?_⟩
  refine bs_d (fun e => by omega) (fun _ => ?_)
  have E3 := eqClientOut_spec g12 T T _ RG1.sl _ RW1.sl okT
  rw [eqb_self] at E3
  refine ⟨_, _, _, _, _, _, _, _, _, (by unfold AHeap.ld; rw [eG]; rfl), _, _, _, _, _, _, _, _, _, (by unfold AHeap.ld; rw [eW]; rfl), _, _, E3, bs_nb (fun e => by cases e) (fun _ => ?_)⟩
  have LDG : g12.ld g6.n 0 0 7 = some [.int .i64 T.1.1, .int .i64 T.1.2.1, .bool T.1.2.2.1, .slice oG1 (List.length T.1.2.2.2.1) cG1, .string T.1.2.2.2.2, .string T.2.1, .int .i64 T.2.2] := by unfold AHeap.ld; rw [eG]; rfl
  have mkG := Sh.mkv_cv clientOutSh T 1
  obtain ⟨_, g13, MG, rfl, w13, OG, RG1⟩ := mkClientOut g12 w12 T _ _ RG1 fG.nd 1 (by omega) (by omega)
  have nn13 := OG.shp.n
  have l0_13 := leOut l0_12 hw OG (fun l hl => by have h1 := (fG.bd l hl).1; omega)
  have RW1 := So.out RW1 OG (fun l hl hm => by have h1 := fG.bd l hm; have h2 := fW.bd l (by simp [hl]); omega)
  have eW := OG.get _ _ (fun hm => by have h1 := fG.bd _ hm; omega) eW
  have eG := OG.get _ _ (fun hm => by have h1 := fG.bd _ hm; omega) eG
  refine ⟨_, _, _, _, _, _, _, _, _, LDG, _, _, MG, ?_⟩
  have LDG : g13.ld g6.n 0 0 7 = some [.int .i64 T.1.1, .int .i64 T.1.2.1, .bool T.1.2.2.1, .slice oG1 (List.length T.1.2.2.2.1) cG1, .string T.1.2.2.2.2, .string T.2.1, .int .i64 T.2.2] := by unfold AHeap.ld; rw [eG]; rfl
  obtain ⟨_, g14, Q1, rfl, w14, k14⟩ := hdClientOut g13 w13 T _ 1 (rd_clientOut.2 ⟨_, rfl, RG1.sl⟩) (by omega) (by omega)
  have nn14 := k14.n
  have eW := k14.get _ _ eW
  have eG := k14.get _ _ eG
  have l0_14 := l0_13.trans k14
  have RW1 := So.le k14 RW1
  have RG1 := So.le k14 RG1
  refine ⟨_, _, _, _, _, _, _, _, _, LDG, _, _, Q1, bs_d (fun e => absurd e (by omega)) (fun _ => bs_dn (fun e => absurd rfl e) (fun _ => ?_))⟩
  obtain ⟨g15, hg15⟩ : ∃ g : AHeap, g = g14.push ⟨[[.int .i64 (Int.ofNat 0), .int .i64 (Int.ofNat 0), .bool false, .slice none 0 0, .string ⟨#[]⟩, .string ⟨#[]⟩, .int .i64 (Int.ofNat 0)]], 7, true⟩ := ⟨_, rfl⟩
  have w15 : g15.wf := by rw [hg15]; exact w14.push _
  have k15 : g14.Le g15 := by rw [hg15]; exact .push w14 _
  have eH : g15.get g14.n = some ⟨[[.int .i64 (Int.ofNat 0), .int .i64 (Int.ofNat 0), .bool false, .slice none 0 0, .string ⟨#[]⟩, .string ⟨#[]⟩, .int .i64 (Int.ofNat 0)]], 7, true⟩ := by rw [hg15]; exact AHeap.get_push_eq
  have np15 : g15.n = g14.n + 1 := by rw [hg15]; rfl
  have nn15 := k15.n
  have eW := k15.get _ _ eW
  have eG := k15.get _ _ eG
  have l0_15 := l0_14.trans k15
  have RW1 := So.le k15 RW1
  have RG1 := So.le k15 RG1
  rw [← hg15]
  have eo := eH
  obtain ⟨_, g16, C6, k16, w16, y6_1, ids6, rfl, r6, f6⟩ := toClient_spec g15 a0 _ (s0_1.mono l0_15) w15 sm0
  obtain ⟨z6_1, d6_1, ez, ei, p6_1⟩ := ro_client.1 r6
  cases ez
  subst ei
  try simp only [List.nil_append, List.append_nil] at f6
  obtain ⟨u6_1, e6_1, rfl⟩ := p6_1.sl.isSlice
  have nn16 := k16.n
  have eW := k16.get _ _ eW
  have eG := k16.get _ _ eG
  have eH := k16.get _ _ eH
  have l0_16 := l0_15.trans k16
  have RW1 := So.le k16 RW1
  have RG1 := So.le k16 RG1
  refine ⟨_, _, _, _, _, _, _, _, C6, (by first | rfl | exact keepq k16 eo), (by first | rfl | exact keepq k16 eo), ?_⟩
  have eo := eH
  obtain ⟨_, g17, C7, k17, w17, ids7, rfl, r7, f7⟩ := toReply_spec g16 a2 w16
  have nn17 := k17.n
  have eW := k17.get _ _ eW
  have eG := k17.get _ _ eG
  have eH := k17.get _ _ eH
  have l0_17 := l0_16.trans k17
  have RW1 := So.le k17 RW1
  have RG1 := So.le k17 RG1
  have p6_1 := So.le k17 p6_1
  refine ⟨_, _, _, _, C7, (by first | rfl | exact keepq k17 eo), ?_⟩
  obtain ⟨_, g18, CH, k18, w18, H1, JH1, rfl, RH1, fH⟩ := xiClientHear g17 w17 a0 _ p6_1.sl ok0 sm0 a1 b1 a2 ok2 sm2
  rw [← hT] at CH RH1
  obtain ⟨oH1, cH1, rfl⟩ := RH1.sl.isSlice
  have eo := eH
  have nn18 := k18.n
  have eW := k18.get _ _ eW
  have eG := k18.get _ _ eG
  have eH := k18.get _ _ eH
  have l0_18 := l0_17.trans k18
  have RW1 := So.le k18 RW1
  have RG1 := So.le k18 RG1
  refine ⟨_, _, _, _, _, _, _, _, _, _, CH, (by first | rfl | exact keepq k18 eo), ?_⟩
  have wr19 : g18.wr g14.n 0 0 [.int .i64 T.1.1, .int .i64 T.1.2.1, .bool T.1.2.2.1, .slice oH1 (List.length T.1.2.2.2.1) cH1, .string T.1.2.2.2.2, .string T.2.1, .int .i64 T.2.2] = some (g18.put g14.n (some ⟨[[.int .i64 T.1.1, .int .i64 T.1.2.1, .bool T.1.2.2.1, .slice oH1 (List.length T.1.2.2.2.1) cH1, .string T.1.2.2.2.2, .string T.2.1, .int .i64 T.2.2]], 7, true⟩)) := by unfold AHeap.wr; rw [eH]; rfl
  have O19 : Out [g14.n] g18 (g18.put g14.n (some ⟨[[.int .i64 T.1.1, .int .i64 T.1.2.1, .bool T.1.2.2.1, .slice oH1 (List.length T.1.2.2.2.1) cH1, .string T.1.2.2.2.2, .string T.2.1, .int .i64 T.2.2]], 7, true⟩)) := Out.put eH rfl
  have w19 := w18.put (w18.lt eH) (some (AObj.mk [[.int .i64 T.1.1, .int .i64 T.1.2.1, .bool T.1.2.2.1, .slice oH1 (List.length T.1.2.2.2.1) cH1, .string T.1.2.2.2.2, .string T.2.1, .int .i64 T.2.2]] 7 true))
  have q19 : (g18.put g14.n (some ⟨[[.int .i64 T.1.1, .int .i64 T.1.2.1, .bool T.1.2.2.1, .slice oH1 (List.length T.1.2.2.2.1) cH1, .string T.1.2.2.2.2, .string T.2.1, .int .i64 T.2.2]], 7, true⟩)).get g14.n = some ⟨[[.int .i64 T.1.1, .int .i64 T.1.2.1, .bool T.1.2.2.1, .slice oH1 (List.length T.1.2.2.2.1) cH1, .string T.1.2.2.2.2, .string T.2.1, .int .i64 T.2.2]], 7, true⟩ := AHeap.get_put_eq
  refine ⟨_, wr19, ?_⟩
  obtain ⟨g19, hg19⟩ : ∃ g, g = g18.put g14.n (some (AObj.mk [[.int .i64 T.1.1, .int .i64 T.1.2.1, .bool T.1.2.2.1, .slice oH1 (List.length T.1.2.2.2.1) cH1, .string T.1.2.2.2.2, .string T.2.1, .int .i64 T.2.2]] 7 true)) := ⟨_, rfl⟩
  rw [← hg19] at O19 w19 q19 ⊢
  have nn19 := O19.shp.n
  have l0_19 := leOut l0_18 hw O19 (fun l hl => by rw [List.mem_singleton.1 hl]; omega)
  have RW1 := So.out RW1 O19 (fun l hl hm => by have h1 := List.mem_singleton.1 hm; have h2 := fW.bd l (by simp [hl]); omega)
  have RG1 := So.out RG1 O19 (fun l hl hm => by have h1 := List.mem_singleton.1 hm; have h2 := fG.bd l (by simp [hl]); omega)
  have RH1 := So.out RH1 O19 (fun l hl hm => by have h1 := List.mem_singleton.1 hm; have h2 := fH.bd l (by simp [hl]); omega)
  have eW := O19.get _ _ (fun hm => by have h1 := List.mem_singleton.1 hm; omega) eW
  have eG := O19.get _ _ (fun hm => by have h1 := List.mem_singleton.1 hm; omega) eG
  have eH := q19
  have E4 := eqClientOut_spec g19 T T _ RH1.sl _ RW1.sl okT
  rw [eqb_self] at E4
  refine ⟨_, _, _, _, _, _, _, _, _, (by unfold AHeap.ld; rw [eH]; rfl), _, _, _, _, _, _, _, _, _, (by unfold AHeap.ld; rw [eW]; rfl), _, _, E4, bs_nb (fun e => by cases e) (fun _ => ?_)⟩
  have LDG : g19.ld g6.n 0 0 7 = some [.int .i64 T.1.1, .int .i64 T.1.2.1, .bool T.1.2.2.1, .slice oG1 (List.length T.1.2.2.2.1) cG1, .string T.1.2.2.2.2, .string T.2.1, .int .i64 T.2.2] := by unfold AHeap.ld; rw [eG]; rfl
  obtain ⟨_, g20, Q2, rfl, w20, k20⟩ := hdClientOut g19 w19 T _ 1 (rd_clientOut.2 ⟨_, rfl, RG1.sl⟩) (by omega) (by omega)
  have nn20 := k20.n
  have eW := k20.get _ _ eW
  have eG := k20.get _ _ eG
  have eH := k20.get _ _ eH
  have l0_20 := l0_19.trans k20
  have RW1 := So.le k20 RW1
  have RG1 := So.le k20 RG1
  have RH1 := So.le k20 RH1
  refine ⟨_, _, _, _, _, _, _, _, _, LDG, _, _, Q2, bs_d (fun e => absurd e (by omega)) (fun _ => bs_dn (fun e => absurd rfl e) (fun _ => ?_))⟩
  exact HQ _ _ rfl
end Go.Proofs.Ytanienlcebkijaa
