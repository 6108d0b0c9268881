/- The law FnExactClientAsk tells true. -/
import Derived.Test.YtgcckeglmhbnmaaK1
import Derived.Test.YtgcckeglmhbnmaaE1
namespace Go.Dat
open Go.Abs
def outC (t : Int × Int × Bool × ByteArray × Int) : List Value := [.int .i64 t.1, .int .i64 t.2.1, .bool t.2.2.1, .slice none 0 0, .string ⟨#[]⟩, .string t.2.2.2.1, .int .i64 t.2.2.2.2]
def outO (t : Int × Int × Bool × ByteArray × Int) : AObj := ⟨[outC t], 7, true⟩
def out0 : AObj := outO (0, 0, false, ⟨#[]⟩, 0)
def outX (t : Int × Int × Bool × ByteArray × Int) : clientOutSh.T := ((t.1, t.2.1, t.2.2.1, [], ⟨#[]⟩), t.2.2.2.1, t.2.2.2.2)
theorem wr_out {g : AHeap} {l : Nat} {t : Int × Int × Bool × ByteArray × Int} (t' : Int × Int × Bool × ByteArray × Int) (hg : g.get l = some (outO t)) : g.wr l 0 0 (outC t') = some (g.put l (some (outO t'))) := by
  unfold AHeap.wr
  rw [hg]
  rfl
theorem ld_out {g : AHeap} {l : Nat} {t : Int × Int × Bool × ByteArray × Int} (hg : g.get l = some (outO t)) : g.ld l 0 0 7 = some (outC t) := by
  unfold AHeap.ld
  rw [hg]
  rfl
end Go.Dat
namespace Go.Proofs.Ytgcckeglmhbnmaa
open Go.Abs Go.Dat
set_option maxRecDepth 100000
set_option maxHeartbeats 8000000

theorem cmdB_size {cl nu ki : Int} {topic group text : ByteArray} {n : Int} (b1 : -9223372036854775808 ≤ cl ∧ cl ≤ 9223372036854775807) (b2 : -9223372036854775808 ≤ nu ∧ nu ≤ 9223372036854775807) (b3 : -9223372036854775808 ≤ ki ∧ ki ≤ 9223372036854775807) (b4 : -9223372036854775808 ≤ n ∧ n ≤ 9223372036854775807)
    (H : CmdOk cl nu ki topic group text n) : (cmdB cl nu ki topic group text n).size ≤ 100000 := by
  obtain ⟨z1, z2, z3⟩ := cmdOk_sizes H
  have s1 := vb_size10 b1
  have s2 := vb_size10 b2
  have s3 := vb_size10 b3
  have s4 := vt_size z1
  have s5 := vt_size z2
  have s6 := vt_size z3
  have s7 := vb_size10 b4
  unfold cmdB
  simp only [ByteArray.size_append]
  omega
theorem askT_ok {id number : Int} {asked : Bool} {hs : List heardSh.T} {told : ByteArray} {ki : Int} {topic group text : ByteArray} {n : Int} (bi : -9223372036854775808 ≤ id ∧ id ≤ 9223372036854775807) (bk : -9223372036854775808 ≤ ki ∧ ki ≤ 9223372036854775807) (b4 : -9223372036854775808 ≤ n ∧ n ≤ 9223372036854775807) :
    clientOutSh.ok (outX (askT id number asked hs told ki topic group text n)) := by
  have bad : ∀ c : Int, (-9223372036854775808 ≤ c ∧ c ≤ 9223372036854775807) → clientOutSh.ok (outX (0, 0, false, ⟨#[]⟩, c)) := fun c hc => ⟨⟨ok_zero, ok_zero, trivial, ok_nil, Nat.zero_le _⟩, Nat.zero_le _, hc⟩
  unfold askT
  split
  · exact bad 1 (by omega)
  · rename_i h1
    split
    · exact bad 10 (by omega)
    · split
      · exact bad 9 (by omega)
      · split
        · exact bad 1 (by omega)
        · rename_i _ h3 h4
          have hc := Classical.not_not.1 h1
          have bn : -9223372036854775808 ≤ number + 1 ∧ number + 1 ≤ 9223372036854775807 := by have := hc.2.1; omega
          have := cmdB_size bi bn bk b4 (Classical.not_not.1 h4)
          exact ⟨⟨bi, bn, trivial, ok_nil, Nat.zero_le _⟩, (by show (cmdB id (number + 1) ki topic group text n).size ≤ _; omega), ok_zero⟩

theorem lawClientAsk (h : AHeap) (hw : h.wf) (x : clientSh.T) (v1 : Value) (h1 : Sl h heardSh x.2.2.2.1 v1) (ok : clientSh.ok x) (y : commandSh.T) (okm : commandSh.ok y) :
    ∃ v h', ACall Try.prog 12 [.agg #[.int .i64 x.1, .int .i64 x.2.1, .bool x.2.2.1, v1, .string x.2.2.2.2], .agg #[.int .i64 y.1, .int .i64 y.2.1, .int .i64 y.2.2.1, .string y.2.2.2.1, .string y.2.2.2.2.1, .string y.2.2.2.2.2.1, .int .i64 y.2.2.2.2.2.2]] h v h' ∧ v = .bool true := by
  obtain ⟨(id : Int), (number : Int), (asked : Bool), (hs : List heardSh.T), (told : ByteArray)⟩ := x
  obtain ⟨(cl : Int), (nu : Int), (ki : Int), (topic : ByteArray), (group : ByteArray), (text : ByteArray), (n : Int)⟩ := y
  dsimp only at *
  obtain ⟨a, c, rfl⟩ := h1.isSlice
  have o1 : hs.length ≤ 9223372036854775807 := ok.2.2.2.1.1
  refine acall_q fun Q HQ => ?_
  refine acall_vc (fun t => t == 6 || t == 8 || t == 12) (fun r => match r with | 8 => [(5, 2, []), (0, 1, []), (2, 1, []), (1, 3, [5, 2]), (3, 3, [5]), (4, 3, [5]), (6, 3, [])] | 10 => [(4, 2, []), (0, 1, []), (1, 1, []), (2, 3, [4, 0]), (3, 3, [4]), (5, 3, [])] | 13 => [(0, 1, []), (1, 1, []), (2, 3, [0]), (3, 3, []), (4, 0, [])] | 27 => [(5, 2, []), (0, 1, []), (2, 1, []), (1, 3, [5, 2]), (3, 3, [5]), (4, 3, [5]), (6, 3, [])] | _ => []) (fun _ => .none) mixed Try.func12 rfl rfl rfl (Nat.le_of_ble_eq_true rfl) (by refine vc_mp (by kernel_rfl : (True ∧ True ∧ True ∧ (True ∧ (True ∧ True) ∧ True) ∧ True ∧ (True ∧ (True ∧ True) ∧ True) ∧ True ∧ True ∧ True ∧ (True ∧ (True ∧ True) ∧ True) ∧ (True ∧ (True ∧ True) ∧ True) ∧ True ∧ True ∧ (True ∧ (True ∧ True) ∧ True) ∧ True ∧ True ∧ True ∧ True ∧ (True ∧ (True ∧ True) ∧ True) ∧ (True ∧ (True ∧ True) ∧ True) ∧ True ∧ (True ∧ (True ∧ True) ∧ True) ∧ True ∧ True ∧ (True ∧ (True ∧ True) ∧ True) ∧ (True ∧ (True ∧ True) ∧ True) ∧ True ∧ True) = _) ?_; simp only [and_self]) ?_
  obtain ⟨T, hT⟩ : ∃ T, T = askT id number asked hs told ki topic group text n := ⟨_, rfl⟩
  refine vc_mp (by kernel_rfl : (∃ (x : Int), ∃ (h' : AHeap), ACall Try.prog (32 : Nat) [Value.agg (Array.mk [Value.int IntKind.i64 id, Value.int IntKind.i64 number, Value.bool asked, Value.slice a (List.length hs) c, Value.string told]), Value.int IntKind.i64 (1048576 : Int)] h (Value.int IntKind.i64 x) h' ∧ bs (decide (x < (0 : Int))) (Q (Value.bool true) h') (∃ (x_1 : Int), ∃ (h'_1 : AHeap), ACall Try.prog (49 : Nat) [Value.agg (Array.mk [Value.int IntKind.i64 cl, Value.int IntKind.i64 nu, Value.int IntKind.i64 ki, Value.string topic, Value.string group, Value.string text, Value.int IntKind.i64 n]), Value.int IntKind.i64 x] h' (Value.int IntKind.i64 x_1) h'_1 ∧ bs (decide (x_1 < (0 : Int))) (Q (Value.bool true) h'_1) (∃ (x : Int), ∃ (x_2 : Int), ∃ (x_3 : Bool), ∃ (a_1 : Option Addr), ∃ (n_1 : Nat), ∃ (c_1 : Nat), ∃ (x_4 : ByteArray), ∃ (h' : AHeap), ACall Try.prog (34 : Nat) [Value.agg (Array.mk [Value.int IntKind.i64 id, Value.int IntKind.i64 number, Value.bool asked, Value.slice a (List.length hs) c, Value.string told])] (AHeap.push h'_1 (AObj.mk [[Value.int IntKind.i64 (Int.ofNat (0 : Nat)), Value.int IntKind.i64 (Int.ofNat (0 : Nat)), Value.bool false, Value.slice none (0 : Nat) (0 : Nat), Value.string (ByteArray.mk (Array.mk [])), Value.string (ByteArray.mk (Array.mk [])), Value.int IntKind.i64 (Int.ofNat (0 : Nat))]] (7 : Nat) true)) (Value.agg (Array.mk [Value.int IntKind.i64 x, Value.int IntKind.i64 x_2, Value.bool x_3, Value.slice a_1 n_1 c_1, Value.string x_4])) h' ∧ Value.agg (Array.mk [Value.int IntKind.i64 cl, Value.int IntKind.i64 nu, Value.int IntKind.i64 ki, Value.string topic, Value.string group, Value.string text, Value.int IntKind.i64 n]) = Value.agg (Array.mk [Value.int IntKind.i64 cl, Value.int IntKind.i64 nu, Value.int IntKind.i64 ki, Value.string topic, Value.string group, Value.string text, Value.int IntKind.i64 n]) ∧ (AHeap.get h' (AHeap.n h'_1) = AHeap.get (AHeap.push h'_1 (AObj.mk [[Value.int IntKind.i64 (Int.ofNat (0 : Nat)), Value.int IntKind.i64 (Int.ofNat (0 : Nat)), Value.bool false, Value.slice none (0 : Nat) (0 : Nat), Value.string (ByteArray.mk (Array.mk [])), Value.string (ByteArray.mk (Array.mk [])), Value.int IntKind.i64 (Int.ofNat (0 : Nat))]] (7 : Nat) true)) (AHeap.n h'_1) ∧ AHeap.n (AHeap.push h'_1 (AObj.mk [[Value.int IntKind.i64 (Int.ofNat (0 : Nat)), Value.int IntKind.i64 (Int.ofNat (0 : Nat)), Value.bool false, Value.slice none (0 : Nat) (0 : Nat), Value.string (ByteArray.mk (Array.mk [])), Value.string (ByteArray.mk (Array.mk [])), Value.int IntKind.i64 (Int.ofNat (0 : Nat))]] (7 : Nat) true)) ≤ AHeap.n h') ∧ ∃ (x_5 : Int), ∃ (x_6 : Int), ∃ (x_7 : Int), ∃ (x_8 : ByteArray), ∃ (x_9 : ByteArray), ∃ (x_10 : ByteArray), ∃ (x_11 : Int), ∃ (h'_2 : AHeap), ACall Try.prog (51 : Nat) [Value.agg (Array.mk [Value.int IntKind.i64 cl, Value.int IntKind.i64 nu, Value.int IntKind.i64 ki, Value.string topic, Value.string group, Value.string text, Value.int IntKind.i64 n])] h' (Value.agg (Array.mk [Value.int IntKind.i64 x_5, Value.int IntKind.i64 x_6, Value.int IntKind.i64 x_7, Value.string x_8, Value.string x_9, Value.string x_10, Value.int IntKind.i64 x_11])) h'_2 ∧ (AHeap.get h'_2 (AHeap.n h'_1) = AHeap.get h' (AHeap.n h'_1) ∧ AHeap.n h' ≤ AHeap.n h'_2) ∧ ∃ (x_12 : Int), ∃ (x_13 : Int), ∃ (x_14 : Bool), ∃ (a_2 : Option Addr), ∃ (n_2 : Nat), ∃ (c_2 : Nat), ∃ (x_15 : ByteArray), ∃ (x_16 : ByteArray), ∃ (x_17 : Int), ∃ (h' : AHeap), ACall Try.prog (50 : Nat) [Value.agg (Array.mk [Value.int IntKind.i64 x, Value.int IntKind.i64 x_2, Value.bool x_3, Value.slice a_1 n_1 c_1, Value.string x_4]), Value.agg (Array.mk [Value.int IntKind.i64 x_5, Value.int IntKind.i64 x_6, Value.int IntKind.i64 x_7, Value.string x_8, Value.string x_9, Value.string x_10, Value.int IntKind.i64 x_11])] h'_2 (Value.agg (Array.mk [Value.int IntKind.i64 x_12, Value.int IntKind.i64 x_13, Value.bool x_14, Value.slice a_2 n_2 c_2, Value.string x_15, Value.string x_16, Value.int IntKind.i64 x_17])) h' ∧ (AHeap.get h' (AHeap.n h'_1) = AHeap.get h'_2 (AHeap.n h'_1) ∧ AHeap.n h'_2 ≤ AHeap.n h') ∧ ∃ (h'_3 : AHeap), AHeap.wr h' (AHeap.n h'_1) (0 : Nat) (0 : Nat) [Value.int IntKind.i64 x_12, Value.int IntKind.i64 x_13, Value.bool x_14, Value.slice a_2 n_2 c_2, Value.string x_15, Value.string x_16, Value.int IntKind.i64 x_17] = some h'_3 ∧ ∃ (x : Int), ∃ (x_18 : Int), ∃ (x_19 : Bool), ∃ (a_3 : Option Addr), ∃ (n_3 : Nat), ∃ (c_3 : Nat), ∃ (x_20 : ByteArray), ∃ (h' : AHeap), ACall Try.prog (34 : Nat) [Value.agg (Array.mk [Value.int IntKind.i64 id, Value.int IntKind.i64 number, Value.bool asked, Value.slice a (List.length hs) c, Value.string told])] h'_3 (Value.agg (Array.mk [Value.int IntKind.i64 x, Value.int IntKind.i64 x_18, Value.bool x_19, Value.slice a_3 n_3 c_3, Value.string x_20])) h' ∧ ∃ (x_21 : Int), ∃ (x_22 : Int), ∃ (x_23 : Int), ∃ (x_24 : ByteArray), ∃ (x_25 : ByteArray), ∃ (x_26 : ByteArray), ∃ (x_27 : Int), ∃ (h'_4 : AHeap), ACall Try.prog (51 : Nat) [Value.agg (Array.mk [Value.int IntKind.i64 cl, Value.int IntKind.i64 nu, Value.int IntKind.i64 ki, Value.string topic, Value.string group, Value.string text, Value.int IntKind.i64 n])] (AHeap.push h' (AObj.mk [[Value.int IntKind.i64 (Int.ofNat (0 : Nat)), Value.int IntKind.i64 (Int.ofNat (0 : Nat)), Value.bool false, Value.slice none (0 : Nat) (0 : Nat), Value.string (ByteArray.mk (Array.mk [])), Value.string (ByteArray.mk (Array.mk [])), Value.int IntKind.i64 (Int.ofNat (0 : Nat))]] (7 : Nat) true)) (Value.agg (Array.mk [Value.int IntKind.i64 x_21, Value.int IntKind.i64 x_22, Value.int IntKind.i64 x_23, Value.string x_24, Value.string x_25, Value.string x_26, Value.int IntKind.i64 x_27])) h'_4 ∧ Value.agg (Array.mk [Value.int IntKind.i64 x, Value.int IntKind.i64 x_18, Value.bool x_19, Value.slice a_3 n_3 c_3, Value.string x_20]) = Value.agg (Array.mk [Value.int IntKind.i64 x, Value.int IntKind.i64 x_18, Value.bool x_19, Value.slice a_3 n_3 c_3, Value.string x_20]) ∧ (AHeap.get h'_4 (AHeap.n h') = AHeap.get (AHeap.push h' (AObj.mk [[Value.int IntKind.i64 (Int.ofNat (0 : Nat)), Value.int IntKind.i64 (Int.ofNat (0 : Nat)), Value.bool false, Value.slice none (0 : Nat) (0 : Nat), Value.string (ByteArray.mk (Array.mk [])), Value.string (ByteArray.mk (Array.mk [])), Value.int IntKind.i64 (Int.ofNat (0 : Nat))]] (7 : Nat) true)) (AHeap.n h') ∧ AHeap.n (AHeap.push h' (AObj.mk [[Value.int IntKind.i64 (Int.ofNat (0 : Nat)), Value.int IntKind.i64 (Int.ofNat (0 : Nat)), Value.bool false, Value.slice none (0 : Nat) (0 : Nat), Value.string (ByteArray.mk (Array.mk [])), Value.string (ByteArray.mk (Array.mk [])), Value.int IntKind.i64 (Int.ofNat (0 : Nat))]] (7 : Nat) true)) ≤ AHeap.n h'_4) ∧ ∃ (x_28 : Int), ∃ (x_29 : Int), ∃ (x_30 : Bool), ∃ (a_4 : Option Addr), ∃ (n_4 : Nat), ∃ (c_4 : Nat), ∃ (x_31 : ByteArray), ∃ (x_32 : ByteArray), ∃ (x_33 : Int), ∃ (h'_5 : AHeap), ACall Try.prog (52 : Nat) [Value.agg (Array.mk [Value.int IntKind.i64 x, Value.int IntKind.i64 x_18, Value.bool x_19, Value.slice a_3 n_3 c_3, Value.string x_20]), Value.agg (Array.mk [Value.int IntKind.i64 x_21, Value.int IntKind.i64 x_22, Value.int IntKind.i64 x_23, Value.string x_24, Value.string x_25, Value.string x_26, Value.int IntKind.i64 x_27])] h'_4 (Value.agg (Array.mk [Value.int IntKind.i64 x_28, Value.int IntKind.i64 x_29, Value.bool x_30, Value.slice a_4 n_4 c_4, Value.string x_31, Value.string x_32, Value.int IntKind.i64 x_33])) h'_5 ∧ (AHeap.get h'_5 (AHeap.n h') = AHeap.get h'_4 (AHeap.n h') ∧ AHeap.n h'_4 ≤ AHeap.n h'_5) ∧ ∃ (h'_6 : AHeap), AHeap.wr h'_5 (AHeap.n h') (0 : Nat) (0 : Nat) [Value.int IntKind.i64 x_28, Value.int IntKind.i64 x_29, Value.bool x_30, Value.slice a_4 n_4 c_4, Value.string x_31, Value.string x_32, Value.int IntKind.i64 x_33] = some h'_6 ∧ ∃ (x_34 : Int), ∃ (x_35 : Int), ∃ (x_36 : Bool), ∃ (a_5 : Option Addr), ∃ (n_5 : Nat), ∃ (c_5 : Nat), ∃ (x_37 : ByteArray), ∃ (x_38 : ByteArray), ∃ (x_39 : Int), AHeap.ld h'_6 (AHeap.n h') (0 : Nat) (0 : Nat) (7 : Nat) = some [Value.int IntKind.i64 x_34, Value.int IntKind.i64 x_35, Value.bool x_36, Value.slice a_5 n_5 c_5, Value.string x_37, Value.string x_38, Value.int IntKind.i64 x_39] ∧ ∃ (x_40 : Int), ∃ (x_41 : Int), ∃ (x_42 : Bool), ∃ (a_6 : Option Addr), ∃ (n_6 : Nat), ∃ (c_6 : Nat), ∃ (x_43 : ByteArray), ∃ (x_44 : ByteArray), ∃ (x_45 : Int), AHeap.ld h'_6 (AHeap.n h'_1) (0 : Nat) (0 : Nat) (7 : Nat) = some [Value.int IntKind.i64 x_40, Value.int IntKind.i64 x_41, Value.bool x_42, Value.slice a_6 n_6 c_6, Value.string x_43, Value.string x_44, Value.int IntKind.i64 x_45] ∧ ∃ (x_46 : Bool), ∃ (h'_7 : AHeap), ACall Try.prog (53 : Nat) [Value.agg (Array.mk [Value.int IntKind.i64 x_34, Value.int IntKind.i64 x_35, Value.bool x_36, Value.slice a_5 n_5 c_5, Value.string x_37, Value.string x_38, Value.int IntKind.i64 x_39]), Value.agg (Array.mk [Value.int IntKind.i64 x_40, Value.int IntKind.i64 x_41, Value.bool x_42, Value.slice a_6 n_6 c_6, Value.string x_43, Value.string x_44, Value.int IntKind.i64 x_45])] h'_6 (Value.bool x_46) h'_7 ∧ bs (!x_46) (Q (Value.bool false) h'_7) (∃ (x_47 : Int), ∃ (x_48 : Int), ∃ (x_49 : Bool), ∃ (a_7 : Option Addr), ∃ (n_7 : Nat), ∃ (c_7 : Nat), ∃ (x_50 : ByteArray), ∃ (h'_8 : AHeap), ACall Try.prog (34 : Nat) [Value.agg (Array.mk [Value.int IntKind.i64 id, Value.int IntKind.i64 number, Value.bool asked, Value.slice a (List.length hs) c, Value.string told])] h'_7 (Value.agg (Array.mk [Value.int IntKind.i64 x_47, Value.int IntKind.i64 x_48, Value.bool x_49, Value.slice a_7 n_7 c_7, Value.string x_50])) h'_8 ∧ Value.agg (Array.mk [Value.int IntKind.i64 x, Value.int IntKind.i64 x_18, Value.bool x_19, Value.slice a_3 n_3 c_3, Value.string x_20]) = Value.agg (Array.mk [Value.int IntKind.i64 x, Value.int IntKind.i64 x_18, Value.bool x_19, Value.slice a_3 n_3 c_3, Value.string x_20]) ∧ ∃ (x_51 : Bool), ∃ (h'_9 : AHeap), ACall Try.prog (24 : Nat) [Value.agg (Array.mk [Value.int IntKind.i64 x, Value.int IntKind.i64 x_18, Value.bool x_19, Value.slice a_3 n_3 c_3, Value.string x_20]), Value.agg (Array.mk [Value.int IntKind.i64 x_47, Value.int IntKind.i64 x_48, Value.bool x_49, Value.slice a_7 n_7 c_7, Value.string x_50])] h'_8 (Value.bool x_51) h'_9 ∧ bs (!x_51) (Q (Value.bool false) h'_9) (∃ (x_52 : Int), ∃ (h'_10 : AHeap), ACall Try.prog (25 : Nat) [Value.agg (Array.mk [Value.int IntKind.i64 x, Value.int IntKind.i64 x_18, Value.bool x_19, Value.slice a_3 n_3 c_3, Value.string x_20]), Value.int IntKind.i64 (1 : Int)] h'_9 (Value.int IntKind.i64 x_52) h'_10 ∧ bs (decide (x_52 < (0 : Int))) (Q (Value.bool false) h'_10) (∃ (x : Int), ∃ (x_53 : Int), ∃ (x_54 : Bool), ∃ (a_8 : Option Addr), ∃ (n_8 : Nat), ∃ (c_8 : Nat), ∃ (x_55 : ByteArray), ∃ (x_56 : ByteArray), ∃ (x_57 : Int), AHeap.ld h'_10 (AHeap.n h') (0 : Nat) (0 : Nat) (7 : Nat) = some [Value.int IntKind.i64 x, Value.int IntKind.i64 x_53, Value.bool x_54, Value.slice a_8 n_8 c_8, Value.string x_55, Value.string x_56, Value.int IntKind.i64 x_57] ∧ ∃ (x_58 : Int), ∃ (x_59 : Int), ∃ (x_60 : Bool), ∃ (a_9 : Option Addr), ∃ (n_9 : Nat), ∃ (c_9 : Nat), ∃ (x_61 : ByteArray), ∃ (x_62 : ByteArray), ∃ (x_63 : Int), AHeap.ld h'_10 (AHeap.n h'_1) (0 : Nat) (0 : Nat) (7 : Nat) = some [Value.int IntKind.i64 x_58, Value.int IntKind.i64 x_59, Value.bool x_60, Value.slice a_9 n_9 c_9, Value.string x_61, Value.string x_62, Value.int IntKind.i64 x_63] ∧ ∃ (x_64 : Bool), ∃ (h'_11 : AHeap), ACall Try.prog (53 : Nat) [Value.agg (Array.mk [Value.int IntKind.i64 x, Value.int IntKind.i64 x_53, Value.bool x_54, Value.slice a_8 n_8 c_8, Value.string x_55, Value.string x_56, Value.int IntKind.i64 x_57]), Value.agg (Array.mk [Value.int IntKind.i64 x_58, Value.int IntKind.i64 x_59, Value.bool x_60, Value.slice a_9 n_9 c_9, Value.string x_61, Value.string x_62, Value.int IntKind.i64 x_63])] h'_10 (Value.bool x_64) h'_11 ∧ bs (!x_64) (Q (Value.bool false) h'_11) (∃ (x : Int), ∃ (x_65 : Int), ∃ (x_66 : Bool), ∃ (a_10 : Option Addr), ∃ (n_10 : Nat), ∃ (c_10 : Nat), ∃ (x_67 : ByteArray), ∃ (x_68 : ByteArray), ∃ (x_69 : Int), AHeap.ld h'_11 (AHeap.n h') (0 : Nat) (0 : Nat) (7 : Nat) = some [Value.int IntKind.i64 x, Value.int IntKind.i64 x_65, Value.bool x_66, Value.slice a_10 n_10 c_10, Value.string x_67, Value.string x_68, Value.int IntKind.i64 x_69] ∧ ∃ (x_70 : Int), ∃ (h'_12 : AHeap), ACall Try.prog (54 : Nat) [Value.agg (Array.mk [Value.int IntKind.i64 x, Value.int IntKind.i64 x_65, Value.bool x_66, Value.slice a_10 n_10 c_10, Value.string x_67, Value.string x_68, Value.int IntKind.i64 x_69]), Value.int IntKind.i64 (1 : Int)] h'_11 (Value.int IntKind.i64 x_70) h'_12 ∧ ∃ (x : Int), ∃ (x_71 : Int), ∃ (x_72 : Bool), ∃ (a_11 : Option Addr), ∃ (n_11 : Nat), ∃ (c_11 : Nat), ∃ (x_73 : ByteArray), ∃ (x_74 : ByteArray), ∃ (x_75 : Int), AHeap.ld h'_12 (AHeap.n h') (0 : Nat) (0 : Nat) (7 : Nat) = some [Value.int IntKind.i64 x, Value.int IntKind.i64 x_71, Value.bool x_72, Value.slice a_11 n_11 c_11, Value.string x_73, Value.string x_74, Value.int IntKind.i64 x_75] ∧ ∃ (x_76 : Int), ∃ (h'_13 : AHeap), ACall Try.prog (55 : Nat) [Value.agg (Array.mk [Value.int IntKind.i64 x, Value.int IntKind.i64 x_71, Value.bool x_72, Value.slice a_11 n_11 c_11, Value.string x_73, Value.string x_74, Value.int IntKind.i64 x_75]), Value.int IntKind.i64 (1 : Int)] h'_12 (Value.int IntKind.i64 x_76) h'_13 ∧ bs (decide (x_76 < (0 : Int))) (Q (Value.bool false) h'_13) (bs (!decide (x_76 = x_70)) (Q (Value.bool false) h'_13) (∃ (x : Int), ∃ (x_77 : Int), ∃ (x_78 : Bool), ∃ (a_12 : Option Addr), ∃ (n_12 : Nat), ∃ (c_12 : Nat), ∃ (x_79 : ByteArray), ∃ (h'_14 : AHeap), ACall Try.prog (34 : Nat) [Value.agg (Array.mk [Value.int IntKind.i64 id, Value.int IntKind.i64 number, Value.bool asked, Value.slice a (List.length hs) c, Value.string told])] (AHeap.push h'_13 (AObj.mk [[Value.int IntKind.i64 (Int.ofNat (0 : Nat)), Value.int IntKind.i64 (Int.ofNat (0 : Nat)), Value.bool false, Value.slice none (0 : Nat) (0 : Nat), Value.string (ByteArray.mk (Array.mk [])), Value.string (ByteArray.mk (Array.mk [])), Value.int IntKind.i64 (Int.ofNat (0 : Nat))]] (7 : Nat) true)) (Value.agg (Array.mk [Value.int IntKind.i64 x, Value.int IntKind.i64 x_77, Value.bool x_78, Value.slice a_12 n_12 c_12, Value.string x_79])) h'_14 ∧ Value.agg (Array.mk [Value.int IntKind.i64 cl, Value.int IntKind.i64 nu, Value.int IntKind.i64 ki, Value.string topic, Value.string group, Value.string text, Value.int IntKind.i64 n]) = Value.agg (Array.mk [Value.int IntKind.i64 cl, Value.int IntKind.i64 nu, Value.int IntKind.i64 ki, Value.string topic, Value.string group, Value.string text, Value.int IntKind.i64 n]) ∧ (AHeap.get h'_14 (AHeap.n h'_13) = AHeap.get (AHeap.push h'_13 (AObj.mk [[Value.int IntKind.i64 (Int.ofNat (0 : Nat)), Value.int IntKind.i64 (Int.ofNat (0 : Nat)), Value.bool false, Value.slice none (0 : Nat) (0 : Nat), Value.string (ByteArray.mk (Array.mk [])), Value.string (ByteArray.mk (Array.mk [])), Value.int IntKind.i64 (Int.ofNat (0 : Nat))]] (7 : Nat) true)) (AHeap.n h'_13) ∧ AHeap.n (AHeap.push h'_13 (AObj.mk [[Value.int IntKind.i64 (Int.ofNat (0 : Nat)), Value.int IntKind.i64 (Int.ofNat (0 : Nat)), Value.bool false, Value.slice none (0 : Nat) (0 : Nat), Value.string (ByteArray.mk (Array.mk [])), Value.string (ByteArray.mk (Array.mk [])), Value.int IntKind.i64 (Int.ofNat (0 : Nat))]] (7 : Nat) true)) ≤ AHeap.n h'_14) ∧ ∃ (x_80 : Int), ∃ (x_81 : Int), ∃ (x_82 : Int), ∃ (x_83 : ByteArray), ∃ (x_84 : ByteArray), ∃ (x_85 : ByteArray), ∃ (x_86 : Int), ∃ (h'_15 : AHeap), ACall Try.prog (51 : Nat) [Value.agg (Array.mk [Value.int IntKind.i64 cl, Value.int IntKind.i64 nu, Value.int IntKind.i64 ki, Value.string topic, Value.string group, Value.string text, Value.int IntKind.i64 n])] h'_14 (Value.agg (Array.mk [Value.int IntKind.i64 x_80, Value.int IntKind.i64 x_81, Value.int IntKind.i64 x_82, Value.string x_83, Value.string x_84, Value.string x_85, Value.int IntKind.i64 x_86])) h'_15 ∧ (AHeap.get h'_15 (AHeap.n h'_13) = AHeap.get h'_14 (AHeap.n h'_13) ∧ AHeap.n h'_14 ≤ AHeap.n h'_15) ∧ ∃ (x_87 : Int), ∃ (x_88 : Int), ∃ (x_89 : Bool), ∃ (a : Option Addr), ∃ (n : Nat), ∃ (c : Nat), ∃ (x_90 : ByteArray), ∃ (x_91 : ByteArray), ∃ (x_92 : Int), ∃ (h'_16 : AHeap), ACall Try.prog (52 : Nat) [Value.agg (Array.mk [Value.int IntKind.i64 x, Value.int IntKind.i64 x_77, Value.bool x_78, Value.slice a_12 n_12 c_12, Value.string x_79]), Value.agg (Array.mk [Value.int IntKind.i64 x_80, Value.int IntKind.i64 x_81, Value.int IntKind.i64 x_82, Value.string x_83, Value.string x_84, Value.string x_85, Value.int IntKind.i64 x_86])] h'_15 (Value.agg (Array.mk [Value.int IntKind.i64 x_87, Value.int IntKind.i64 x_88, Value.bool x_89, Value.slice a n c, Value.string x_90, Value.string x_91, Value.int IntKind.i64 x_92])) h'_16 ∧ (AHeap.get h'_16 (AHeap.n h'_13) = AHeap.get h'_15 (AHeap.n h'_13) ∧ AHeap.n h'_15 ≤ AHeap.n h'_16) ∧ ∃ (h'_17 : AHeap), AHeap.wr h'_16 (AHeap.n h'_13) (0 : Nat) (0 : Nat) [Value.int IntKind.i64 x_87, Value.int IntKind.i64 x_88, Value.bool x_89, Value.slice a n c, Value.string x_90, Value.string x_91, Value.int IntKind.i64 x_92] = some h'_17 ∧ ∃ (x : Int), ∃ (x_93 : Int), ∃ (x_94 : Bool), ∃ (a : Option Addr), ∃ (n : Nat), ∃ (c : Nat), ∃ (x_95 : ByteArray), ∃ (x_96 : ByteArray), ∃ (x_97 : Int), AHeap.ld h'_17 (AHeap.n h'_13) (0 : Nat) (0 : Nat) (7 : Nat) = some [Value.int IntKind.i64 x, Value.int IntKind.i64 x_93, Value.bool x_94, Value.slice a n c, Value.string x_95, Value.string x_96, Value.int IntKind.i64 x_97] ∧ ∃ (x_98 : Int), ∃ (x_99 : Int), ∃ (x_100 : Bool), ∃ (a_13 : Option Addr), ∃ (n_13 : Nat), ∃ (c_13 : Nat), ∃ (x_101 : ByteArray), ∃ (x_102 : ByteArray), ∃ (x_103 : Int), AHeap.ld h'_17 (AHeap.n h'_1) (0 : Nat) (0 : Nat) (7 : Nat) = some [Value.int IntKind.i64 x_98, Value.int IntKind.i64 x_99, Value.bool x_100, Value.slice a_13 n_13 c_13, Value.string x_101, Value.string x_102, Value.int IntKind.i64 x_103] ∧ ∃ (x_104 : Bool), ∃ (h'_18 : AHeap), ACall Try.prog (53 : Nat) [Value.agg (Array.mk [Value.int IntKind.i64 x, Value.int IntKind.i64 x_93, Value.bool x_94, Value.slice a n c, Value.string x_95, Value.string x_96, Value.int IntKind.i64 x_97]), Value.agg (Array.mk [Value.int IntKind.i64 x_98, Value.int IntKind.i64 x_99, Value.bool x_100, Value.slice a_13 n_13 c_13, Value.string x_101, Value.string x_102, Value.int IntKind.i64 x_103])] h'_17 (Value.bool x_104) h'_18 ∧ bs (!x_104) (Q (Value.bool false) h'_18) (∃ (x : Int), ∃ (x_105 : Int), ∃ (x_106 : Bool), ∃ (a : Option Addr), ∃ (n : Nat), ∃ (c : Nat), ∃ (x_107 : ByteArray), ∃ (x_108 : ByteArray), ∃ (x_109 : Int), AHeap.ld h'_18 (AHeap.n h') (0 : Nat) (0 : Nat) (7 : Nat) = some [Value.int IntKind.i64 x, Value.int IntKind.i64 x_105, Value.bool x_106, Value.slice a n c, Value.string x_107, Value.string x_108, Value.int IntKind.i64 x_109] ∧ ∃ (x_110 : Int), ∃ (h' : AHeap), ACall Try.prog (55 : Nat) [Value.agg (Array.mk [Value.int IntKind.i64 x, Value.int IntKind.i64 x_105, Value.bool x_106, Value.slice a n c, Value.string x_107, Value.string x_108, Value.int IntKind.i64 x_109]), Value.int IntKind.i64 (1 : Int)] h'_18 (Value.int IntKind.i64 x_110) h' ∧ bs (decide (x_110 < (0 : Int))) (Q (Value.bool false) h') (bs (!decide (x_110 = x_70)) (Q (Value.bool false) h') (Q (Value.bool true) h')))))))))))) = _) ?_
  refine ⟨_, _, szClient_spec h (id, number, asked, hs, told) 1048576 _ h1 (by omega) ok, bs_d (fun _ => HQ _ _ rfl) (fun hge => ?_)⟩
  have b1 := clientSh.sz_le (id, number, asked, hs, told) 1048576 (by omega)
  have sm := clientSh.sz_small (id, number, asked, hs, told) 1048576 (by omega) (by omega) (by omega)
  refine ⟨_, _, szCommand_spec h (cl, nu, ki, topic, group, text, n) _ (by omega) okm, bs_d (fun _ => HQ _ _ rfl) (fun hge2 => ?_)⟩
  have w0 := hw.push out0
  have l0 := AHeap.Le.push hw out0
  have e0 : (h.push out0).get h.n = some out0 := AHeap.get_push_eq
  obtain ⟨v1, g1, A1, le1, w1, y1, ids1, rfl, r1, f1⟩ := toClient_spec (h.push out0) (id, number, asked, hs, told) _ (h1.mono l0) w0 sm
  obtain ⟨z1, ez, s1⟩ := rd_client.1 r1.rd
  cases ez
  obtain ⟨p1, d1, rfl⟩ := s1.isSlice
  dsimp only at s1 A1 r1
  obtain ⟨v2, g2, A2, le2, w2, ids2, rfl, r2, f2⟩ := toCommand_spec g1 (cl, nu, ki, topic, group, text, n) w1
  obtain ⟨v3, g3, A3, le3, w3, rfl⟩ := specClientAsk g2 w2 id number asked _ _ hs told (s1.mono le2) ok cl nu ki topic group text n okm
  rw [← hT] at A3
  have e1 := le1.get _ _ e0
  have e2 := le2.get _ _ e1
  have e3 := le3.get _ _ e2
  refine ⟨_, _, _, _, _, _, _, _, A1, rfl, keepq le1 e0, _, _, _, _, _, _, _, _, A2, keepq le2 e1, ?_⟩
  refine ⟨_, _, _, _, _, _, _, _, _, _, A3, keepq le3 e2, g3.put h.n (some (outO T)), wr_out T e3, ?_⟩
  have w3' := w3.put (w3.lt e3) (some (outO T))
  have leH3 : h.Le (g3.put h.n (some (outO T))) := (l0.trans (le1.trans (le2.trans le3))).put (hw _ (Nat.le_refl _)) _
  have q3 : (g3.put h.n (some (outO T))).get h.n = some (outO T) := AHeap.get_put_eq
  generalize hG3 : g3.put h.n (some (outO T)) = G3 at w3' leH3 q3 ⊢
  obtain ⟨v4, g4, A4, le4, w4, y4, ids4, rfl, r4, f4⟩ := toClient_spec G3 (id, number, asked, hs, told) _ (h1.mono leH3) w3' sm
  obtain ⟨z4, ez, s4⟩ := rd_client.1 r4.rd
  cases ez
  obtain ⟨p4, d4, rfl⟩ := s4.isSlice
  dsimp only at s4 A4 r4
  have w4' := w4.push out0
  have l4 := AHeap.Le.push w4 out0
  have e4 : (g4.push out0).get g4.n = some out0 := AHeap.get_push_eq
  obtain ⟨v5, g5, A5, le5, w5, ids5, rfl, r5, f5⟩ := toCommand_spec (g4.push out0) (cl, nu, ki, topic, group, text, n) w4'
  obtain ⟨v6, g6, A6, le6, w6, rfl⟩ := implClientAsk g5 w5 id number asked _ _ hs told (s4.mono (l4.trans le5)) ok cl nu ki topic group text n okm
  rw [← hT] at A6
  have e5 := le5.get _ _ e4
  have e6 := le6.get _ _ e5
  refine ⟨_, _, _, _, _, _, _, _, A4, _, _, _, _, _, _, _, _, A5, rfl, keepq le5 e4, ?_⟩
  refine ⟨_, _, _, _, _, _, _, _, _, _, A6, keepq le6 e5, g6.put g4.n (some (outO T)), wr_out T e6, ?_⟩
  have w6' := w6.put (w6.lt e6) (some (outO T))
  have le46 : g4.Le (g6.put g4.n (some (outO T))) := (l4.trans (le5.trans le6)).put (w4 _ (Nat.le_refl _)) _
  have q6 : (g6.put g4.n (some (outO T))).get g4.n = some (outO T) := AHeap.get_put_eq
  generalize hG6 : g6.put g4.n (some (outO T)) = G6 at w6' le46 q6 ⊢
  have p6 := le46.get _ _ (le4.get _ _ q3)
  have okX : clientOutSh.ok (outX T) := by rw [hT]; exact askT_ok ok.1 okm.2.2.1 okm.2.2.2.2.2.2
  have eq6 := eqClientOut_spec G6 (outX T) (outX T) _ nil_sl _ nil_sl okX
  rw [eqb_self] at eq6
  refine ⟨_, _, _, _, _, _, _, _, _, ld_out q6, _, _, _, _, _, _, _, _, _, ld_out p6, _, _, eq6, bs_nb (fun e => by cases e) (fun _ => ?_)⟩
  have leH6 : h.Le G6 := leH3.trans (le4.trans le46)
  obtain ⟨v7, g7, A7, le7, w7, y7, ids7, rfl, r7, f7⟩ := toClient_spec G6 (id, number, asked, hs, told) _ (h1.mono leH6) w6' sm
  obtain ⟨z7, ez, s7⟩ := rd_client.1 r7.rd
  cases ez
  obtain ⟨p7, d7, rfl⟩ := s7.isSlice
  dsimp only at s7 A7 r7
  have eq7 := eqClient_spec g7 (id, number, asked, hs, told) (id, number, asked, hs, told) _ (s4.mono (le46.trans le7)) _ s7 ok
  rw [eqb_self] at eq7
  obtain ⟨y8, j4, e8, ej, so4⟩ := ro_client.1 r4
  cases e8
  dsimp only at so4
  have lh : hs.length ≤ 1048576 := sm.2.2.2.1.1
  obtain ⟨k8, g8, A8, hk8, w8, n8, keep8⟩ := markClient_any g7 w7 id number asked told p4 hs.length d4 hs j4 (so4.le (le46.trans le7)) 1 (by omega) (by omega)
  have lt3 := w3'.lt q3
  have nm : ∀ l ∈ j4, G3.n ≤ l ∧ l < g4.n := fun l hl => f4.bd l (by rw [ej]; simp [hl])
  have q8 : g8.get g4.n = some (outO T) := keep8 _ _ (fun hm => by have := nm _ hm; omega) (le7.get _ _ q6)
  have p8 : g8.get h.n = some (outO T) := keep8 _ _ (fun hm => by have := nm _ hm; omega) (le7.get _ _ p6)
  have eq8 := eqClientOut_spec g8 (outX T) (outX T) _ nil_sl _ nil_sl okX
  rw [eqb_self] at eq8
  refine ⟨_, _, _, _, _, _, _, _, A7, rfl, _, _, eq7, bs_nb (fun e => by cases e) (fun _ => ⟨_, _, A8, bs_d (fun e => by omega) (fun _ => ?_)⟩)⟩
  refine ⟨_, _, _, _, _, _, _, _, _, ld_out q8, ?_⟩
  have mk8 := markClientOut_nil g8 (outX T) 1
  have hd8 := heldClientOut_nil g8 (outX T) 1 (by omega)
  refine ⟨_, _, _, _, _, _, _, _, _, ld_out p8, _, _, eq8, bs_nb (fun e => by cases e) (fun _ => ?_)⟩
  refine ⟨_, _, _, _, _, _, _, _, _, ld_out q8, _, _, mk8, _, _, _, _, _, _, _, _, _, ld_out q8, _, _, hd8, bs_d (fun e => absurd e (by omega)) (fun _ => bs_dn (fun e => absurd rfl e) (fun _ => ?_))⟩
  have leH8 : h.Le g8 := ⟨Nat.le_trans (leH6.trans le7).n n8, fun l o ho => keep8 l o (fun hm => by have h1 := nm _ hm; have h2 := hw.lt ho; have h3 := leH3.n; omega) ((leH6.trans le7).get l o ho)⟩
  have w8' := w8.push out0
  have l8 := AHeap.Le.push w8 out0
  have e9 : (g8.push out0).get g8.n = some out0 := AHeap.get_push_eq
  obtain ⟨v9, g9, A9, le9, w9, y9, ids9, rfl, r9, f9⟩ := toClient_spec (g8.push out0) (id, number, asked, hs, told) _ (h1.mono (leH8.trans l8)) w8' sm
  obtain ⟨z9, ez, s9⟩ := rd_client.1 r9.rd
  cases ez
  obtain ⟨p9, d9, rfl⟩ := s9.isSlice
  dsimp only at s9 A9 r9
  obtain ⟨v10, g10, A10, le10, w10, ids10, rfl, r10, f10⟩ := toCommand_spec g9 (cl, nu, ki, topic, group, text, n) w9
  obtain ⟨v11, g11, A11, le11, w11, rfl⟩ := implClientAsk g10 w10 id number asked _ _ hs told (s9.mono le10) ok cl nu ki topic group text n okm
  rw [← hT] at A11
  have e10 := le9.get _ _ e9
  have e11 := le10.get _ _ e10
  have e12 := le11.get _ _ e11
  have le811 : g8.Le g11 := l8.trans (le9.trans (le10.trans le11))
  have q11 := le811.get _ _ q8
  have p11 := le811.get _ _ p8
  have w11' := w11.put (w11.lt e12) (some (outO T))
  have lt8 := w8.lt q8
  have lt8' := w8.lt p8
  have q12 : (g11.put g8.n (some (outO T))).get g4.n = some (outO T) := by rw [AHeap.get_put_ne (by omega)]; exact q11
  have p12 : (g11.put g8.n (some (outO T))).get h.n = some (outO T) := by rw [AHeap.get_put_ne (by omega)]; exact p11
  have x12 : (g11.put g8.n (some (outO T))).get g8.n = some (outO T) := AHeap.get_put_eq
  refine ⟨_, _, _, _, _, _, _, _, A9, rfl, keepq le9 e9, _, _, _, _, _, _, _, _, A10, keepq le10 e10, ?_⟩
  refine ⟨_, _, _, _, _, _, _, _, _, _, A11, keepq le11 e11, g11.put g8.n (some (outO T)), wr_out T e12, ?_⟩
  generalize hG12 : g11.put g8.n (some (outO T)) = G12 at w11' q12 p12 x12 ⊢
  have eq12 := eqClientOut_spec G12 (outX T) (outX T) _ nil_sl _ nil_sl okX
  rw [eqb_self] at eq12
  have hd12 := heldClientOut_nil G12 (outX T) 1 (by omega)
  refine ⟨_, _, _, _, _, _, _, _, _, ld_out x12, _, _, _, _, _, _, _, _, _, ld_out p12, _, _, eq12, bs_nb (fun e => by cases e) (fun _ => ?_)⟩
  exact ⟨_, _, _, _, _, _, _, _, _, ld_out q12, _, _, hd12, bs_d (fun e => absurd e (by omega)) (fun _ => bs_dn (fun e => absurd rfl e) (fun _ => HQ _ _ rfl))⟩
end Go.Proofs.Ytgcckeglmhbnmaa
