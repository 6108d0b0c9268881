/- Contracts: a client asks. -/
import Derived.Test.YtgcckeglmhbnmaaH4
import Derived.Test.YtgcckeglmhbnmaaC9
namespace Go.Dat
open Go.Abs
def outV (t : Int × Int × Bool × ByteArray × Int) : Value := .agg #[.int .i64 t.1, .int .i64 t.2.1, .bool t.2.2.1, .slice none 0 0, .string ⟨#[]⟩, .string t.2.2.2.1, .int .i64 t.2.2.2.2]
open Classical in
noncomputable def askT (id number : Int) (asked : Bool) (hs : List heardSh.T) (told : ByteArray) (ki : Int) (topic group text : ByteArray) (n : Int) : Int × Int × Bool × ByteArray × Int :=
  if ¬ ClientOk id number asked hs told then (0, 0, false, ⟨#[]⟩, 1) else if asked = true then (0, 0, false, ⟨#[]⟩, 10) else if number = 1000000000 then (0, 0, false, ⟨#[]⟩, 9)
  else if ¬ CmdOk id (number + 1) ki topic group text n then (0, 0, false, ⟨#[]⟩, 1) else (id, number + 1, true, cmdB id (number + 1) ki topic group text n, 0)
end Go.Dat
namespace Go.Proofs.Ytgcckeglmhbnmaa
open Go.Abs Go.Dat
set_option maxRecDepth 100000
set_option maxHeartbeats 8000000

theorem l15Ill_spec (h : AHeap) (code : Int) : ACall Try.prog 101 [.int .i64 code] h (.agg #[.int .i64 0, .int .i64 0, .bool false, .slice none 0 0, .string ⟨#[]⟩, .string ⟨#[]⟩, .int .i64 code]) h := by
  refine acall_out (acall_vc (fun _ => false) (fun _ => []) (fun _ => .none) mixed Try.func101 rfl rfl rfl (Nat.le_of_ble_eq_true rfl) (by refine vc_mp (by kernel_rfl : (True ∧ True ∧ True) = _) ?_; simp only [and_self]) ?_)
  refine vc_mp (by kernel_rfl : (Value.agg (Array.mk [Value.int IntKind.i64 (Int.ofNat (0 : Nat)), Value.int IntKind.i64 (Int.ofNat (0 : Nat)), Value.bool false, Value.slice none (0 : Nat) (0 : Nat), Value.string (ByteArray.mk (Array.mk [])), Value.string (ByteArray.mk (Array.mk [])), Value.int IntKind.i64 code]) = Value.agg (Array.mk [Value.int IntKind.i64 (0 : Int), Value.int IntKind.i64 (0 : Int), Value.bool false, Value.slice none (0 : Nat) (0 : Nat), Value.string (ByteArray.mk (Array.mk [])), Value.string (ByteArray.mk (Array.mk [])), Value.int IntKind.i64 code]) ∧ h = h) = _) ?_
  exact ⟨rfl, rfl⟩

theorem specClientAsk (h : AHeap) (hw : h.wf) (id number : Int) (asked : Bool) (a : Option Addr) (c : Nat) (hs : List heardSh.T) (told : ByteArray) (hx : Sl h heardSh hs (.slice a hs.length c)) (ok : clientSh.ok (id, number, asked, hs, told))
    (cl nu ki : Int) (topic group text : ByteArray) (n : Int) (okm : commandSh.ok (cl, nu, ki, topic, group, text, n)) :
    ∃ v h', ACall Try.prog 50 [.agg #[.int .i64 id, .int .i64 number, .bool asked, .slice a hs.length c, .string told], .agg #[.int .i64 cl, .int .i64 nu, .int .i64 ki, .string topic, .string group, .string text, .int .i64 n]] h v h' ∧ h.Le h' ∧ h'.wf ∧ v = outV (askT id number asked hs told ki topic group text n) := by
  refine acall_q fun Q HQ => ?_
  refine acall_vc (fun _ => false) (fun _ => []) (fun _ => .none) mixed Try.func50 rfl rfl rfl (Nat.le_of_ble_eq_true rfl) (by refine vc_mp (by kernel_rfl : (True ∧ (True ∧ (True ∧ True) ∧ True ∧ (True ∧ True) ∧ True ∧ (True ∧ True) ∧ True) ∧ True ∧ True ∧ True ∧ (True ∧ (True ∧ True) ∧ True) ∧ True ∧ True) = _) ?_; simp only [and_self]) ?_
  have o1 : hs.length ≤ 9223372036854775807 := ok.2.2.2.1.1
  have o2 : told.size ≤ 9223372036854775807 := ok.2.2.2.2
  have o3 : topic.size ≤ 9223372036854775807 := okm.2.2.2.1
  have o4 : group.size ≤ 9223372036854775807 := okm.2.2.2.2.1
  have bi : -9223372036854775808 ≤ id ∧ id ≤ 9223372036854775807 := ok.1
  have bn : -9223372036854775808 ≤ number ∧ number ≤ 9223372036854775807 := ok.2.1
  have bk : -9223372036854775808 ≤ ki ∧ ki ≤ 9223372036854775807 := okm.2.2.1
  have b4 : -9223372036854775808 ≤ n ∧ n ≤ 9223372036854775807 := okm.2.2.2.2.2.2
  refine Eq.mp (by kernel_rfl : (Vc (∃ (x : Bool), ∃ (h' : AHeap), ACall Try.prog (33 : Nat) [Value.agg (Array.mk [Value.int IntKind.i64 id, Value.int IntKind.i64 number, Value.bool asked, Value.slice a (List.length hs) c, Value.string told])] h (Value.bool x) h' ∧ bs (!x) (∃ (x : Int), ∃ (x_1 : Int), ∃ (x_2 : Bool), ∃ (a : Option Addr), ∃ (n : Nat), ∃ (c : Nat), ∃ (x_3 : ByteArray), ∃ (x_4 : ByteArray), ∃ (x_5 : Int), ∃ (h'_1 : AHeap), ACall Try.prog (101 : Nat) [Value.int IntKind.i64 (1 : Int)] h' (Value.agg (Array.mk [Value.int IntKind.i64 x, Value.int IntKind.i64 x_1, Value.bool x_2, Value.slice a n c, Value.string x_3, Value.string x_4, Value.int IntKind.i64 x_5])) h'_1 ∧ Q (Value.agg (Array.mk [Value.int IntKind.i64 x, Value.int IntKind.i64 x_1, Value.bool x_2, Value.slice a n c, Value.string x_3, Value.string x_4, Value.int IntKind.i64 x_5])) h'_1) (bs asked (∃ (x : Int), ∃ (x_1 : Int), ∃ (x_2 : Bool), ∃ (a : Option Addr), ∃ (n : Nat), ∃ (c : Nat), ∃ (x_3 : ByteArray), ∃ (x_4 : ByteArray), ∃ (x_5 : Int), ∃ (h'_1 : AHeap), ACall Try.prog (101 : Nat) [Value.int IntKind.i64 (10 : Int)] h' (Value.agg (Array.mk [Value.int IntKind.i64 x, Value.int IntKind.i64 x_1, Value.bool x_2, Value.slice a n c, Value.string x_3, Value.string x_4, Value.int IntKind.i64 x_5])) h'_1 ∧ Q (Value.agg (Array.mk [Value.int IntKind.i64 x, Value.int IntKind.i64 x_1, Value.bool x_2, Value.slice a n c, Value.string x_3, Value.string x_4, Value.int IntKind.i64 x_5])) h'_1) (bs (decide (number ≥ (1000000000 : Int))) (∃ (x : Int), ∃ (x_1 : Int), ∃ (x_2 : Bool), ∃ (a : Option Addr), ∃ (n : Nat), ∃ (c : Nat), ∃ (x_3 : ByteArray), ∃ (x_4 : ByteArray), ∃ (x_5 : Int), ∃ (h'_1 : AHeap), ACall Try.prog (101 : Nat) [Value.int IntKind.i64 (9 : Int)] h' (Value.agg (Array.mk [Value.int IntKind.i64 x, Value.int IntKind.i64 x_1, Value.bool x_2, Value.slice a n c, Value.string x_3, Value.string x_4, Value.int IntKind.i64 x_5])) h'_1 ∧ Q (Value.agg (Array.mk [Value.int IntKind.i64 x, Value.int IntKind.i64 x_1, Value.bool x_2, Value.slice a n c, Value.string x_3, Value.string x_4, Value.int IntKind.i64 x_5])) h'_1) (∃ (x : ByteArray), ∃ (h'_1 : AHeap), ACall Try.prog (102 : Nat) [Value.agg (Array.mk [Value.int IntKind.i64 id, Value.int IntKind.i64 (IntKind.wrap IntKind.i64 (number + (1 : Int))), Value.int IntKind.i64 ki, Value.string topic, Value.string group, Value.string text, Value.int IntKind.i64 n])] h' (Value.string x) h'_1 ∧ bs (decide (x = ByteArray.mk (Array.mk []))) (∃ (x : Int), ∃ (x_1 : Int), ∃ (x_2 : Bool), ∃ (a : Option Addr), ∃ (n : Nat), ∃ (c : Nat), ∃ (x_3 : ByteArray), ∃ (x_4 : ByteArray), ∃ (x_5 : Int), ∃ (h' : AHeap), ACall Try.prog (101 : Nat) [Value.int IntKind.i64 (1 : Int)] h'_1 (Value.agg (Array.mk [Value.int IntKind.i64 x, Value.int IntKind.i64 x_1, Value.bool x_2, Value.slice a n c, Value.string x_3, Value.string x_4, Value.int IntKind.i64 x_5])) h' ∧ Q (Value.agg (Array.mk [Value.int IntKind.i64 x, Value.int IntKind.i64 x_1, Value.bool x_2, Value.slice a n c, Value.string x_3, Value.string x_4, Value.int IntKind.i64 x_5])) h') (Q (Value.agg (Array.mk [Value.int IntKind.i64 id, Value.int IntKind.i64 (IntKind.wrap IntKind.i64 (number + (1 : Int))), Value.bool true, Value.slice none (0 : Nat) (0 : Nat), Value.string (ByteArray.mk (Array.mk [])), Value.string x, Value.int IntKind.i64 (Int.ofNat (0 : Nat))])) h'_1)))))) = _) ?_
  refine ⟨_, _, specClientRight h id number asked a c hs told hx o1 o2, bs_nb (fun e => ?_) (fun e1 => bs_of (fun e => ?_) (fun e2 => bs_d (fun e => ?_) (fun e3 => ?_)))⟩
  · refine ⟨_, _, _, _, _, _, _, _, _, _, l15Ill_spec _ _, HQ _ _ ⟨.refl _, hw, ?_⟩⟩
    unfold askT; rw [if_pos (of_trn e)]; rfl
  · refine ⟨_, _, _, _, _, _, _, _, _, _, l15Ill_spec _ _, HQ _ _ ⟨.refl _, hw, ?_⟩⟩
    unfold askT; rw [if_neg (fun H => H (of_tr e1)), if_pos e]; rfl
  · have hn : number = 1000000000 := by have := (of_tr e1).2.1.2; omega
    refine ⟨_, _, _, _, _, _, _, _, _, _, l15Ill_spec _ _, HQ _ _ ⟨.refl _, hw, ?_⟩⟩
    unfold askT; rw [if_neg (fun H => H (of_tr e1)), if_neg (by simp [e2]), if_pos hn]; rfl
  · have ew : IntKind.i64.wrap (number + 1) = number + 1 := wrap_i64 (by omega)
    rw [ew]
    obtain ⟨_, g, hA, le, wf, rfl⟩ := specCommandBytes h hw id (number + 1) ki topic group text n bi (by omega) bk b4 o3 o4
    by_cases hc : CmdOk id (number + 1) ki topic group text n
    · have ec : cmdT id (number + 1) ki topic group text n = cmdB id (number + 1) ki topic group text n := by unfold cmdT; rw [if_pos hc]
      rw [ec] at hA
      refine ⟨_, _, hA, bs_d (fun e => absurd e cmdB_pos) (fun _ => HQ _ _ ⟨le, wf, ?_⟩)⟩
      unfold askT; rw [if_neg (fun H => H (of_tr e1)), if_neg (by simp [e2]), if_neg (by omega), if_neg (fun H => H hc)]; rfl
    · have ec : cmdT id (number + 1) ki topic group text n = ⟨#[]⟩ := by unfold cmdT; rw [if_neg hc]
      rw [ec] at hA
      refine ⟨_, _, hA, bs_d (fun _ => ⟨_, _, _, _, _, _, _, _, _, _, l15Ill_spec _ _, HQ _ _ ⟨le, wf, ?_⟩⟩) (fun e => absurd rfl e)⟩
      unfold askT; rw [if_neg (fun H => H (of_tr e1)), if_neg (by simp [e2]), if_neg (by omega), if_pos hc]; rfl
theorem implClientAsk (h : AHeap) (hw : h.wf) (id number : Int) (asked : Bool) (a : Option Addr) (c : Nat) (hs : List heardSh.T) (told : ByteArray) (hx : Sl h heardSh hs (.slice a hs.length c)) (ok : clientSh.ok (id, number, asked, hs, told))
    (cl nu ki : Int) (topic group text : ByteArray) (n : Int) (okm : commandSh.ok (cl, nu, ki, topic, group, text, n)) :
    ∃ v h', ACall Try.prog 52 [.agg #[.int .i64 id, .int .i64 number, .bool asked, .slice a hs.length c, .string told], .agg #[.int .i64 cl, .int .i64 nu, .int .i64 ki, .string topic, .string group, .string text, .int .i64 n]] h v h' ∧ h.Le h' ∧ h'.wf ∧ v = outV (askT id number asked hs told ki topic group text n) := by
  refine acall_q fun Q HQ => ?_
  refine acall_vc (fun _ => false) (fun r => match r with | 7 => [(0, 0, []), (2, 0, []), (1, 1, []), (5, 0, []), (3, 1, []), (4, 0, []), (6, 3, [3]), (7, 0, []), (8, 3, [])] | 10 => [(0, 0, []), (2, 0, []), (1, 1, []), (3, 1, []), (4, 0, []), (5, 1, []), (6, 3, [1, 3]), (7, 0, []), (8, 3, [])] | _ => []) (fun _ => .none) mixed Try.func52 rfl rfl rfl (Nat.le_of_ble_eq_true rfl) (by refine vc_mp (by kernel_rfl : (True ∧ (True ∧ (True ∧ True) ∧ True ∧ (True ∧ True) ∧ True ∧ (True ∧ True) ∧ True) ∧ True ∧ (True ∧ (True ∧ True) ∧ True) ∧ True ∧ True) = _) ?_; simp only [and_self]) ?_
  have o1 : hs.length ≤ 9223372036854775807 := ok.2.2.2.1.1
  have o2 : told.size ≤ 9223372036854775807 := ok.2.2.2.2
  have o3 : topic.size ≤ 9223372036854775807 := okm.2.2.2.1
  have o4 : group.size ≤ 9223372036854775807 := okm.2.2.2.2.1
  have bi : -9223372036854775808 ≤ id ∧ id ≤ 9223372036854775807 := ok.1
  have bn : -9223372036854775808 ≤ number ∧ number ≤ 9223372036854775807 := ok.2.1
  have bk : -9223372036854775808 ≤ ki ∧ ki ≤ 9223372036854775807 := okm.2.2.1
  have b4 : -9223372036854775808 ≤ n ∧ n ≤ 9223372036854775807 := okm.2.2.2.2.2.2
  refine Eq.mp (by kernel_rfl : (Vc (∃ (x : Bool), ∃ (h' : AHeap), ACall Try.prog (81 : Nat) [Value.agg (Array.mk [Value.int IntKind.i64 id, Value.int IntKind.i64 number, Value.bool asked, Value.slice a (List.length hs) c, Value.string told])] h (Value.bool x) h' ∧ bs (!x) (Q (Value.agg (Array.mk [Value.int IntKind.i64 (Int.ofNat (0 : Nat)), Value.int IntKind.i64 (Int.ofNat (0 : Nat)), Value.bool false, Value.slice none (0 : Nat) (0 : Nat), Value.string (ByteArray.mk (Array.mk [])), Value.string (ByteArray.mk (Array.mk [])), Value.int IntKind.i64 (1 : Int)])) h') (bs asked (Q (Value.agg (Array.mk [Value.int IntKind.i64 (Int.ofNat (0 : Nat)), Value.int IntKind.i64 (Int.ofNat (0 : Nat)), Value.bool false, Value.slice none (0 : Nat) (0 : Nat), Value.string (ByteArray.mk (Array.mk [])), Value.string (ByteArray.mk (Array.mk [])), Value.int IntKind.i64 (10 : Int)])) h') (bs (decide (number = (1000000000 : Int))) (Q (Value.agg (Array.mk [Value.int IntKind.i64 (Int.ofNat (0 : Nat)), Value.int IntKind.i64 (Int.ofNat (0 : Nat)), Value.bool false, Value.slice none (0 : Nat) (0 : Nat), Value.string (ByteArray.mk (Array.mk [])), Value.string (ByteArray.mk (Array.mk [])), Value.int IntKind.i64 (9 : Int)])) h') (Value.int IntKind.i64 number = Value.int IntKind.i64 number ∧ ∃ (x : Bool), ∃ (h'_1 : AHeap), ACall Try.prog (103 : Nat) [Value.agg (Array.mk [Value.int IntKind.i64 id, Value.int IntKind.i64 (IntKind.wrap IntKind.i64 (number + (1 : Int))), Value.int IntKind.i64 ki, Value.string topic, Value.string group, Value.string text, Value.int IntKind.i64 n])] h' (Value.bool x) h'_1 ∧ bs (!x) (Q (Value.agg (Array.mk [Value.int IntKind.i64 (Int.ofNat (0 : Nat)), Value.int IntKind.i64 (Int.ofNat (0 : Nat)), Value.bool false, Value.slice none (0 : Nat) (0 : Nat), Value.string (ByteArray.mk (Array.mk [])), Value.string (ByteArray.mk (Array.mk [])), Value.int IntKind.i64 (1 : Int)])) h'_1) (∃ (x : ByteArray), ∃ (h' : AHeap), ACall Try.prog (104 : Nat) [Value.agg (Array.mk [Value.int IntKind.i64 id, Value.int IntKind.i64 (IntKind.wrap IntKind.i64 (number + (1 : Int))), Value.int IntKind.i64 ki, Value.string topic, Value.string group, Value.string text, Value.int IntKind.i64 n])] h'_1 (Value.string x) h' ∧ Value.int IntKind.i64 (IntKind.wrap IntKind.i64 (number + (1 : Int))) = Value.int IntKind.i64 (IntKind.wrap IntKind.i64 (number + (1 : Int))) ∧ Value.int IntKind.i64 id = Value.int IntKind.i64 id ∧ Q (Value.agg (Array.mk [Value.int IntKind.i64 id, Value.int IntKind.i64 (IntKind.wrap IntKind.i64 (number + (1 : Int))), Value.bool true, Value.slice none (0 : Nat) (0 : Nat), Value.string (ByteArray.mk (Array.mk [])), Value.string x, Value.int IntKind.i64 (Int.ofNat (0 : Nat))])) h')))))) = _) ?_
  refine ⟨_, _, isClient_spec h id number asked a c hs told hx o1 o2, bs_nb (fun e => ?_) (fun e1 => bs_of (fun e => ?_) (fun e2 => bs_d (fun e => ?_) (fun e3 => ?_)))⟩
  · refine HQ _ _ ⟨.refl _, hw, ?_⟩
    unfold askT; rw [if_pos (of_trn e)]; rfl
  · refine HQ _ _ ⟨.refl _, hw, ?_⟩
    unfold askT; rw [if_neg (fun H => H (of_tr e1)), if_pos e]; rfl
  · refine HQ _ _ ⟨.refl _, hw, ?_⟩
    unfold askT; rw [if_neg (fun H => H (of_tr e1)), if_neg (by simp [e2]), if_pos e]; rfl
  · have hlt := (of_tr e1).2.1.2
    have ew : IntKind.i64.wrap (number + 1) = number + 1 := wrap_i64 (by omega)
    rw [ew]
    refine ⟨rfl, _, _, isCommand_spec h id (number + 1) ki topic group text n o3 o4, bs_nb (fun e => HQ _ _ ⟨.refl _, hw, ?_⟩) (fun e4 => ?_)⟩
    · unfold askT; rw [if_neg (fun H => H (of_tr e1)), if_neg (by simp [e2]), if_neg e3, if_pos (of_trn e)]; rfl
    · obtain ⟨z1, z2, z3⟩ := cmdOk_sizes (of_tr e4)
      obtain ⟨_, g, hA, le, wf, rfl⟩ := commandBytes_spec h hw id (number + 1) ki topic group text n bi (by omega) bk b4 z1 z2 z3
      refine ⟨_, _, hA, rfl, rfl, HQ _ _ ⟨le, wf, ?_⟩⟩
      unfold askT; rw [if_neg (fun H => H (of_tr e1)), if_neg (by simp [e2]), if_neg e3, if_neg (fun H => H (of_tr e4))]; rfl
end Go.Proofs.Ytgcckeglmhbnmaa
