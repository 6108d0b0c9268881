/- Contracts: the bytes of commands. -/
import Derived.Test.YtgcckeglmhbnmaaH3
namespace Go.Dat
open Go.Abs
def cmdB (cl nu ki : Int) (topic group text : ByteArray) (n : Int) : ByteArray := vb (foldN cl) ++ vb (foldN nu) ++ vb (foldN ki) ++ vt topic ++ vt group ++ vt text ++ vb (foldN n)
theorem vb_size10 {n : Int} (h : -9223372036854775808 ≤ n ∧ n ≤ 9223372036854775807) : (vb (foldN n)).size ≤ 10 := vb_size 9 _ (by have := foldN_lt h; omega)
theorem vt_size {t : ByteArray} (h : t.size ≤ 20000) : (vt t).size ≤ 20010 := by
  have := vb_size10 (n := t.size) (by omega)
  unfold vt; rw [ByteArray.size_append]; omega
end Go.Dat
namespace Go.Proofs.Ytgcckeglmhbnmaa
open Go.Abs Go.Dat
set_option maxRecDepth 100000
set_option maxHeartbeats 8000000

theorem l06Bytes_spec (h : AHeap) (hw : h.wf) (cl nu ki : Int) (topic group text : ByteArray) (n : Int) (b1 : -9223372036854775808 ≤ cl ∧ cl ≤ 9223372036854775807) (b2 : -9223372036854775808 ≤ nu ∧ nu ≤ 9223372036854775807) (b3 : -9223372036854775808 ≤ ki ∧ ki ≤ 9223372036854775807) (b4 : -9223372036854775808 ≤ n ∧ n ≤ 9223372036854775807)
    (o1 : topic.size ≤ 20000) (o2 : group.size ≤ 20000) (o3 : text.size ≤ 20000) :
    ∃ v h', ACall Try.prog 133 [.agg #[.int .i64 cl, .int .i64 nu, .int .i64 ki, .string topic, .string group, .string text, .int .i64 n]] h v h' ∧ h.Le h' ∧ h'.wf ∧ v = .string (cmdB cl nu ki topic group text n) := by
  refine acall_q fun Q HQ => ?_
  refine acall_vc (fun _ => false) (fun _ => [(0, 0, []), (3, 0, []), (7, 0, []), (11, 0, []), (15, 0, []), (19, 0, []), (23, 0, []), (1, 1, []), (4, 1, []), (8, 1, []), (12, 1, []), (16, 1, []), (20, 1, []), (24, 1, []), (2, 3, [4, 8, 12, 16, 20, 24]), (5, 3, [8, 12, 16, 20, 24]), (6, 0, []), (9, 3, [12, 16, 20, 24]), (10, 0, []), (13, 3, [16, 20, 24]), (14, 0, []), (17, 3, [20, 24]), (18, 0, []), (21, 3, [24]), (22, 0, []), (25, 3, []), (26, 0, []), (27, 0, [])]) (fun _ => .none) mixed Try.func133 rfl rfl rfl (Nat.le_of_ble_eq_true rfl) (by refine vc_mp (by kernel_rfl : (True ∧ True ∧ True) = _) ?_; simp only [and_self]) ?_
  have sz : ∀ a b : ByteArray, (Append.append a b).size = a.size + b.size := fun a b => ByteArray.size_append
  have s1 := vb_size10 b1
  have s2 := vb_size10 b2
  have s3 := vb_size10 b3
  have s4 := vt_size o1
  have s5 := vt_size o2
  have s6 := vt_size o3
  have s7 := vb_size10 b4
  obtain ⟨_, g1, A1, l1, w1, rfl⟩ := specPutNum h hw cl b1
  obtain ⟨_, g2, A2, l2, w2, rfl⟩ := specPutNum g1 w1 nu b2
  obtain ⟨_, g3, A3, l3, w3, rfl⟩ := specPutNum g2 w2 ki b3
  obtain ⟨_, g4, A4, l4, w4, rfl⟩ := specPutText g3 w3 topic o1
  obtain ⟨_, g5, A5, l5, w5, rfl⟩ := specPutText g4 w4 group o2
  obtain ⟨_, g6, A6, l6, w6, rfl⟩ := specPutText g5 w5 text o3
  obtain ⟨_, g7, A7, l7, w7, rfl⟩ := specPutNum g6 w6 n b4
  refine Eq.mp (by kernel_rfl : (Vc (∃ (x : ByteArray), ∃ (h' : AHeap), ACall Try.prog (160 : Nat) [Value.int IntKind.i64 cl] h (Value.string x) h' ∧ Value.int IntKind.i64 n = Value.int IntKind.i64 n ∧ Value.string text = Value.string text ∧ Value.string group = Value.string group ∧ Value.string topic = Value.string topic ∧ Value.int IntKind.i64 ki = Value.int IntKind.i64 ki ∧ Value.int IntKind.i64 nu = Value.int IntKind.i64 nu ∧ ∃ (x_1 : ByteArray), ∃ (h'_1 : AHeap), ACall Try.prog (160 : Nat) [Value.int IntKind.i64 nu] h' (Value.string x_1) h'_1 ∧ Value.int IntKind.i64 n = Value.int IntKind.i64 n ∧ Value.string text = Value.string text ∧ Value.string group = Value.string group ∧ Value.string topic = Value.string topic ∧ Value.int IntKind.i64 ki = Value.int IntKind.i64 ki ∧ ByteArray.size x + ByteArray.size x_1 ≤ (9223372036854775807 : Nat) ∧ ∃ (x_2 : ByteArray), ∃ (h' : AHeap), ACall Try.prog (160 : Nat) [Value.int IntKind.i64 ki] h'_1 (Value.string x_2) h' ∧ Value.int IntKind.i64 n = Value.int IntKind.i64 n ∧ Value.string text = Value.string text ∧ Value.string group = Value.string group ∧ Value.string topic = Value.string topic ∧ ByteArray.size (Append.append x x_1) + ByteArray.size x_2 ≤ (9223372036854775807 : Nat) ∧ ∃ (x_3 : ByteArray), ∃ (h'_2 : AHeap), ACall Try.prog (161 : Nat) [Value.string topic] h' (Value.string x_3) h'_2 ∧ Value.int IntKind.i64 n = Value.int IntKind.i64 n ∧ Value.string text = Value.string text ∧ Value.string group = Value.string group ∧ ByteArray.size (Append.append (Append.append x x_1) x_2) + ByteArray.size x_3 ≤ (9223372036854775807 : Nat) ∧ ∃ (x_4 : ByteArray), ∃ (h' : AHeap), ACall Try.prog (161 : Nat) [Value.string group] h'_2 (Value.string x_4) h' ∧ Value.int IntKind.i64 n = Value.int IntKind.i64 n ∧ Value.string text = Value.string text ∧ ByteArray.size (Append.append (Append.append (Append.append x x_1) x_2) x_3) + ByteArray.size x_4 ≤ (9223372036854775807 : Nat) ∧ ∃ (x_5 : ByteArray), ∃ (h'_3 : AHeap), ACall Try.prog (161 : Nat) [Value.string text] h' (Value.string x_5) h'_3 ∧ Value.int IntKind.i64 n = Value.int IntKind.i64 n ∧ ByteArray.size (Append.append (Append.append (Append.append (Append.append x x_1) x_2) x_3) x_4) + ByteArray.size x_5 ≤ (9223372036854775807 : Nat) ∧ ∃ (x_6 : ByteArray), ∃ (h' : AHeap), ACall Try.prog (160 : Nat) [Value.int IntKind.i64 n] h'_3 (Value.string x_6) h' ∧ ByteArray.size (Append.append (Append.append (Append.append (Append.append (Append.append x x_1) x_2) x_3) x_4) x_5) + ByteArray.size x_6 ≤ (9223372036854775807 : Nat) ∧ Q (Value.string (Append.append (Append.append (Append.append (Append.append (Append.append (Append.append x x_1) x_2) x_3) x_4) x_5) x_6)) h')) = _) ?_
  refine ⟨_, _, A1, rfl, rfl, rfl, rfl, rfl, rfl, _, _, A2, rfl, rfl, rfl, rfl, rfl, by omega, _, _, A3, rfl, rfl, rfl, rfl, by simp only [sz]; omega, _, _, A4, rfl, rfl, rfl, by simp only [sz]; omega, _, _, A5, rfl, rfl, by simp only [sz]; omega, _, _, A6, rfl, by simp only [sz]; omega, _, _, A7, by simp only [sz]; omega, HQ _ _ ⟨l1.trans (l2.trans (l3.trans (l4.trans (l5.trans (l6.trans l7))))), w7, rfl⟩⟩
theorem commandBytes_spec (h : AHeap) (hw : h.wf) (cl nu ki : Int) (topic group text : ByteArray) (n : Int) (b1 : -9223372036854775808 ≤ cl ∧ cl ≤ 9223372036854775807) (b2 : -9223372036854775808 ≤ nu ∧ nu ≤ 9223372036854775807) (b3 : -9223372036854775808 ≤ ki ∧ ki ≤ 9223372036854775807) (b4 : -9223372036854775808 ≤ n ∧ n ≤ 9223372036854775807)
    (o1 : topic.size ≤ 20000) (o2 : group.size ≤ 20000) (o3 : text.size ≤ 20000) :
    ∃ v h', ACall Try.prog 104 [.agg #[.int .i64 cl, .int .i64 nu, .int .i64 ki, .string topic, .string group, .string text, .int .i64 n]] h v h' ∧ h.Le h' ∧ h'.wf ∧ v = .string (cmdB cl nu ki topic group text n) := by
  refine acall_q fun Q HQ => ?_
  refine acall_vc (fun _ => false) (fun _ => [(0, 0, []), (2, 0, []), (4, 0, []), (8, 0, []), (12, 0, []), (16, 0, []), (20, 0, []), (1, 1, []), (3, 1, []), (5, 1, []), (9, 1, []), (13, 1, []), (17, 1, []), (21, 1, []), (6, 3, [9, 13, 17, 21]), (7, 3, [9, 13, 17, 21]), (10, 3, [13, 17, 21]), (11, 0, []), (14, 3, [17, 21]), (15, 0, []), (18, 3, [21]), (19, 0, []), (22, 3, []), (23, 0, []), (24, 0, [])]) (fun _ => .none) mixed Try.func104 rfl rfl rfl (Nat.le_of_ble_eq_true rfl) (by refine vc_mp (by kernel_rfl : (True ∧ True ∧ True) = _) ?_; simp only [and_self]) ?_
  have sz : ∀ a b : ByteArray, (Append.append a b).size = a.size + b.size := fun a b => ByteArray.size_append
  have s1 := vb_size10 b1
  have s2 := vb_size10 b2
  have s3 := vb_size10 b3
  have s4 := vt_size o1
  have s5 := vt_size o2
  have s6 := vt_size o3
  have s7 := vb_size10 b4
  have hx : Sl (h.push ⟨[[.int .i64 cl], [.int .i64 nu], [.int .i64 ki]], 1, true⟩) Sh.int [cl, nu, ki] (.slice (some ⟨h.n, 0, some 1⟩) 3 4) := by
    refine ⟨_, 3, 4, [[.int .i64 cl], [.int .i64 nu], [.int .i64 ki]], rfl, .inr ⟨_, _, rfl⟩, ?_, rfl, fun i x row h1 h2 => ?_⟩
    · rw [get_rowsOf AHeap.get_push_eq (by simp)]; rfl
    · match i, h1, h2 with
      | 0, h1, h2 => simp at h1 h2; subst h1; subst h2; rfl
      | 1, h1, h2 => simp at h1 h2; subst h1; subst h2; rfl
      | 2, h1, h2 => simp at h1 h2; subst h1; subst h2; rfl
      | i + 3, h1, h2 => simp at h1
  have okx : (Sh.sl Sh.int).ok [cl, nu, ki] := ⟨by simp, fun x hx => by
    simp only [List.mem_cons, List.not_mem_nil, or_false] at hx
    rcases hx with rfl | rfl | rfl
    · exact b1
    · exact b2
    · exact b3⟩
  have w0 := hw.push ⟨[[.int .i64 cl], [.int .i64 nu], [.int .i64 ki]], 1, true⟩
  have l0 := AHeap.Le.push hw ⟨[[.int .i64 cl], [.int .i64 nu], [.int .i64 ki]], 1, true⟩
  obtain ⟨_, g3, A3, l3, w3, rfl⟩ := putNums_spec _ w0 _ 3 4 [cl, nu, ki] hx okx (by omega)
  obtain ⟨_, g4, A4, l4, w4, rfl⟩ := putText_spec g3 w3 topic (by omega)
  obtain ⟨_, g5, A5, l5, w5, rfl⟩ := putText_spec g4 w4 group (by omega)
  obtain ⟨_, g6, A6, l6, w6, rfl⟩ := putText_spec g5 w5 text (by omega)
  obtain ⟨_, g7, A7, l7, w7, rfl⟩ := putNum_spec g6 w6 n b4
  have s0 := vns_size [cl, nu, ki] okx.2
  have s00 : (vns [cl, nu, ki]).size ≤ 30 := s0
  have fin : Append.append (Append.append (Append.append (Append.append (vns [cl, nu, ki]) (vt topic)) (vt group)) (vt text)) (vb (foldN n)) = cmdB cl nu ki topic group text n := by
    show vns [cl, nu, ki] ++ vt topic ++ vt group ++ vt text ++ vb (foldN n) = _
    have e : vns [cl, nu, ki] = vb (foldN cl) ++ vb (foldN nu) ++ vb (foldN ki) := by
      show vb (foldN cl) ++ (vb (foldN nu) ++ (vb (foldN ki) ++ ⟨#[]⟩)) = _
      rw [ba_append_nil, ba_assoc]
    rw [e]; rfl
  refine Eq.mp (by kernel_rfl : (Vc (Value.int IntKind.i64 n = Value.int IntKind.i64 n ∧ Value.string text = Value.string text ∧ Value.string group = Value.string group ∧ Value.string topic = Value.string topic ∧ ∃ (x : ByteArray), ∃ (h' : AHeap), ACall Try.prog (136 : Nat) [Value.slice (some (Addr.mk (AHeap.n h) (0 : Nat) (some (1 : Nat)))) (3 : Nat) (4 : Nat)] (AHeap.push h (AObj.mk [[Value.int IntKind.i64 cl], [Value.int IntKind.i64 nu], [Value.int IntKind.i64 ki]] (1 : Nat) true)) (Value.string x) h' ∧ Value.int IntKind.i64 n = Value.int IntKind.i64 n ∧ Value.string text = Value.string text ∧ Value.string group = Value.string group ∧ Value.string topic = Value.string topic ∧ ∃ (x_1 : ByteArray), ∃ (h'_1 : AHeap), ACall Try.prog (137 : Nat) [Value.string topic] h' (Value.string x_1) h'_1 ∧ Value.int IntKind.i64 n = Value.int IntKind.i64 n ∧ Value.string text = Value.string text ∧ Value.string group = Value.string group ∧ ByteArray.size x + ByteArray.size x_1 ≤ (9223372036854775807 : Nat) ∧ ∃ (x_2 : ByteArray), ∃ (h' : AHeap), ACall Try.prog (137 : Nat) [Value.string group] h'_1 (Value.string x_2) h' ∧ Value.int IntKind.i64 n = Value.int IntKind.i64 n ∧ Value.string text = Value.string text ∧ ByteArray.size (Append.append x x_1) + ByteArray.size x_2 ≤ (9223372036854775807 : Nat) ∧ ∃ (x_3 : ByteArray), ∃ (h'_2 : AHeap), ACall Try.prog (137 : Nat) [Value.string text] h' (Value.string x_3) h'_2 ∧ Value.int IntKind.i64 n = Value.int IntKind.i64 n ∧ ByteArray.size (Append.append (Append.append x x_1) x_2) + ByteArray.size x_3 ≤ (9223372036854775807 : Nat) ∧ ∃ (x_4 : ByteArray), ∃ (h' : AHeap), ACall Try.prog (138 : Nat) [Value.int IntKind.i64 n] h'_2 (Value.string x_4) h' ∧ ByteArray.size (Append.append (Append.append (Append.append x x_1) x_2) x_3) + ByteArray.size x_4 ≤ (9223372036854775807 : Nat) ∧ Q (Value.string (Append.append (Append.append (Append.append (Append.append x x_1) x_2) x_3) x_4)) h')) = _) ?_
  refine ⟨rfl, rfl, rfl, rfl, _, _, A3, rfl, rfl, rfl, rfl, _, _, A4, rfl, rfl, rfl, by omega, _, _, A5, rfl, rfl, by simp only [sz]; omega, _, _, A6, rfl, by simp only [sz]; omega, _, _, A7, by simp only [sz]; omega, ?_⟩
  rw [fin]
  exact HQ _ _ ⟨l0.trans (l3.trans (l4.trans (l5.trans (l6.trans l7)))), w7, rfl⟩

theorem cmdOk_sizes {cl nu ki : Int} {topic group text : ByteArray} {n : Int} (H : CmdOk cl nu ki topic group text n) : topic.size ≤ 20000 ∧ group.size ≤ 20000 ∧ text.size ≤ 20000 := by
  have z : (⟨#[]⟩ : ByteArray).size = 0 := rfl
  have h1 := H.2.2.1.2.1
  rcases H.2.2.2 with ⟨_, rfl, rfl, _⟩ | ⟨_, h2, rfl, _⟩ | ⟨_, h2, rfl, _⟩ | ⟨_, rfl, rfl, _⟩
  · omega
  · have := h2.2; omega
  · have := h2.2.1; omega
  · omega
open Classical in
noncomputable def cmdT (cl nu ki : Int) (topic group text : ByteArray) (n : Int) : ByteArray := if CmdOk cl nu ki topic group text n then cmdB cl nu ki topic group text n else ⟨#[]⟩
theorem cmdB_pos {cl nu ki : Int} {topic group text : ByteArray} {n : Int} : cmdB cl nu ki topic group text n ≠ ⟨#[]⟩ := by
  intro h
  have h2 := congrArg ByteArray.size h
  unfold cmdB at h2
  simp only [ByteArray.size_append] at h2
  have : 0 < (vb (foldN n)).size := by
    by_cases hu : foldN n < 128
    · rw [vb_lo hu, oneB_size]; omega
    · rw [vb_hi hu, ByteArray.size_append, oneB_size]; omega
  have z : (⟨#[]⟩ : ByteArray).size = 0 := rfl
  omega

theorem specCommandBytes (h : AHeap) (hw : h.wf) (cl nu ki : Int) (topic group text : ByteArray) (n : Int) (b1 : -9223372036854775808 ≤ cl ∧ cl ≤ 9223372036854775807) (b2 : -9223372036854775808 ≤ nu ∧ nu ≤ 9223372036854775807) (b3 : -9223372036854775808 ≤ ki ∧ ki ≤ 9223372036854775807) (b4 : -9223372036854775808 ≤ n ∧ n ≤ 9223372036854775807)
    (o1 : topic.size ≤ 9223372036854775807) (o2 : group.size ≤ 9223372036854775807) :
    ∃ v h', ACall Try.prog 102 [.agg #[.int .i64 cl, .int .i64 nu, .int .i64 ki, .string topic, .string group, .string text, .int .i64 n]] h v h' ∧ h.Le h' ∧ h'.wf ∧ v = .string (cmdT cl nu ki topic group text n) := by
  refine acall_q fun Q HQ => ?_
  refine acall_vc (fun _ => false) (fun _ => []) (fun _ => .none) mixed Try.func102 rfl rfl rfl (Nat.le_of_ble_eq_true rfl) (by refine vc_mp (by kernel_rfl : (True ∧ (True ∧ (True ∧ True) ∧ True) ∧ True ∧ True) = _) ?_; simp only [and_self]) ?_
  refine vc_mp (by kernel_rfl : (∃ (x : Bool), ∃ (h' : AHeap), ACall Try.prog (132 : Nat) [Value.agg (Array.mk [Value.int IntKind.i64 cl, Value.int IntKind.i64 nu, Value.int IntKind.i64 ki, Value.string topic, Value.string group, Value.string text, Value.int IntKind.i64 n])] h (Value.bool x) h' ∧ bs (!x) (Q (Value.string (ByteArray.mk (Array.mk []))) h') (∃ (x : ByteArray), ∃ (h'_1 : AHeap), ACall Try.prog (133 : Nat) [Value.agg (Array.mk [Value.int IntKind.i64 cl, Value.int IntKind.i64 nu, Value.int IntKind.i64 ki, Value.string topic, Value.string group, Value.string text, Value.int IntKind.i64 n])] h' (Value.string x) h'_1 ∧ Q (Value.string x) h'_1)) = _) ?_
  refine ⟨_, _, commandRight_spec h cl nu ki topic group text n o1 o2, bs_nb (fun e => HQ _ _ ⟨.refl _, hw, ?_⟩) (fun e => ?_)⟩
  · unfold cmdT; rw [if_neg (of_trn e)]
  · obtain ⟨z1, z2, z3⟩ := cmdOk_sizes (of_tr e)
    obtain ⟨_, g, hA, le, wf, rfl⟩ := l06Bytes_spec h hw cl nu ki topic group text n b1 b2 b3 b4 z1 z2 z3
    exact ⟨_, _, hA, HQ _ _ ⟨le, wf, by unfold cmdT; rw [if_pos (of_tr e)]⟩⟩
end Go.Proofs.Ytgcckeglmhbnmaa
