/- The law FnExactReplicaRight tells true. Written by law.py. -/
import Derived.Test.YtanienlcebkijaaV10U5
import Derived.Test.YtanienlcebkijaaV10N2
namespace Go.Proofs.Ytanienlcebkijaa
open Go.Abs Go.Dat
set_option maxRecDepth 100000
set_option maxHeartbeats 8000000
theorem lawReplicaRight (h : AHeap) (hw : h.wf) (a0 : replicaSh.T) (v0_1 v0_2 v0_3 v0_4 : Value) (s0_1 : Sl h voteSh a0.2.2.2.2.1 v0_1) (s0_2 : Sl h changeSh a0.2.2.2.2.2.1 v0_2) (s0_3 : Sl h changeSh a0.2.2.2.2.2.2.1.2.2.2.2.2 v0_3) (s0_4 : Sl h Sh.str a0.2.2.2.2.2.2.2 v0_4) (ok0 : replicaSh.ok a0) :
    ∃ v h', ACall Try.prog 7 [.agg #[.int .i64 a0.1, .int .i64 a0.2.1, .bool a0.2.2.1, .int .i64 a0.2.2.2.1, v0_1, v0_2, .int .i64 a0.2.2.2.2.2.2.1.1, .int .i64 a0.2.2.2.2.2.2.1.2.1, .int .i64 a0.2.2.2.2.2.2.1.2.2.1, .int .i64 a0.2.2.2.2.2.2.1.2.2.2.1, .string a0.2.2.2.2.2.2.1.2.2.2.2.1, v0_3, v0_4]] h v h' ∧ v = .bool true := by
  refine acall_q fun Q HQ => ?_
  refine acall_vc (fun _ => false) (fun r => match r with | 10 => [(0, 1, []), (1, 1, []), (2, 3, [0]), (3, 3, []), (4, 0, [])] | _ => []) (fun _ => .none) mixed Try.func7 rfl rfl rfl (Nat.le_of_ble_eq_true rfl) (by refine vc_mp (by kernel_rfl : (True ∧ True ∧ True ∧ (True ∧ (True ∧ True) ∧ True) ∧ True ∧ True ∧ True ∧ (True ∧ (True ∧ True) ∧ True) ∧ (True ∧ (True ∧ True) ∧ True) ∧ True ∧ True) = _) ?_; simp only [and_self]) ?_
  refine vc_mp (by kernel_rfl : (∃ (x : Int), ∃ (h' : AHeap), ACall Try.prog (49 : Nat) [Value.agg (Array.mk [Value.int IntKind.i64 (Prod.fst a0), Value.int IntKind.i64 (Prod.fst (Prod.snd a0)), Value.bool (Prod.fst (Prod.snd (Prod.snd a0))), Value.int IntKind.i64 (Prod.fst (Prod.snd (Prod.snd (Prod.snd a0)))), v0_1, v0_2, Value.int IntKind.i64 (Prod.fst (Prod.fst (Prod.snd (Prod.snd (Prod.snd (Prod.snd (Prod.snd (Prod.snd a0)))))))), Value.int IntKind.i64 (Prod.fst (Prod.snd (Prod.fst (Prod.snd (Prod.snd (Prod.snd (Prod.snd (Prod.snd (Prod.snd a0))))))))), Value.int IntKind.i64 (Prod.fst (Prod.snd (Prod.snd (Prod.fst (Prod.snd (Prod.snd (Prod.snd (Prod.snd (Prod.snd (Prod.snd a0)))))))))), Value.int IntKind.i64 (Prod.fst (Prod.snd (Prod.snd (Prod.snd (Prod.fst (Prod.snd (Prod.snd (Prod.snd (Prod.snd (Prod.snd (Prod.snd a0))))))))))), Value.string (Prod.fst (Prod.snd (Prod.snd (Prod.snd (Prod.snd (Prod.fst (Prod.snd (Prod.snd (Prod.snd (Prod.snd (Prod.snd (Prod.snd a0)))))))))))), v0_3, v0_4]), Value.int IntKind.i64 (1048576 : Int)] h (Value.int IntKind.i64 x) h' ∧ bs (decide (x < (0 : Int))) (Q (Value.bool true) h') (∃ (x : Int), ∃ (x_1 : Int), ∃ (x_2 : Bool), ∃ (x_3 : Int), ∃ (a : Option Addr), ∃ (n : Nat), ∃ (c : Nat), ∃ (a_1 : Option Addr), ∃ (n_1 : Nat), ∃ (c_1 : Nat), ∃ (x_4 : Int), ∃ (x_5 : Int), ∃ (x_6 : Int), ∃ (x_7 : Int), ∃ (x_8 : ByteArray), ∃ (a_2 : Option Addr), ∃ (n_2 : Nat), ∃ (c_2 : Nat), ∃ (a_3 : Option Addr), ∃ (n_3 : Nat), ∃ (c_3 : Nat), ∃ (h'_1 : AHeap), ACall Try.prog (51 : Nat) [Value.agg (Array.mk [Value.int IntKind.i64 (Prod.fst a0), Value.int IntKind.i64 (Prod.fst (Prod.snd a0)), Value.bool (Prod.fst (Prod.snd (Prod.snd a0))), Value.int IntKind.i64 (Prod.fst (Prod.snd (Prod.snd (Prod.snd a0)))), v0_1, v0_2, Value.int IntKind.i64 (Prod.fst (Prod.fst (Prod.snd (Prod.snd (Prod.snd (Prod.snd (Prod.snd (Prod.snd a0)))))))), Value.int IntKind.i64 (Prod.fst (Prod.snd (Prod.fst (Prod.snd (Prod.snd (Prod.snd (Prod.snd (Prod.snd (Prod.snd a0))))))))), Value.int IntKind.i64 (Prod.fst (Prod.snd (Prod.snd (Prod.fst (Prod.snd (Prod.snd (Prod.snd (Prod.snd (Prod.snd (Prod.snd a0)))))))))), Value.int IntKind.i64 (Prod.fst (Prod.snd (Prod.snd (Prod.snd (Prod.fst (Prod.snd (Prod.snd (Prod.snd (Prod.snd (Prod.snd (Prod.snd a0))))))))))), Value.string (Prod.fst (Prod.snd (Prod.snd (Prod.snd (Prod.snd (Prod.fst (Prod.snd (Prod.snd (Prod.snd (Prod.snd (Prod.snd (Prod.snd a0)))))))))))), v0_3, v0_4])] h' (Value.agg (Array.mk [Value.int IntKind.i64 x, Value.int IntKind.i64 x_1, Value.bool x_2, Value.int IntKind.i64 x_3, Value.slice a n c, Value.slice a_1 n_1 c_1, Value.int IntKind.i64 x_4, Value.int IntKind.i64 x_5, Value.int IntKind.i64 x_6, Value.int IntKind.i64 x_7, Value.string x_8, Value.slice a_2 n_2 c_2, Value.slice a_3 n_3 c_3])) h'_1 ∧ ∃ (x_9 : Bool), ∃ (h' : AHeap), ACall Try.prog (50 : Nat) [Value.agg (Array.mk [Value.int IntKind.i64 x, Value.int IntKind.i64 x_1, Value.bool x_2, Value.int IntKind.i64 x_3, Value.slice a n c, Value.slice a_1 n_1 c_1, Value.int IntKind.i64 x_4, Value.int IntKind.i64 x_5, Value.int IntKind.i64 x_6, Value.int IntKind.i64 x_7, Value.string x_8, Value.slice a_2 n_2 c_2, Value.slice a_3 n_3 c_3])] h'_1 (Value.bool x_9) h' ∧ ∃ (x : Int), ∃ (x_10 : Int), ∃ (x_11 : Bool), ∃ (x_12 : Int), ∃ (a : Option Addr), ∃ (n : Nat), ∃ (c : Nat), ∃ (a_4 : Option Addr), ∃ (n_4 : Nat), ∃ (c_4 : Nat), ∃ (x_13 : Int), ∃ (x_14 : Int), ∃ (x_15 : Int), ∃ (x_16 : Int), ∃ (x_17 : ByteArray), ∃ (a_5 : Option Addr), ∃ (n_5 : Nat), ∃ (c_5 : Nat), ∃ (a_6 : Option Addr), ∃ (n_6 : Nat), ∃ (c_6 : Nat), ∃ (h'_2 : AHeap), ACall Try.prog (51 : Nat) [Value.agg (Array.mk [Value.int IntKind.i64 (Prod.fst a0), Value.int IntKind.i64 (Prod.fst (Prod.snd a0)), Value.bool (Prod.fst (Prod.snd (Prod.snd a0))), Value.int IntKind.i64 (Prod.fst (Prod.snd (Prod.snd (Prod.snd a0)))), v0_1, v0_2, Value.int IntKind.i64 (Prod.fst (Prod.fst (Prod.snd (Prod.snd (Prod.snd (Prod.snd (Prod.snd (Prod.snd a0)))))))), Value.int IntKind.i64 (Prod.fst (Prod.snd (Prod.fst (Prod.snd (Prod.snd (Prod.snd (Prod.snd (Prod.snd (Prod.snd a0))))))))), Value.int IntKind.i64 (Prod.fst (Prod.snd (Prod.snd (Prod.fst (Prod.snd (Prod.snd (Prod.snd (Prod.snd (Prod.snd (Prod.snd a0)))))))))), Value.int IntKind.i64 (Prod.fst (Prod.snd (Prod.snd (Prod.snd (Prod.fst (Prod.snd (Prod.snd (Prod.snd (Prod.snd (Prod.snd (Prod.snd a0))))))))))), Value.string (Prod.fst (Prod.snd (Prod.snd (Prod.snd (Prod.snd (Prod.fst (Prod.snd (Prod.snd (Prod.snd (Prod.snd (Prod.snd (Prod.snd a0)))))))))))), v0_3, v0_4])] h' (Value.agg (Array.mk [Value.int IntKind.i64 x, Value.int IntKind.i64 x_10, Value.bool x_11, Value.int IntKind.i64 x_12, Value.slice a n c, Value.slice a_4 n_4 c_4, Value.int IntKind.i64 x_13, Value.int IntKind.i64 x_14, Value.int IntKind.i64 x_15, Value.int IntKind.i64 x_16, Value.string x_17, Value.slice a_5 n_5 c_5, Value.slice a_6 n_6 c_6])) h'_2 ∧ ∃ (x_18 : Bool), ∃ (h' : AHeap), ACall Try.prog (52 : Nat) [Value.agg (Array.mk [Value.int IntKind.i64 x, Value.int IntKind.i64 x_10, Value.bool x_11, Value.int IntKind.i64 x_12, Value.slice a n c, Value.slice a_4 n_4 c_4, Value.int IntKind.i64 x_13, Value.int IntKind.i64 x_14, Value.int IntKind.i64 x_15, Value.int IntKind.i64 x_16, Value.string x_17, Value.slice a_5 n_5 c_5, Value.slice a_6 n_6 c_6])] h'_2 (Value.bool x_18) h' ∧ bs (!decide (x_18 = x_9)) (Q (Value.bool false) h') (∃ (x_19 : Int), ∃ (x_20 : Int), ∃ (x_21 : Bool), ∃ (x_22 : Int), ∃ (a_7 : Option Addr), ∃ (n_7 : Nat), ∃ (c_7 : Nat), ∃ (a_8 : Option Addr), ∃ (n_8 : Nat), ∃ (c_8 : Nat), ∃ (x_23 : Int), ∃ (x_24 : Int), ∃ (x_25 : Int), ∃ (x_26 : Int), ∃ (x_27 : ByteArray), ∃ (a_9 : Option Addr), ∃ (n_9 : Nat), ∃ (c_9 : Nat), ∃ (a_10 : Option Addr), ∃ (n_10 : Nat), ∃ (c_10 : Nat), ∃ (h'_3 : AHeap), ACall Try.prog (51 : Nat) [Value.agg (Array.mk [Value.int IntKind.i64 (Prod.fst a0), Value.int IntKind.i64 (Prod.fst (Prod.snd a0)), Value.bool (Prod.fst (Prod.snd (Prod.snd a0))), Value.int IntKind.i64 (Prod.fst (Prod.snd (Prod.snd (Prod.snd a0)))), v0_1, v0_2, Value.int IntKind.i64 (Prod.fst (Prod.fst (Prod.snd (Prod.snd (Prod.snd (Prod.snd (Prod.snd (Prod.snd a0)))))))), Value.int IntKind.i64 (Prod.fst (Prod.snd (Prod.fst (Prod.snd (Prod.snd (Prod.snd (Prod.snd (Prod.snd (Prod.snd a0))))))))), Value.int IntKind.i64 (Prod.fst (Prod.snd (Prod.snd (Prod.fst (Prod.snd (Prod.snd (Prod.snd (Prod.snd (Prod.snd (Prod.snd a0)))))))))), Value.int IntKind.i64 (Prod.fst (Prod.snd (Prod.snd (Prod.snd (Prod.fst (Prod.snd (Prod.snd (Prod.snd (Prod.snd (Prod.snd (Prod.snd a0))))))))))), Value.string (Prod.fst (Prod.snd (Prod.snd (Prod.snd (Prod.snd (Prod.fst (Prod.snd (Prod.snd (Prod.snd (Prod.snd (Prod.snd (Prod.snd a0)))))))))))), v0_3, v0_4])] h' (Value.agg (Array.mk [Value.int IntKind.i64 x_19, Value.int IntKind.i64 x_20, Value.bool x_21, Value.int IntKind.i64 x_22, Value.slice a_7 n_7 c_7, Value.slice a_8 n_8 c_8, Value.int IntKind.i64 x_23, Value.int IntKind.i64 x_24, Value.int IntKind.i64 x_25, Value.int IntKind.i64 x_26, Value.string x_27, Value.slice a_9 n_9 c_9, Value.slice a_10 n_10 c_10])) h'_3 ∧ Value.agg (Array.mk [Value.int IntKind.i64 x, Value.int IntKind.i64 x_10, Value.bool x_11, Value.int IntKind.i64 x_12, Value.slice a n c, Value.slice a_4 n_4 c_4, Value.int IntKind.i64 x_13, Value.int IntKind.i64 x_14, Value.int IntKind.i64 x_15, Value.int IntKind.i64 x_16, Value.string x_17, Value.slice a_5 n_5 c_5, Value.slice a_6 n_6 c_6]) = Value.agg (Array.mk [Value.int IntKind.i64 x, Value.int IntKind.i64 x_10, Value.bool x_11, Value.int IntKind.i64 x_12, Value.slice a n c, Value.slice a_4 n_4 c_4, Value.int IntKind.i64 x_13, Value.int IntKind.i64 x_14, Value.int IntKind.i64 x_15, Value.int IntKind.i64 x_16, Value.string x_17, Value.slice a_5 n_5 c_5, Value.slice a_6 n_6 c_6]) ∧ ∃ (x_28 : Bool), ∃ (h' : AHeap), ACall Try.prog (53 : Nat) [Value.agg (Array.mk [Value.int IntKind.i64 x, Value.int IntKind.i64 x_10, Value.bool x_11, Value.int IntKind.i64 x_12, Value.slice a n c, Value.slice a_4 n_4 c_4, Value.int IntKind.i64 x_13, Value.int IntKind.i64 x_14, Value.int IntKind.i64 x_15, Value.int IntKind.i64 x_16, Value.string x_17, Value.slice a_5 n_5 c_5, Value.slice a_6 n_6 c_6]), Value.agg (Array.mk [Value.int IntKind.i64 x_19, Value.int IntKind.i64 x_20, Value.bool x_21, Value.int IntKind.i64 x_22, Value.slice a_7 n_7 c_7, Value.slice a_8 n_8 c_8, Value.int IntKind.i64 x_23, Value.int IntKind.i64 x_24, Value.int IntKind.i64 x_25, Value.int IntKind.i64 x_26, Value.string x_27, Value.slice a_9 n_9 c_9, Value.slice a_10 n_10 c_10])] h'_3 (Value.bool x_28) h' ∧ bs (!x_28) (Q (Value.bool false) h') (Q (Value.bool true) h')))) = _) ?_
  refine ⟨_, _, szReplica_spec h a0 1048576 _ _ _ _ s0_1 s0_2 s0_3 s0_4 (by omega) ok0, bs_d (fun _ => HQ _ _ rfl) (fun q0 => ?_)⟩
  have z0 := replicaSh.sz_le a0 1048576 (by omega)
  have sm0 := replicaSh.sz_small a0 1048576 (by omega) (by omega) (by omega)
  have hcv0 : (replicaSh.cv a0 : Int) ≤ 200000000 := by have := Sh.cv_le replicaSh (by decide) a0 1048576 (by omega) (by omega); omega
  obtain ⟨_, g1, C1, k1, w1, y1_1, y1_2, y1_3, y1_4, ids1, rfl, r1, f1⟩ := toReplica_spec h a0 _ _ _ _ s0_1 s0_2 s0_3 s0_4 hw sm0
  obtain ⟨z1_1, z1_2, z1_3, z1_4, d1_1, d1_2, d1_3, d1_4, ez, ei, p1_1, p1_2, p1_3, p1_4⟩ := ro_replica.1 r1
  cases ez
  subst ei
  try simp only [List.nil_append, List.append_nil] at f1
  obtain ⟨u1_1, e1_1, rfl⟩ := p1_1.sl.isSlice
  obtain ⟨u1_2, e1_2, rfl⟩ := p1_2.sl.isSlice
  obtain ⟨u1_3, e1_3, rfl⟩ := p1_3.sl.isSlice
  obtain ⟨u1_4, e1_4, rfl⟩ := p1_4.sl.isSlice
  have l0_1 := k1
  refine ⟨_, _, _, _, _, _, _, _, _, _, _, _, _, _, _, _, _, _, _, _, _, _, C1, ?_⟩
  obtain ⟨_, g2, CW, k2, w2, rfl⟩ := xsReplicaRight g1 w1 a0 _ _ _ _ p1_1.sl p1_2.sl p1_3.sl p1_4.sl ok0 sm0
  have l0_2 := l0_1.trans k2
  refine ⟨_, _, CW, ?_⟩
  obtain ⟨_, g3, C2, k3, w3, y2_1, y2_2, y2_3, y2_4, ids2, rfl, r2, f2⟩ := toReplica_spec g2 a0 _ _ _ _ (s0_1.mono l0_2) (s0_2.mono l0_2) (s0_3.mono l0_2) (s0_4.mono l0_2) w2 sm0
  obtain ⟨z2_1, z2_2, z2_3, z2_4, d2_1, d2_2, d2_3, d2_4, ez, ei, p2_1, p2_2, p2_3, p2_4⟩ := ro_replica.1 r2
  cases ez
  subst ei
  try simp only [List.nil_append, List.append_nil] at f2
  obtain ⟨u2_1, e2_1, rfl⟩ := p2_1.sl.isSlice
  obtain ⟨u2_2, e2_2, rfl⟩ := p2_2.sl.isSlice
  obtain ⟨u2_3, e2_3, rfl⟩ := p2_3.sl.isSlice
  obtain ⟨u2_4, e2_4, rfl⟩ := p2_4.sl.isSlice
  have l0_3 := l0_2.trans k3
  have lW_3 := k3
  refine ⟨_, _, _, _, _, _, _, _, _, _, _, _, _, _, _, _, _, _, _, _, _, _, C2, ?_⟩
  obtain ⟨_, g4, CG, k4, w4, rfl⟩ := xiReplicaRight g3 w3 a0 _ _ _ _ p2_1.sl p2_2.sl p2_3.sl p2_4.sl ok0 sm0
  have l0_4 := l0_3.trans k4
  have lW_4 := lW_3.trans k4
  have p2_1 := So.le k4 p2_1
  have p2_2 := So.le k4 p2_2
  have p2_3 := So.le k4 p2_3
  have p2_4 := So.le k4 p2_4
  refine ⟨_, _, CG, ?_⟩
  refine bs_dn (fun hne => absurd rfl hne) (fun _ => ?_)
  obtain ⟨_, g5, C3, k5, w5, y3_1, y3_2, y3_3, y3_4, ids3, rfl, r3, f3⟩ := toReplica_spec g4 a0 _ _ _ _ (s0_1.mono l0_4) (s0_2.mono l0_4) (s0_3.mono l0_4) (s0_4.mono l0_4) w4 sm0
  obtain ⟨z3_1, z3_2, z3_3, z3_4, d3_1, d3_2, d3_3, d3_4, ez, ei, p3_1, p3_2, p3_3, p3_4⟩ := ro_replica.1 r3
  cases ez
  subst ei
  try simp only [List.nil_append, List.append_nil] at f3
  obtain ⟨u3_1, e3_1, rfl⟩ := p3_1.sl.isSlice
  obtain ⟨u3_2, e3_2, rfl⟩ := p3_2.sl.isSlice
  obtain ⟨u3_3, e3_3, rfl⟩ := p3_3.sl.isSlice
  obtain ⟨u3_4, e3_4, rfl⟩ := p3_4.sl.isSlice
  have l0_5 := l0_4.trans k5
  have lW_5 := lW_4.trans k5
  have p2_1 := So.le k5 p2_1
  have p2_2 := So.le k5 p2_2
  have p2_3 := So.le k5 p2_3
  have p2_4 := So.le k5 p2_4
  have E2 := eqReplica_spec g5 a0 a0 _ _ _ _ p2_1.sl p2_2.sl p2_3.sl p2_4.sl _ _ _ _ p3_1.sl p3_2.sl p3_3.sl p3_4.sl ok0
  rw [eqb_self] at E2
  refine ⟨_, _, _, _, _, _, _, _, _, _, _, _, _, _, _, _, _, _, _, _, _, _, C3, rfl, _, _, E2, bs_nb (fun e => by cases e) (fun _ => ?_)⟩
  exact HQ _ _ rfl
end Go.Proofs.Ytanienlcebkijaa
