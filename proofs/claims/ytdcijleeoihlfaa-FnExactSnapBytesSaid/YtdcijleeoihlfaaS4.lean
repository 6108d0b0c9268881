/- The law FnExactSnapBytes tells true. Written by law.py. -/
import Derived.Test.YtdcijleeoihlfaaS3
import Derived.Test.YtdcijleeoihlfaaN2
namespace Go.Proofs.Ytdcijleeoihlfaa
open Go.Abs Go.Dat
set_option maxRecDepth 100000
set_option maxHeartbeats 8000000
theorem lawSnapBytes (h : AHeap) (hw : h.wf) (a0 : snapSh.T) (v0_1 v0_2 : Value) (s0_1 : Sl h topicSh a0.2.1 v0_1) (s0_2 : Sl h replySh a0.2.2 v0_2) (ok0 : snapSh.ok a0) :
    ∃ v h', ACall Try.prog 3 [.agg #[.int .i64 a0.1, v0_1, v0_2]] h v h' ∧ v = .bool true := by
  obtain ⟨T, hT⟩ : ∃ T, T = (snapBytesM a0) := ⟨_, rfl⟩
  refine acall_q fun Q HQ => ?_
  refine acall_vc (fun _ => false) (fun r => match r with | 10 => [(0, 1, []), (1, 1, []), (2, 3, [0]), (3, 3, []), (4, 0, [])] | _ => []) (fun _ => .none) mixed Try.func3 rfl rfl rfl (Nat.le_of_ble_eq_true rfl) (by refine vc_mp (by kernel_rfl : (True ∧ True ∧ True ∧ (True ∧ (True ∧ True) ∧ True) ∧ True ∧ True ∧ True ∧ (True ∧ (True ∧ True) ∧ True) ∧ (True ∧ (True ∧ True) ∧ True) ∧ True ∧ True) = _) ?_; simp only [and_self]) ?_
  refine vc_mp (by kernel_rfl : (∃ (x : Int), ∃ (h' : AHeap), ACall Try.prog (7 : Nat) [Value.agg (Array.mk [Value.int IntKind.i64 (Prod.fst a0), v0_1, v0_2]), Value.int IntKind.i64 (1048576 : Int)] h (Value.int IntKind.i64 x) h' ∧ bs (decide (x < (0 : Int))) (Q (Value.bool true) h') (∃ (x : Int), ∃ (a : Option Addr), ∃ (n : Nat), ∃ (c : Nat), ∃ (a_1 : Option Addr), ∃ (n_1 : Nat), ∃ (c_1 : Nat), ∃ (h'_1 : AHeap), ACall Try.prog (9 : Nat) [Value.agg (Array.mk [Value.int IntKind.i64 (Prod.fst a0), v0_1, v0_2])] h' (Value.agg (Array.mk [Value.int IntKind.i64 x, Value.slice a n c, Value.slice a_1 n_1 c_1])) h'_1 ∧ ∃ (x_1 : ByteArray), ∃ (h' : AHeap), ACall Try.prog (8 : Nat) [Value.agg (Array.mk [Value.int IntKind.i64 x, Value.slice a n c, Value.slice a_1 n_1 c_1])] h'_1 (Value.string x_1) h' ∧ ∃ (x : Int), ∃ (a : Option Addr), ∃ (n : Nat), ∃ (c : Nat), ∃ (a_2 : Option Addr), ∃ (n_2 : Nat), ∃ (c_2 : Nat), ∃ (h'_2 : AHeap), ACall Try.prog (9 : Nat) [Value.agg (Array.mk [Value.int IntKind.i64 (Prod.fst a0), v0_1, v0_2])] h' (Value.agg (Array.mk [Value.int IntKind.i64 x, Value.slice a n c, Value.slice a_2 n_2 c_2])) h'_2 ∧ ∃ (x_2 : ByteArray), ∃ (h' : AHeap), ACall Try.prog (10 : Nat) [Value.agg (Array.mk [Value.int IntKind.i64 x, Value.slice a n c, Value.slice a_2 n_2 c_2])] h'_2 (Value.string x_2) h' ∧ bs (!decide (x_2 = x_1)) (Q (Value.bool false) h') (∃ (x_3 : Int), ∃ (a_3 : Option Addr), ∃ (n_3 : Nat), ∃ (c_3 : Nat), ∃ (a_4 : Option Addr), ∃ (n_4 : Nat), ∃ (c_4 : Nat), ∃ (h'_3 : AHeap), ACall Try.prog (9 : Nat) [Value.agg (Array.mk [Value.int IntKind.i64 (Prod.fst a0), v0_1, v0_2])] h' (Value.agg (Array.mk [Value.int IntKind.i64 x_3, Value.slice a_3 n_3 c_3, Value.slice a_4 n_4 c_4])) h'_3 ∧ Value.agg (Array.mk [Value.int IntKind.i64 x, Value.slice a n c, Value.slice a_2 n_2 c_2]) = Value.agg (Array.mk [Value.int IntKind.i64 x, Value.slice a n c, Value.slice a_2 n_2 c_2]) ∧ ∃ (x_4 : Bool), ∃ (h' : AHeap), ACall Try.prog (11 : Nat) [Value.agg (Array.mk [Value.int IntKind.i64 x, Value.slice a n c, Value.slice a_2 n_2 c_2]), Value.agg (Array.mk [Value.int IntKind.i64 x_3, Value.slice a_3 n_3 c_3, Value.slice a_4 n_4 c_4])] h'_3 (Value.bool x_4) h' ∧ bs (!x_4) (Q (Value.bool false) h') (Q (Value.bool true) h')))) = _) ?_
  refine ⟨_, _, szSnap_spec h a0 1048576 _ _ s0_1 s0_2 (by omega) ok0, bs_d (fun _ => HQ _ _ rfl) (fun q0 => ?_)⟩
  have z0 := snapSh.sz_le a0 1048576 (by omega)
  have sm0 := snapSh.sz_small a0 1048576 (by omega) (by omega) (by omega)
  have hcv0 : (snapSh.cv a0 : Int) ≤ 200000000 := by have := Sh.cv_le snapSh (by decide) a0 1048576 (by omega) (by omega); omega
  obtain ⟨_, g1, C1, k1, w1, y1_1, y1_2, ids1, rfl, r1, f1⟩ := toSnap_spec h a0 _ _ s0_1 s0_2 hw sm0
  obtain ⟨z1_1, z1_2, d1_1, d1_2, ez, ei, p1_1, p1_2⟩ := ro_snap.1 r1
  cases ez
  subst ei
  try simp only [List.nil_append, List.append_nil] at f1
  obtain ⟨u1_1, e1_1, rfl⟩ := p1_1.sl.isSlice
  obtain ⟨u1_2, e1_2, rfl⟩ := p1_2.sl.isSlice
  have l0_1 := k1
  refine ⟨_, _, _, _, _, _, _, _, C1, ?_⟩
  obtain ⟨_, g2, CW, k2, w2, rfl⟩ := xsSnapBytes g1 w1 a0 _ _ p1_1.sl p1_2.sl ok0 sm0
  have l0_2 := l0_1.trans k2
  refine ⟨_, _, CW, ?_⟩
  obtain ⟨_, g3, C2, k3, w3, y2_1, y2_2, ids2, rfl, r2, f2⟩ := toSnap_spec g2 a0 _ _ (s0_1.mono l0_2) (s0_2.mono l0_2) w2 sm0
  obtain ⟨z2_1, z2_2, d2_1, d2_2, ez, ei, p2_1, p2_2⟩ := ro_snap.1 r2
  cases ez
  subst ei
  try simp only [List.nil_append, List.append_nil] at f2
  obtain ⟨u2_1, e2_1, rfl⟩ := p2_1.sl.isSlice
  obtain ⟨u2_2, e2_2, rfl⟩ := p2_2.sl.isSlice
  have l0_3 := l0_2.trans k3
  have lW_3 := k3
  refine ⟨_, _, _, _, _, _, _, _, C2, ?_⟩
  obtain ⟨_, g4, CG, k4, w4, rfl⟩ := xiSnapBytes g3 w3 a0 _ _ p2_1.sl p2_2.sl ok0 sm0
  have l0_4 := l0_3.trans k4
  have lW_4 := lW_3.trans k4
  have p2_1 := So.le k4 p2_1
  have p2_2 := So.le k4 p2_2
  refine ⟨_, _, CG, ?_⟩
  refine bs_dn (fun hne => absurd rfl hne) (fun _ => ?_)
  obtain ⟨_, g5, C3, k5, w5, y3_1, y3_2, ids3, rfl, r3, f3⟩ := toSnap_spec g4 a0 _ _ (s0_1.mono l0_4) (s0_2.mono l0_4) w4 sm0
  obtain ⟨z3_1, z3_2, d3_1, d3_2, ez, ei, p3_1, p3_2⟩ := ro_snap.1 r3
  cases ez
  subst ei
  try simp only [List.nil_append, List.append_nil] at f3
  obtain ⟨u3_1, e3_1, rfl⟩ := p3_1.sl.isSlice
  obtain ⟨u3_2, e3_2, rfl⟩ := p3_2.sl.isSlice
  have l0_5 := l0_4.trans k5
  have lW_5 := lW_4.trans k5
  have p2_1 := So.le k5 p2_1
  have p2_2 := So.le k5 p2_2
  have E2 := eqSnap_spec g5 a0 a0 _ _ p2_1.sl p2_2.sl _ _ p3_1.sl p3_2.sl ok0
  rw [eqb_self] at E2
  refine ⟨_, _, _, _, _, _, _, _, C3, rfl, _, _, E2, bs_nb (fun e => by cases e) (fun _ => ?_)⟩
  exact HQ _ _ rfl
end Go.Proofs.Ytdcijleeoihlfaa
