/- The law FnExactSnapRight tells true. -/
import Derived.Test.YtgcckeglmhbnmaaF5
namespace Go.Dat
open Go.Abs
def SnapOk (at_ : Int) (ts : List topicSh.T) (rs : List replySh.T) : Prop := (0 ≤ at_ ∧ at_ ≤ 1000000000) ∧ BrokerOk ts rs
end Go.Dat
namespace Go.Proofs.Ytgcckeglmhbnmaa
open Go.Abs Go.Dat
set_option maxRecDepth 100000
set_option maxHeartbeats 4000000

theorem specSnapRight (h : AHeap) (at_ : Int) (ts : List topicSh.T) (rs : List replySh.T) (a1 : Option Addr) (c1 : Nat) (a2 : Option Addr) (c2 : Nat)
    (h1 : Sl h topicSh ts (.slice a1 ts.length c1)) (h2 : Sl h replySh rs (.slice a2 rs.length c2)) (ok : brokerSh.ok (ts, rs)) :
    ACall Try.prog 57 [.agg #[.int .i64 at_, .slice a1 ts.length c1, .slice a2 rs.length c2]] h (.bool (tr (SnapOk at_ ts rs))) h := by
  refine acall_out (acall_vc (fun _ => false) (fun _ => []) (fun _ => .none) mixed Try.func57 rfl rfl rfl (Nat.le_of_ble_eq_true rfl) (by refine vc_mp (by kernel_rfl : (True ∧ True ∧ True) = _) ?_; simp only [and_self]) ?_)
  refine vc_mp (by kernel_rfl : (∃ (x : Bool), ∃ (h' : AHeap), ACall Try.prog (66 : Nat) [Value.int IntKind.i64 at_, Value.int IntKind.i64 (0 : Int), Value.int IntKind.i64 (1000000000 : Int)] h (Value.bool x) h' ∧ bs x (∃ (x : Bool), ∃ (h'_1 : AHeap), ACall Try.prog (106 : Nat) [Value.agg (Array.mk [Value.slice a1 (List.length ts) c1, Value.slice a2 (List.length rs) c2])] h' (Value.bool x) h'_1 ∧ Value.bool x = Value.bool (tr (SnapOk at_ ts rs)) ∧ h'_1 = h) (Value.bool false = Value.bool (tr (SnapOk at_ ts rs)) ∧ h' = h)) = _) ?_
  refine ⟨_, _, l03Is_spec _ _ _ _, bs_of (fun e => ⟨_, _, brokerRight_spec h ts rs a1 c1 a2 c2 h1 h2 ok, congrArg _ ?_, rfl⟩) (fun e => ⟨congrArg _ (tr_false fun H => by simp [H.1] at e), rfl⟩)⟩
  by_cases X : BrokerOk ts rs
  · rw [← tr_true X]; exact tr_true ⟨by simpa using e, X⟩
  · rw [← tr_false X]; exact tr_false fun H => X H.2

theorem isSnap_spec (h : AHeap) (hw : h.wf) (at_ : Int) (ts : List topicSh.T) (rs : List replySh.T) (a1 : Option Addr) (c1 : Nat) (a2 : Option Addr) (c2 : Nat)
    (h1 : Sl h topicSh ts (.slice a1 ts.length c1)) (h2 : Sl h replySh rs (.slice a2 rs.length c2)) (ok : brokerSh.ok (ts, rs)) :
    ∃ v h', ACall Try.prog 108 [.agg #[.int .i64 at_, .slice a1 ts.length c1, .slice a2 rs.length c2]] h v h' ∧ h.Le h' ∧ h'.wf ∧ v = .bool (tr (SnapOk at_ ts rs)) := by
  obtain ⟨_, g, hA, le, wg, rfl⟩ := isBroker_spec h hw ts rs a1 c1 a2 c2 h1 h2 ok
  refine acall_q fun Q HQ => ?_
  refine acall_vc (fun _ => false) (fun _ => []) (fun _ => .none) mixed Try.func108 rfl rfl rfl (Nat.le_of_ble_eq_true rfl) (by refine vc_mp (by kernel_rfl : (True ∧ True ∧ True) = _) ?_; simp only [and_self]) ?_
  refine vc_mp (by kernel_rfl : (∃ (x : Bool), ∃ (h' : AHeap), ACall Try.prog (121 : Nat) [Value.int IntKind.i64 at_] h (Value.bool x) h' ∧ bs x (∃ (x : Bool), ∃ (h'_1 : AHeap), ACall Try.prog (144 : Nat) [Value.agg (Array.mk [Value.slice a1 (List.length ts) c1, Value.slice a2 (List.length rs) c2])] h' (Value.bool x) h'_1 ∧ Q (Value.bool x) h'_1) (Q (Value.bool false) h')) = _) ?_
  refine ⟨_, _, isTime_spec _ _, bs_of (fun e => ⟨_, _, hA, HQ _ _ ⟨le, wg, congrArg _ ?_⟩⟩) (fun e => HQ _ _ ⟨.refl _, hw, congrArg _ (tr_false fun H => by simp [H.1] at e)⟩)⟩
  by_cases X : BrokerOk ts rs
  · rw [← tr_true X]; exact tr_true ⟨by simpa using e, X⟩
  · rw [← tr_false X]; exact tr_false fun H => X H.2

theorem implSnapRight (h : AHeap) (hw : h.wf) (at_ : Int) (ts : List topicSh.T) (rs : List replySh.T) (a1 : Option Addr) (c1 : Nat) (a2 : Option Addr) (c2 : Nat)
    (h1 : Sl h topicSh ts (.slice a1 ts.length c1)) (h2 : Sl h replySh rs (.slice a2 rs.length c2)) (ok : brokerSh.ok (ts, rs)) :
    ∃ v h', ACall Try.prog 59 [.agg #[.int .i64 at_, .slice a1 ts.length c1, .slice a2 rs.length c2]] h v h' ∧ h.Le h' ∧ h'.wf ∧ v = .bool (tr (SnapOk at_ ts rs)) := by
  obtain ⟨_, g, hA, le, wg, rfl⟩ := isSnap_spec h hw at_ ts rs a1 c1 a2 c2 h1 h2 ok
  refine acall_q fun Q HQ => ?_
  refine acall_vc (fun _ => false) (fun _ => []) (fun _ => .none) mixed Try.func59 rfl rfl rfl (Nat.le_of_ble_eq_true rfl) (by refine vc_mp (by kernel_rfl : (True ∧ True ∧ True) = _) ?_; simp only [and_self]) ?_
  refine vc_mp (by kernel_rfl : (∃ (x : Bool), ∃ (h' : AHeap), ACall Try.prog (108 : Nat) [Value.agg (Array.mk [Value.int IntKind.i64 at_, Value.slice a1 (List.length ts) c1, Value.slice a2 (List.length rs) c2])] h (Value.bool x) h' ∧ Q (Value.bool x) h') = _) ?_
  exact ⟨_, _, hA, HQ _ _ ⟨le, wg, rfl⟩⟩

theorem lawSnapRight (h : AHeap) (hw : h.wf) (x : snapSh.T) (v1 v2 : Value) (h1 : Sl h topicSh x.2.1 v1) (h2 : Sl h replySh x.2.2 v2) (ok : snapSh.ok x) :
    ∃ v h', ACall Try.prog 13 [.agg #[.int .i64 x.1, v1, v2]] h v h' ∧ v = .bool true := by
  obtain ⟨(at_ : Int), (ts : List topicSh.T), (rs : List replySh.T)⟩ := x
  dsimp only at *
  obtain ⟨a1, c1, rfl⟩ := h1.isSlice
  obtain ⟨a2, c2, rfl⟩ := h2.isSlice
  refine acall_vc (fun _ => false) (fun _ => [(0, 1, []), (1, 1, []), (2, 3, [0]), (3, 3, []), (4, 0, [])]) (fun _ => .none) mixed Try.func13 rfl rfl rfl (Nat.le_of_ble_eq_true rfl) (by refine vc_mp (by kernel_rfl : (True ∧ True ∧ True ∧ (True ∧ (True ∧ True) ∧ True) ∧ True ∧ True ∧ True ∧ (True ∧ (True ∧ True) ∧ True) ∧ (True ∧ (True ∧ True) ∧ True) ∧ True ∧ True) = _) ?_; simp only [and_self]) ?_
  refine vc_mp (by kernel_rfl : (∃ (x : Int), ∃ (h' : AHeap), ACall Try.prog (56 : Nat) [Value.agg (Array.mk [Value.int IntKind.i64 at_, Value.slice a1 (List.length ts) c1, Value.slice a2 (List.length rs) c2]), Value.int IntKind.i64 (1048576 : Int)] h (Value.int IntKind.i64 x) h' ∧ bs (decide (x < (0 : Int))) (Value.bool true = Value.bool true) (∃ (x : Int), ∃ (a : Option Addr), ∃ (n : Nat), ∃ (c : Nat), ∃ (a_1 : Option Addr), ∃ (n_1 : Nat), ∃ (c_1 : Nat), ∃ (h'_1 : AHeap), ACall Try.prog (58 : Nat) [Value.agg (Array.mk [Value.int IntKind.i64 at_, Value.slice a1 (List.length ts) c1, Value.slice a2 (List.length rs) c2])] h' (Value.agg (Array.mk [Value.int IntKind.i64 x, Value.slice a n c, Value.slice a_1 n_1 c_1])) h'_1 ∧ ∃ (x_1 : Bool), ∃ (h' : AHeap), ACall Try.prog (57 : Nat) [Value.agg (Array.mk [Value.int IntKind.i64 x, Value.slice a n c, Value.slice a_1 n_1 c_1])] h'_1 (Value.bool x_1) h' ∧ ∃ (x : Int), ∃ (a : Option Addr), ∃ (n : Nat), ∃ (c : Nat), ∃ (a_2 : Option Addr), ∃ (n_2 : Nat), ∃ (c_2 : Nat), ∃ (h'_2 : AHeap), ACall Try.prog (58 : Nat) [Value.agg (Array.mk [Value.int IntKind.i64 at_, Value.slice a1 (List.length ts) c1, Value.slice a2 (List.length rs) c2])] h' (Value.agg (Array.mk [Value.int IntKind.i64 x, Value.slice a n c, Value.slice a_2 n_2 c_2])) h'_2 ∧ ∃ (x_2 : Bool), ∃ (h' : AHeap), ACall Try.prog (59 : Nat) [Value.agg (Array.mk [Value.int IntKind.i64 x, Value.slice a n c, Value.slice a_2 n_2 c_2])] h'_2 (Value.bool x_2) h' ∧ bs (!decide (x_2 = x_1)) (Value.bool false = Value.bool true) (∃ (x_3 : Int), ∃ (a_3 : Option Addr), ∃ (n_3 : Nat), ∃ (c_3 : Nat), ∃ (a_4 : Option Addr), ∃ (n_4 : Nat), ∃ (c_4 : Nat), ∃ (h'_3 : AHeap), ACall Try.prog (58 : Nat) [Value.agg (Array.mk [Value.int IntKind.i64 at_, Value.slice a1 (List.length ts) c1, Value.slice a2 (List.length rs) c2])] h' (Value.agg (Array.mk [Value.int IntKind.i64 x_3, Value.slice a_3 n_3 c_3, Value.slice a_4 n_4 c_4])) h'_3 ∧ Value.agg (Array.mk [Value.int IntKind.i64 x, Value.slice a n c, Value.slice a_2 n_2 c_2]) = Value.agg (Array.mk [Value.int IntKind.i64 x, Value.slice a n c, Value.slice a_2 n_2 c_2]) ∧ ∃ (x_4 : Bool), ∃ (h' : AHeap), ACall Try.prog (60 : Nat) [Value.agg (Array.mk [Value.int IntKind.i64 x, Value.slice a n c, Value.slice a_2 n_2 c_2]), Value.agg (Array.mk [Value.int IntKind.i64 x_3, Value.slice a_3 n_3 c_3, Value.slice a_4 n_4 c_4])] h'_3 (Value.bool x_4) h' ∧ bs (!x_4) (Value.bool false = Value.bool true) (Value.bool true = Value.bool true)))) = _) ?_
  refine ⟨_, _, szSnap_spec h (at_, ts, rs) 1048576 _ _ h1 h2 (by omega) ok, bs_d (fun _ => rfl) (fun hge => ?_)⟩
  have sm := snapSh.sz_small (at_, ts, rs) 1048576 (by omega) (by omega) (by omega)
  obtain ⟨v1, g1, A1, le1, w1, y1, y1', i1, rfl, r1, f1⟩ := toSnap_spec h (at_, ts, rs) _ _ h1 h2 hw sm
  obtain ⟨z1, z1', ez, s1, t1⟩ := rd_snap.1 r1.rd
  cases ez
  dsimp only at s1 t1 A1
  obtain ⟨p1, d1, rfl⟩ := s1.isSlice
  obtain ⟨q1, e1, rfl⟩ := t1.isSlice
  obtain ⟨v2, g2, A2, le2, w2, y2, y2', i2, rfl, r2, f2⟩ := toSnap_spec g1 (at_, ts, rs) _ _ (h1.mono le1) (h2.mono le1) w1 sm
  obtain ⟨z2, z2', ez, s2, t2⟩ := rd_snap.1 r2.rd
  cases ez
  dsimp only at s2 t2 A2
  obtain ⟨p2, d2, rfl⟩ := s2.isSlice
  obtain ⟨q2, e2, rfl⟩ := t2.isSlice
  obtain ⟨vr, g3, A3, le3, w3, rfl⟩ := implSnapRight g2 w2 at_ ts rs p2 d2 q2 e2 s2 t2 ok.2
  obtain ⟨v4, g4, A4, le4, w4, y4, y4', i4, rfl, r4, f4⟩ := toSnap_spec g3 (at_, ts, rs) _ _ (h1.mono (le1.trans (le2.trans le3))) (h2.mono (le1.trans (le2.trans le3))) w3 sm
  obtain ⟨z4, z4', ez, s4, t4⟩ := rd_snap.1 r4.rd
  cases ez
  dsimp only at s4 t4 A4
  obtain ⟨p4, d4, rfl⟩ := s4.isSlice
  obtain ⟨q4, e4, rfl⟩ := t4.isSlice
  refine ⟨_, _, _, _, _, _, _, _, A1, _, _, specSnapRight g1 at_ ts rs p1 d1 q1 e1 s1 t1 ok.2, _, _, _, _, _, _, _, _, A2, _, _, A3, bs_dn (fun hne => absurd rfl hne) fun _ => ?_⟩
  refine ⟨_, _, _, _, _, _, _, _, A4, rfl, _, _, eqSnap_spec g4 (at_, ts, rs) (at_, ts, rs) _ _ (s2.mono (le3.trans le4)) (t2.mono (le3.trans le4)) _ _ s4 t4 ok, bs_nb (fun e => by rw [eqb_self] at e; cases e) (fun _ => rfl)⟩
end Go.Proofs.Ytgcckeglmhbnmaa
