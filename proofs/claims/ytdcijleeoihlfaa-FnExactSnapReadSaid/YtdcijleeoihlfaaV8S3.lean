/- Contracts: the bytes of snapshots. -/
import Derived.Test.YtdcijleeoihlfaaV8S2
namespace Go.Dat
open Go.Abs
def snapB (a : Int) (ts : List topicSh.T) (rs : List replySh.T) : ByteArray := nb a ++ vt (brkB ts rs)
noncomputable def snapBytesM (a : snapSh.T) : ByteArray := bif tr (SnapOk a.1 a.2.1 a.2.2) then snapB a.1 a.2.1 a.2.2 else ⟨#[]⟩
theorem snapBytesM_ok {a : Int} {ts : List topicSh.T} {rs : List replySh.T} (H : SnapOk a ts rs) : snapBytesM (a, ts, rs) = snapB a ts rs := by
  show (bif tr (SnapOk a ts rs) then _ else _) = _
  rw [← tr_true H]; rfl
theorem snapBytesM_no {a : Int} {ts : List topicSh.T} {rs : List replySh.T} (H : ¬ SnapOk a ts rs) : snapBytesM (a, ts, rs) = ⟨#[]⟩ := by
  show (bif tr (SnapOk a ts rs) then _ else _) = _
  rw [← tr_false H]; rfl
theorem BrkSz.all {ts : List topicSh.T} {rs : List replySh.T} (H : BrkSz ts rs) : (brkB ts rs).size ≤ 14000 := H.pre2 _
end Go.Dat
namespace Go.Proofs.Ytdcijleeoihlfaa
open Go.Abs Go.Dat
set_option maxRecDepth 100000
set_option maxHeartbeats 8000000
theorem snapBytes_spec (h : AHeap) (hw : h.wf) (a : Int) (ts : List topicSh.T) (rs : List replySh.T) (a1 : Option Addr) (c1 : Nat) (a2 : Option Addr) (c2 : Nat)
    (h1 : Sl h topicSh ts (.slice a1 ts.length c1)) (h2 : Sl h replySh rs (.slice a2 rs.length c2)) (H : SnapOk a ts rs) :
    ∃ v h', ACall Try.prog 34 [.agg #[.int .i64 a, .slice a1 ts.length c1, .slice a2 rs.length c2]] h v h' ∧ h.Le h' ∧ h'.wf ∧ v = .string (snapB a ts rs) := by
  refine acall_q fun Q HQ => ?_
  have sz : ∀ a b : ByteArray, (Append.append a b).size = a.size + b.size := fun a b => ByteArray.size_append
  have hb := H.1
  have hz := H.2.sz
  have q1 := nb_size (n := a) (by omega)
  have q2 := hz.all
  have q3 := vt_size' (t := brkB ts rs) (by omega)
  obtain ⟨_, g1, A1, le1, w1, rfl⟩ := putNum_spec h hw a (by omega)
  obtain ⟨_, g2, A2, le2, w2, rfl⟩ := brokerBytes_spec g1 w1 ts rs a1 c1 a2 c2 (h1.mono le1) (h2.mono le1) hz
  obtain ⟨_, g3, A3, le3, w3, rfl⟩ := putText_spec g2 w2 (brkB ts rs) (by omega)
  unfold nb at q1
  refine acall_vc (fun _ => false) (fun r => match r with | 1 => [(0, 0, []), (3, 0, []), (1, 1, []), (4, 1, []), (2, 3, [4]), (5, 3, []), (6, 3, []), (7, 0, []), (8, 0, [])] | _ => []) (fun _ => .none) mixed Try.func34 rfl rfl rfl (Nat.le_of_ble_eq_true rfl) (by refine vc_mp (by kernel_rfl : (True ∧ True ∧ True) = _) ?_; simp only [and_self]) ?_
  refine vc_mp (by kernel_rfl : (∃ (x : ByteArray), ∃ (h' : AHeap), ACall Try.prog (78 : Nat) [Value.int IntKind.i64 a] h (Value.string x) h' ∧ Value.agg (Array.mk [Value.slice a1 (List.length ts) c1, Value.slice a2 (List.length rs) c2]) = Value.agg (Array.mk [Value.slice a1 (List.length ts) c1, Value.slice a2 (List.length rs) c2]) ∧ ∃ (x_1 : ByteArray), ∃ (h'_1 : AHeap), ACall Try.prog (80 : Nat) [Value.agg (Array.mk [Value.slice a1 (List.length ts) c1, Value.slice a2 (List.length rs) c2])] h' (Value.string x_1) h'_1 ∧ ∃ (x_2 : ByteArray), ∃ (h' : AHeap), ACall Try.prog (79 : Nat) [Value.string x_1] h'_1 (Value.string x_2) h' ∧ ByteArray.size x + ByteArray.size x_2 ≤ (9223372036854775807 : Nat) ∧ Q (Value.string (Append.append x x_2)) h') = _) ?_
  exact ⟨_, _, A1, rfl, _, _, A2, _, _, A3, by omega, HQ _ _ ⟨le1.trans (le2.trans le3), w3, rfl⟩⟩
theorem xsSnapBytes' (h : AHeap) (hw : h.wf) (a : Int) (ts : List topicSh.T) (rs : List replySh.T) (a1 : Option Addr) (c1 : Nat) (a2 : Option Addr) (c2 : Nat) (h1 : Sl h topicSh ts (.slice a1 ts.length c1)) (h2 : Sl h replySh rs (.slice a2 rs.length c2)) (ok : brokerSh.ok (ts, rs)) :
    ∃ v h', ACall Try.prog 8 [.agg #[.int .i64 a, .slice a1 ts.length c1, .slice a2 rs.length c2]] h v h' ∧ h.Le h' ∧ h'.wf ∧ v = .string (snapBytesM (a, ts, rs)) := by
  refine acall_q fun Q HQ => ?_
  have sz : ∀ a b : ByteArray, (Append.append a b).size = a.size + b.size := fun a b => ByteArray.size_append
  refine acall_vc (fun _ => false) (fun r => match r with | 3 => [(0, 0, []), (3, 0, []), (1, 1, []), (4, 1, []), (2, 3, [4]), (5, 3, []), (6, 3, []), (7, 0, []), (8, 0, [])] | _ => []) (fun _ => .none) mixed Try.func8 rfl rfl rfl (Nat.le_of_ble_eq_true rfl) (by refine vc_mp (by kernel_rfl : (True ∧ (True ∧ (True ∧ True) ∧ True) ∧ True ∧ True) = _) ?_; simp only [and_self]) ?_
  refine vc_mp (by kernel_rfl : (∃ (x : Bool), ∃ (h' : AHeap), ACall Try.prog (28 : Nat) [Value.agg (Array.mk [Value.int IntKind.i64 a, Value.slice a1 (List.length ts) c1, Value.slice a2 (List.length rs) c2])] h (Value.bool x) h' ∧ bs (!x) (Q (Value.string (ByteArray.mk (Array.mk []))) h') (∃ (x : ByteArray), ∃ (h'_1 : AHeap), ACall Try.prog (29 : Nat) [Value.int IntKind.i64 a] h' (Value.string x) h'_1 ∧ Value.agg (Array.mk [Value.slice a1 (List.length ts) c1, Value.slice a2 (List.length rs) c2]) = Value.agg (Array.mk [Value.slice a1 (List.length ts) c1, Value.slice a2 (List.length rs) c2]) ∧ ∃ (x_1 : ByteArray), ∃ (h' : AHeap), ACall Try.prog (31 : Nat) [Value.agg (Array.mk [Value.slice a1 (List.length ts) c1, Value.slice a2 (List.length rs) c2])] h'_1 (Value.string x_1) h' ∧ ∃ (x_2 : ByteArray), ∃ (h'_2 : AHeap), ACall Try.prog (30 : Nat) [Value.string x_1] h' (Value.string x_2) h'_2 ∧ ByteArray.size x + ByteArray.size x_2 ≤ (9223372036854775807 : Nat) ∧ Q (Value.string (Append.append x x_2)) h'_2)) = _) ?_
  refine ⟨_, _, specSnapRight h a ts rs a1 c1 a2 c2 h1 h2 ok, bs_nb (fun e => ?_) (fun e => ?_)⟩
  · exact HQ _ _ ⟨.refl _, hw, congrArg _ (snapBytesM_no (of_trn e)).symm⟩
  · have H := of_tr e
    have hb := H.1
    have hz := H.2.sz
    have q1 := nb_size (n := a) (by omega)
    have q2 := hz.all
    have q3 := vt_size' (t := brkB ts rs) (by omega)
    obtain ⟨_, g1, A1, le1, w1, rfl⟩ := specPutNum h hw a (by omega)
    obtain ⟨_, g2, A2, le2, w2, rfl⟩ := l08Bytes_spec g1 w1 ts rs a1 c1 a2 c2 (h1.mono le1) (h2.mono le1) hz
    obtain ⟨_, g3, A3, le3, w3, rfl⟩ := specPutText g2 w2 (brkB ts rs) (by omega)
    unfold nb at q1
    exact ⟨_, _, A1, rfl, _, _, A2, _, _, A3, by omega, HQ _ _ ⟨le1.trans (le2.trans le3), w3, congrArg _ (snapBytesM_ok H).symm⟩⟩
end Go.Proofs.Ytdcijleeoihlfaa
