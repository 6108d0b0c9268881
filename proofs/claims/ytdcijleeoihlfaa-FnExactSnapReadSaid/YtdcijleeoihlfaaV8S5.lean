/- The law FnExactSnapRead tells true. Written by law.py. -/
import Derived.Test.YtdcijleeoihlfaaV8R7
import Derived.Test.YtdcijleeoihlfaaV8N2
namespace Go.Proofs.Ytdcijleeoihlfaa
open Go.Abs Go.Dat
set_option maxRecDepth 100000
set_option maxHeartbeats 8000000
theorem lawSnapRead (h : AHeap) (hw : h.wf) (a0 : ByteArray) (b0 : a0.size ≤ 9223372036854775807) :
    ∃ v h', ACall Try.prog 6 [.string a0] h v h' ∧ v = .bool true := by
  obtain ⟨T, hT⟩ : ∃ T, T = (snapReadM a0) := ⟨_, rfl⟩
  refine acall_q fun Q HQ => ?_
  refine acall_vc (fun _ => false) (fun _ => []) (fun _ => .none) mixed Try.func6 rfl rfl rfl (Nat.le_of_ble_eq_true rfl) (by refine vc_mp (by kernel_rfl : (True ∧ (True ∧ (True ∧ True) ∧ True) ∧ True ∧ True ∧ (True ∧ (True ∧ True) ∧ True) ∧ True ∧ True ∧ True ∧ True ∧ (True ∧ (True ∧ True) ∧ True) ∧ (True ∧ (True ∧ True) ∧ True) ∧ True ∧ (True ∧ (True ∧ True) ∧ True) ∧ True ∧ True ∧ (True ∧ (True ∧ True) ∧ True) ∧ (True ∧ (True ∧ True) ∧ True) ∧ True ∧ True) = _) ?_; simp only [and_self]) ?_
  refine vc_mp (by kernel_rfl : (bs (decide ((↑(ByteArray.size a0) : Int) > (1048576 : Int))) (Q (Value.bool true) h) (∃ (x : Int), ∃ (a : Option Addr), ∃ (n : Nat), ∃ (c : Nat), ∃ (a_1 : Option Addr), ∃ (n_1 : Nat), ∃ (c_1 : Nat), ∃ (x_1 : Int), ∃ (h' : AHeap), ACall Try.prog (22 : Nat) [Value.string a0] h (Value.agg (Array.mk [Value.int IntKind.i64 x, Value.slice a n c, Value.slice a_1 n_1 c_1, Value.int IntKind.i64 x_1])) h' ∧ ∃ (x_2 : Int), ∃ (a_2 : Option Addr), ∃ (n_2 : Nat), ∃ (c_2 : Nat), ∃ (a_3 : Option Addr), ∃ (n_3 : Nat), ∃ (c_3 : Nat), ∃ (x_3 : Int), ∃ (h'_1 : AHeap), ACall Try.prog (23 : Nat) [Value.string a0] h' (Value.agg (Array.mk [Value.int IntKind.i64 x_2, Value.slice a_2 n_2 c_2, Value.slice a_3 n_3 c_3, Value.int IntKind.i64 x_3])) h'_1 ∧ ∃ (x_4 : Bool), ∃ (h' : AHeap), ACall Try.prog (24 : Nat) [Value.agg (Array.mk [Value.int IntKind.i64 x_2, Value.slice a_2 n_2 c_2, Value.slice a_3 n_3 c_3, Value.int IntKind.i64 x_3]), Value.agg (Array.mk [Value.int IntKind.i64 x, Value.slice a n c, Value.slice a_1 n_1 c_1, Value.int IntKind.i64 x_1])] h'_1 (Value.bool x_4) h' ∧ bs (!x_4) (Q (Value.bool false) h') (∃ (x_5 : Int), ∃ (h'_2 : AHeap), ACall Try.prog (25 : Nat) [Value.agg (Array.mk [Value.int IntKind.i64 x_2, Value.slice a_2 n_2 c_2, Value.slice a_3 n_3 c_3, Value.int IntKind.i64 x_3]), Value.int IntKind.i64 (1 : Int)] h' (Value.int IntKind.i64 x_5) h'_2 ∧ ∃ (x_6 : Int), ∃ (h' : AHeap), ACall Try.prog (26 : Nat) [Value.agg (Array.mk [Value.int IntKind.i64 x_2, Value.slice a_2 n_2 c_2, Value.slice a_3 n_3 c_3, Value.int IntKind.i64 x_3]), Value.int IntKind.i64 (1 : Int)] h'_2 (Value.int IntKind.i64 x_6) h' ∧ bs (decide (x_6 < (0 : Int))) (Q (Value.bool false) h') (bs (!decide (x_6 = x_5)) (Q (Value.bool false) h') (∃ (x_7 : Int), ∃ (a_4 : Option Addr), ∃ (n_4 : Nat), ∃ (c_4 : Nat), ∃ (a_5 : Option Addr), ∃ (n_5 : Nat), ∃ (c_5 : Nat), ∃ (x_8 : Int), ∃ (h'_3 : AHeap), ACall Try.prog (23 : Nat) [Value.string a0] h' (Value.agg (Array.mk [Value.int IntKind.i64 x_7, Value.slice a_4 n_4 c_4, Value.slice a_5 n_5 c_5, Value.int IntKind.i64 x_8])) h'_3 ∧ ∃ (x_9 : Bool), ∃ (h' : AHeap), ACall Try.prog (24 : Nat) [Value.agg (Array.mk [Value.int IntKind.i64 x_7, Value.slice a_4 n_4 c_4, Value.slice a_5 n_5 c_5, Value.int IntKind.i64 x_8]), Value.agg (Array.mk [Value.int IntKind.i64 x, Value.slice a n c, Value.slice a_1 n_1 c_1, Value.int IntKind.i64 x_1])] h'_3 (Value.bool x_9) h' ∧ bs (!x_9) (Q (Value.bool false) h') (∃ (x : Int), ∃ (h'_4 : AHeap), ACall Try.prog (26 : Nat) [Value.agg (Array.mk [Value.int IntKind.i64 x_2, Value.slice a_2 n_2 c_2, Value.slice a_3 n_3 c_3, Value.int IntKind.i64 x_3]), Value.int IntKind.i64 (1 : Int)] h' (Value.int IntKind.i64 x) h'_4 ∧ bs (decide (x < (0 : Int))) (Q (Value.bool false) h'_4) (bs (!decide (x = x_5)) (Q (Value.bool false) h'_4) (Q (Value.bool true) h'_4)))))))) = _) ?_
  refine bs_d (fun _ => HQ _ _ rfl) (fun q0 => ?_)
  have okT : snapOutSh.ok T := by rw [hT]; exact snapReadM_ok a0 (by omega)
  have cnT : (snapOutSh.cv T : Int) ≤ 900000000000 := by rw [hT]; exact snapReadM_cn a0 (by omega)
  obtain ⟨_, g1, CW, k1, w1, W1, W2, rfl, RW1, RW2⟩ := xsSnapRead h hw a0 (by omega)
  rw [← hT] at CW RW1 RW2
  obtain ⟨oW1, cW1, rfl⟩ := RW1.isSlice
  obtain ⟨oW2, cW2, rfl⟩ := RW2.isSlice
  have l0_1 := k1
  refine ⟨_, _, _, _, _, _, _, _, _, CW, ?_⟩
  obtain ⟨_, g2, CG, k2, w2, G1, G2, JG1, JG2, rfl, RG1, RG2, fG⟩ := xiSnapRead g1 w1 a0 (by omega)
  rw [← hT] at CG RG1 RG2
  obtain ⟨oG1, cG1, rfl⟩ := RG1.sl.isSlice
  obtain ⟨oG2, cG2, rfl⟩ := RG2.sl.isSlice
  have l0_2 := l0_1.trans k2
  have lW_2 := k2
  refine ⟨_, _, _, _, _, _, _, _, _, CG, ?_⟩
  have E1 := eqSnapOut_spec g2 T T _ _ RG1.sl RG2.sl _ _ (RW1.mono lW_2) (RW2.mono lW_2) okT
  rw [eqb_self] at E1
  refine ⟨_, _, E1, bs_nb (fun e => by cases e) (fun _ => ?_)⟩
  have mkG := Sh.mkv_cv snapOutSh T 1
  obtain ⟨_, g3, MG, rfl, w3, OG, RG1, RG2⟩ := mkSnapOut g2 w2 T _ _ _ _ RG1 RG2 fG.nd 1 (by omega) (by omega)
  have l0_3 := leOut l0_2 hw OG (fun l hl => by have h1 := (fG.bd l hl).1; have h2 := l0_1.n; omega)
  have lW_3 := leOut lW_2 w1 OG (fun l hl => by have h1 := (fG.bd l hl).1; have h2 := (AHeap.Le.refl g1).n; omega)
  refine ⟨_, _, MG, ?_⟩
  have RG1 := RG1.sl
  have RG2 := RG2.sl
  obtain ⟨_, g4, Q1, rfl, w4, k4⟩ := hdSnapOut g3 w3 T _ _ 1 (rd_snapOut.2 ⟨_, _, rfl, RG1, RG2⟩) (by omega) (by omega)
  have l0_4 := l0_3.trans k4
  have lW_4 := lW_3.trans k4
  have RG1 := RG1.mono k4
  have RG2 := RG2.mono k4
  refine ⟨_, _, Q1, bs_d (fun e => absurd e (by omega)) (fun _ => bs_dn (fun e => absurd rfl e) (fun _ => ?_))⟩
  obtain ⟨_, g5, CH, k5, w5, H1, H2, JH1, JH2, rfl, RH1, RH2, fH⟩ := xiSnapRead g4 w4 a0 (by omega)
  rw [← hT] at CH RH1 RH2
  obtain ⟨oH1, cH1, rfl⟩ := RH1.sl.isSlice
  obtain ⟨oH2, cH2, rfl⟩ := RH2.sl.isSlice
  have l0_5 := l0_4.trans k5
  have lW_5 := lW_4.trans k5
  have RG1 := RG1.mono k5
  have RG2 := RG2.mono k5
  refine ⟨_, _, _, _, _, _, _, _, _, CH, ?_⟩
  have E2 := eqSnapOut_spec g5 T T _ _ RH1.sl RH2.sl _ _ (RW1.mono lW_5) (RW2.mono lW_5) okT
  rw [eqb_self] at E2
  refine ⟨_, _, E2, bs_nb (fun e => by cases e) (fun _ => ?_)⟩
  obtain ⟨_, g6, Q2, rfl, w6, k6⟩ := hdSnapOut g5 w5 T _ _ 1 (rd_snapOut.2 ⟨_, _, rfl, RG1, RG2⟩) (by omega) (by omega)
  have l0_6 := l0_5.trans k6
  have lW_6 := lW_5.trans k6
  have RH1 := So.le k6 RH1
  have RH2 := So.le k6 RH2
  have RG1 := RG1.mono k6
  have RG2 := RG2.mono k6
  refine ⟨_, _, Q2, bs_d (fun e => absurd e (by omega)) (fun _ => bs_dn (fun e => absurd rfl e) (fun _ => ?_))⟩
  exact HQ _ _ rfl
end Go.Proofs.Ytdcijleeoihlfaa
