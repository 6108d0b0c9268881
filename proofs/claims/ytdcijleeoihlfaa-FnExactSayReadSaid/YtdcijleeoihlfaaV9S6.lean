/- The law FnExactSayRead tells true. Written by law.py. -/
import Derived.Test.YtdcijleeoihlfaaV9T8
namespace Go.Proofs.Ytdcijleeoihlfaa
open Go.Abs Go.Dat
set_option maxRecDepth 100000
set_option maxHeartbeats 8000000
theorem lawSayRead (h : AHeap) (hw : h.wf) (a0 : ByteArray) (b0 : a0.size ≤ 9223372036854775807) :
    ∃ v h', ACall Try.prog 4 [.string a0] h v h' ∧ v = .bool true := by
  obtain ⟨T, hT⟩ : ∃ T, T = (sayReadM a0) := ⟨_, rfl⟩
  refine acall_q fun Q HQ => ?_
  refine acall_vc (fun _ => false) (fun _ => []) (fun _ => .none) mixed Try.func4 rfl rfl rfl (Nat.le_of_ble_eq_true rfl) (by refine vc_mp (by kernel_rfl : (True ∧ (True ∧ (True ∧ True) ∧ True) ∧ True ∧ True ∧ (True ∧ (True ∧ True) ∧ True) ∧ True ∧ True ∧ True ∧ True ∧ (True ∧ (True ∧ True) ∧ True) ∧ (True ∧ (True ∧ True) ∧ True) ∧ True ∧ (True ∧ (True ∧ True) ∧ True) ∧ True ∧ True ∧ (True ∧ (True ∧ True) ∧ True) ∧ (True ∧ (True ∧ True) ∧ True) ∧ True ∧ True) = _) ?_; simp only [and_self]) ?_
  refine vc_mp (by kernel_rfl : (bs (decide ((↑(ByteArray.size a0) : Int) > (1048576 : Int))) (Q (Value.bool true) h) (∃ (x : Int), ∃ (x_1 : Int), ∃ (x_2 : Int), ∃ (x_3 : Int), ∃ (x_4 : ByteArray), ∃ (a : Option Addr), ∃ (n : Nat), ∃ (c : Nat), ∃ (x_5 : Int), ∃ (h' : AHeap), ACall Try.prog (12 : Nat) [Value.string a0] h (Value.agg (Array.mk [Value.int IntKind.i64 x, Value.int IntKind.i64 x_1, Value.int IntKind.i64 x_2, Value.int IntKind.i64 x_3, Value.string x_4, Value.slice a n c, Value.int IntKind.i64 x_5])) h' ∧ ∃ (x_6 : Int), ∃ (x_7 : Int), ∃ (x_8 : Int), ∃ (x_9 : Int), ∃ (x_10 : ByteArray), ∃ (a_1 : Option Addr), ∃ (n_1 : Nat), ∃ (c_1 : Nat), ∃ (x_11 : Int), ∃ (h'_1 : AHeap), ACall Try.prog (13 : Nat) [Value.string a0] h' (Value.agg (Array.mk [Value.int IntKind.i64 x_6, Value.int IntKind.i64 x_7, Value.int IntKind.i64 x_8, Value.int IntKind.i64 x_9, Value.string x_10, Value.slice a_1 n_1 c_1, Value.int IntKind.i64 x_11])) h'_1 ∧ ∃ (x_12 : Bool), ∃ (h' : AHeap), ACall Try.prog (14 : Nat) [Value.agg (Array.mk [Value.int IntKind.i64 x_6, Value.int IntKind.i64 x_7, Value.int IntKind.i64 x_8, Value.int IntKind.i64 x_9, Value.string x_10, Value.slice a_1 n_1 c_1, Value.int IntKind.i64 x_11]), Value.agg (Array.mk [Value.int IntKind.i64 x, Value.int IntKind.i64 x_1, Value.int IntKind.i64 x_2, Value.int IntKind.i64 x_3, Value.string x_4, Value.slice a n c, Value.int IntKind.i64 x_5])] h'_1 (Value.bool x_12) h' ∧ bs (!x_12) (Q (Value.bool false) h') (∃ (x_13 : Int), ∃ (h'_2 : AHeap), ACall Try.prog (15 : Nat) [Value.agg (Array.mk [Value.int IntKind.i64 x_6, Value.int IntKind.i64 x_7, Value.int IntKind.i64 x_8, Value.int IntKind.i64 x_9, Value.string x_10, Value.slice a_1 n_1 c_1, Value.int IntKind.i64 x_11]), Value.int IntKind.i64 (1 : Int)] h' (Value.int IntKind.i64 x_13) h'_2 ∧ ∃ (x_14 : Int), ∃ (h' : AHeap), ACall Try.prog (16 : Nat) [Value.agg (Array.mk [Value.int IntKind.i64 x_6, Value.int IntKind.i64 x_7, Value.int IntKind.i64 x_8, Value.int IntKind.i64 x_9, Value.string x_10, Value.slice a_1 n_1 c_1, Value.int IntKind.i64 x_11]), Value.int IntKind.i64 (1 : Int)] h'_2 (Value.int IntKind.i64 x_14) h' ∧ bs (decide (x_14 < (0 : Int))) (Q (Value.bool false) h') (bs (!decide (x_14 = x_13)) (Q (Value.bool false) h') (∃ (x_15 : Int), ∃ (x_16 : Int), ∃ (x_17 : Int), ∃ (x_18 : Int), ∃ (x_19 : ByteArray), ∃ (a_2 : Option Addr), ∃ (n_2 : Nat), ∃ (c_2 : Nat), ∃ (x_20 : Int), ∃ (h'_3 : AHeap), ACall Try.prog (13 : Nat) [Value.string a0] h' (Value.agg (Array.mk [Value.int IntKind.i64 x_15, Value.int IntKind.i64 x_16, Value.int IntKind.i64 x_17, Value.int IntKind.i64 x_18, Value.string x_19, Value.slice a_2 n_2 c_2, Value.int IntKind.i64 x_20])) h'_3 ∧ ∃ (x_21 : Bool), ∃ (h' : AHeap), ACall Try.prog (14 : Nat) [Value.agg (Array.mk [Value.int IntKind.i64 x_15, Value.int IntKind.i64 x_16, Value.int IntKind.i64 x_17, Value.int IntKind.i64 x_18, Value.string x_19, Value.slice a_2 n_2 c_2, Value.int IntKind.i64 x_20]), Value.agg (Array.mk [Value.int IntKind.i64 x, Value.int IntKind.i64 x_1, Value.int IntKind.i64 x_2, Value.int IntKind.i64 x_3, Value.string x_4, Value.slice a n c, Value.int IntKind.i64 x_5])] h'_3 (Value.bool x_21) h' ∧ bs (!x_21) (Q (Value.bool false) h') (∃ (x : Int), ∃ (h'_4 : AHeap), ACall Try.prog (16 : Nat) [Value.agg (Array.mk [Value.int IntKind.i64 x_6, Value.int IntKind.i64 x_7, Value.int IntKind.i64 x_8, Value.int IntKind.i64 x_9, Value.string x_10, Value.slice a_1 n_1 c_1, Value.int IntKind.i64 x_11]), Value.int IntKind.i64 (1 : Int)] h' (Value.int IntKind.i64 x) h'_4 ∧ bs (decide (x < (0 : Int))) (Q (Value.bool false) h'_4) (bs (!decide (x = x_13)) (Q (Value.bool false) h'_4) (Q (Value.bool true) h'_4)))))))) = _) ?_
  refine bs_d (fun _ => HQ _ _ rfl) (fun q0 => ?_)
  have okT : sayOutSh.ok T := by rw [hT]; exact sayReadM_ok a0 (by omega)
  have cnT : (sayOutSh.cv T : Int) ≤ 900000000000 := by rw [hT]; exact sayReadM_cn a0 (by omega)
  obtain ⟨_, g1, CW, k1, w1, W1, rfl, RW1⟩ := xsSayRead h hw a0 (by omega)
  rw [← hT] at CW RW1
  obtain ⟨oW1, cW1, rfl⟩ := RW1.isSlice
  have l0_1 := k1
  refine ⟨_, _, _, _, _, _, _, _, _, _, CW, ?_⟩
  obtain ⟨_, g2, CG, k2, w2, G1, JG1, rfl, RG1, fG⟩ := xiSayRead g1 w1 a0 (by omega)
  rw [← hT] at CG RG1
  obtain ⟨oG1, cG1, rfl⟩ := RG1.sl.isSlice
  have l0_2 := l0_1.trans k2
  have lW_2 := k2
  refine ⟨_, _, _, _, _, _, _, _, _, _, CG, ?_⟩
  have E1 := eqSayOut_spec g2 T T _ RG1.sl _ (RW1.mono lW_2) okT
  rw [eqb_self] at E1
  refine ⟨_, _, E1, bs_nb (fun e => by cases e) (fun _ => ?_)⟩
  have mkG := Sh.mkv_cv sayOutSh T 1
  obtain ⟨_, g3, MG, rfl, w3, OG, RG1⟩ := mkSayOut g2 w2 T _ _ RG1 fG.nd 1 (by omega) (by omega)
  have l0_3 := leOut l0_2 hw OG (fun l hl => by have h1 := (fG.bd l hl).1; have h2 := l0_1.n; omega)
  have lW_3 := leOut lW_2 w1 OG (fun l hl => by have h1 := (fG.bd l hl).1; have h2 := (AHeap.Le.refl g1).n; omega)
  refine ⟨_, _, MG, ?_⟩
  have RG1 := RG1.sl
  obtain ⟨_, g4, Q1, rfl, w4, k4⟩ := hdSayOut g3 w3 T _ 1 (rd_sayOut.2 ⟨_, rfl, RG1⟩) (by omega) (by omega)
  have l0_4 := l0_3.trans k4
  have lW_4 := lW_3.trans k4
  have RG1 := RG1.mono k4
  refine ⟨_, _, Q1, bs_d (fun e => absurd e (by omega)) (fun _ => bs_dn (fun e => absurd rfl e) (fun _ => ?_))⟩
  obtain ⟨_, g5, CH, k5, w5, H1, JH1, rfl, RH1, fH⟩ := xiSayRead g4 w4 a0 (by omega)
  rw [← hT] at CH RH1
  obtain ⟨oH1, cH1, rfl⟩ := RH1.sl.isSlice
  have l0_5 := l0_4.trans k5
  have lW_5 := lW_4.trans k5
  have RG1 := RG1.mono k5
  refine ⟨_, _, _, _, _, _, _, _, _, _, CH, ?_⟩
  have E2 := eqSayOut_spec g5 T T _ RH1.sl _ (RW1.mono lW_5) okT
  rw [eqb_self] at E2
  refine ⟨_, _, E2, bs_nb (fun e => by cases e) (fun _ => ?_)⟩
  obtain ⟨_, g6, Q2, rfl, w6, k6⟩ := hdSayOut g5 w5 T _ 1 (rd_sayOut.2 ⟨_, rfl, RG1⟩) (by omega) (by omega)
  have l0_6 := l0_5.trans k6
  have lW_6 := lW_5.trans k6
  have RH1 := So.le k6 RH1
  have RG1 := RG1.mono k6
  refine ⟨_, _, Q2, bs_d (fun e => absurd e (by omega)) (fun _ => bs_dn (fun e => absurd rfl e) (fun _ => ?_))⟩
  exact HQ _ _ rfl
end Go.Proofs.Ytdcijleeoihlfaa
