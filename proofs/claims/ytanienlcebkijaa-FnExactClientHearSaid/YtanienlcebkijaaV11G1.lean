/- Contracts of the data functions of laws. Written by gen.py. -/
import Derived.Test.YtanienlcebkijaaV11G0
namespace Go.Proofs.Ytanienlcebkijaa
open Go.Abs Go.Dat
set_option maxRecDepth 100000
set_option maxHeartbeats 4000000
theorem szInt64S_spec (h : AHeap) (a : Option Addr) (n c : Nat) (xs : List Sh.int.T) (left : Int) (hx : Sl h Sh.int xs (.slice a n c)) (hl : 0 ≤ left ∧ left ≤ 1048576) (ok : (Sh.sl Sh.int).ok xs) :
    ACall Try.prog 220 [.slice a n c, .int .i64 left] h (.int .i64 ((Sh.sl Sh.int).sz xs left)) h := by
  have en := hx.len
  have ok1 : xs.length ≤ 9223372036854775807 := ok.1
  have key : (Sh.sl Sh.int).sz xs left = (if left - (xs.length : Int) < 0 then -1 else szL Sh.int.sz xs (left - (xs.length : Int))) := rfl
  rw [key, en]
  refine acall_out (acall_vc (fun _ => false) (fun _ => []) (fun _ => .none) mixed Try.func220 rfl rfl rfl (Nat.le_of_ble_eq_true rfl) (by refine vc_mp (by kernel_rfl : (True ∧ True ∧ (True ∧ (True ∧ True) ∧ True) ∧ True ∧ True) = _) ?_; simp only [and_self]) ?_)
  refine vc_mp (by kernel_rfl : (bs (decide (IntKind.wrap IntKind.i64 (left - (↑n : Int)) < (0 : Int))) (Value.int IntKind.i64 (-1 : Int) = Value.int IntKind.i64 (if left - (↑n : Int) < (0 : Int) then (-1 : Int) else szL (Sh.sz Sh.int) xs (left - (↑n : Int))) ∧ h = h) (Value.int IntKind.i64 (IntKind.wrap IntKind.i64 (left - (↑n : Int))) = Value.int IntKind.i64 (if left - (↑n : Int) < (0 : Int) then (-1 : Int) else szL (Sh.sz Sh.int) xs (left - (↑n : Int))) ∧ h = h)) = _) ?_
  rw [wrap_i64 (by omega)]
  refine bs_d (fun e => ?_) (fun e => ?_)
  · rw [if_pos e]; exact ⟨rfl, rfl⟩
  · rw [if_neg e, szL_int _ _ (by omega)]; exact ⟨rfl, rfl⟩
theorem szReply_spec (h : AHeap) (x : replySh.T) (left : Int) (hl : 0 ≤ left ∧ left ≤ 1048576) (ok : replySh.ok x) :
    ACall Try.prog 20 [.agg #[.int .i64 x.1, .int .i64 x.2.1, .string x.2.2], .int .i64 left] h (.int .i64 (replySh.sz x left)) h := by
  obtain ⟨x1, x2, x3⟩ := x
  try dsimp only at *
  refine acall_out (acall_vc (fun _ => false) (fun _ => []) (fun _ => .none) mixed Try.func20 rfl rfl rfl (Nat.le_of_ble_eq_true rfl) (by refine vc_mp (by kernel_rfl : (True ∧ True ∧ (True ∧ (True ∧ True) ∧ True) ∧ True ∧ True) = _) ?_; simp only [and_self]) ?_)
  refine vc_mp (by kernel_rfl : (bs (decide (IntKind.wrap IntKind.i64 (left - (↑(ByteArray.size x3) : Int)) < (0 : Int))) (Value.int IntKind.i64 (-1 : Int) = Value.int IntKind.i64 (Sh.sz replySh (x1, x2, x3) left) ∧ h = h) (Value.int IntKind.i64 (IntKind.wrap IntKind.i64 (left - (↑(ByteArray.size x3) : Int))) = Value.int IntKind.i64 (Sh.sz replySh (x1, x2, x3) left) ∧ h = h)) = _) ?_
  have o1 : (x3 : ByteArray).size ≤ 9223372036854775807 := ok.2.2
  rw [wrap_i64 (by omega)]
  refine bs_d (fun e1 => by refine ⟨congrArg _ (Eq.symm ?_), rfl⟩; exact sz_step rfl hl.1 (sz_step rfl hl.1 (sz_strn e1))) (fun e1 => ?_)
  refine ⟨congrArg _ (Eq.symm ?_), rfl⟩
  exact sz_step rfl hl.1 (sz_step rfl hl.1 ((sz_str e1)))
theorem toReply_spec (h : AHeap) (x : replySh.T) (hw : h.wf) :
    ∃ v h', ACall Try.prog 23 [.agg #[.int .i64 x.1, .int .i64 x.2.1, .string x.2.2]] h v h' ∧ h.Le h' ∧ h'.wf ∧ ∃ ids, v = .agg #[.int .i64 x.1, .int .i64 x.2.1, .string x.2.2] ∧ replySh.ro h' x [.int .i64 x.1, .int .i64 x.2.1, .string x.2.2] ids ∧ Fresh h.n h'.n ids := by
  obtain ⟨x1, x2, x3⟩ := x
  try dsimp only at *
  refine acall_q fun Q HQ => ?_
  refine acall_vc (fun _ => false) (fun _ => []) (fun _ => .none) mixed Try.func23 rfl rfl rfl (Nat.le_of_ble_eq_true rfl) (by refine vc_mp (by kernel_rfl : (True ∧ True ∧ True ∧ True ∧ True ∧ True ∧ True) = _) ?_; simp only [and_self]) ?_
  refine vc_mp (by kernel_rfl : (Q (Value.agg (Array.mk [Value.int IntKind.i64 x1, Value.int IntKind.i64 x2, Value.string x3])) h) = _) ?_
  exact HQ _ _ ⟨.refl _, hw, [], rfl, (ro_reply (x := (x1, x2, x3))).2 ⟨rfl, rfl⟩, .nil⟩
theorem szProof_spec (h : AHeap) (x : proofSh.T) (left : Int) (v1 : Value) (h1 : Sl h Sh.int x.2.2.2 v1) (hl : 0 ≤ left ∧ left ≤ 1048576) (ok : proofSh.ok x) :
    ACall Try.prog 215 [.agg #[.int .i64 x.1, .int .i64 x.2.1, .string x.2.2.1, v1], .int .i64 left] h (.int .i64 (proofSh.sz x left)) h := by
  obtain ⟨x1, x2, x3, x4⟩ := x
  try dsimp only at *
  obtain ⟨a1, c1, rfl⟩ := h1.isSlice
  refine acall_out (acall_vc (fun _ => false) (fun _ => []) (fun _ => .none) mixed Try.func215 rfl rfl rfl (Nat.le_of_ble_eq_true rfl) (by refine vc_mp (by kernel_rfl : (True ∧ True ∧ (True ∧ (True ∧ True) ∧ True) ∧ True ∧ (True ∧ (True ∧ True) ∧ True) ∧ True ∧ True) = _) ?_; simp only [and_self]) ?_)
  refine vc_mp (by kernel_rfl : (bs (decide (IntKind.wrap IntKind.i64 (left - (↑(ByteArray.size x3) : Int)) < (0 : Int))) (Value.int IntKind.i64 (-1 : Int) = Value.int IntKind.i64 (Sh.sz proofSh (x1, x2, x3, x4) left) ∧ h = h) (∃ (x : Int), ∃ (h' : AHeap), ACall Try.prog (220 : Nat) [Value.slice a1 (List.length x4) c1, Value.int IntKind.i64 (IntKind.wrap IntKind.i64 (left - (↑(ByteArray.size x3) : Int)))] h (Value.int IntKind.i64 x) h' ∧ bs (decide (x < (0 : Int))) (Value.int IntKind.i64 (-1 : Int) = Value.int IntKind.i64 (Sh.sz proofSh (x1, x2, x3, x4) left) ∧ h' = h) (Value.int IntKind.i64 x = Value.int IntKind.i64 (Sh.sz proofSh (x1, x2, x3, x4) left) ∧ h' = h))) = _) ?_
  have o1 : (x3 : ByteArray).size ≤ 9223372036854775807 := ok.2.2.1
  rw [wrap_i64 (by omega)]
  refine bs_d (fun e1 => by refine ⟨congrArg _ (Eq.symm ?_), rfl⟩; exact sz_step rfl hl.1 (sz_step rfl hl.1 (sz_stop (neg1 (sz_strn e1))))) (fun e1 => ?_)
  have b2 := (Sh.sl Sh.int).sz_le x4 (left - ((x3 : ByteArray).size : Int)) (by omega)
  refine ⟨_, _, szInt64S_spec h a1 _ c1 _ (left - ((x3 : ByteArray).size : Int)) h1 (by omega) ok.2.2.2, bs_d (fun e2 => by refine ⟨congrArg _ (Eq.symm ?_), rfl⟩; exact sz_step rfl hl.1 (sz_step rfl hl.1 (sz_step (sz_str e1) (Int.not_lt.1 e1) (sz_neg (Int.not_lt.1 e1) e2)))) (fun e2 => ?_)⟩
  refine ⟨congrArg _ (Eq.symm ?_), rfl⟩
  exact sz_step rfl hl.1 (sz_step rfl hl.1 (sz_step (sz_str e1) (Int.not_lt.1 e1) (rfl)))
theorem szProofS_spec (h : AHeap) (a : Option Addr) (n c : Nat) (xs : List proofSh.T) (left : Int) (hx : Sl h proofSh xs (.slice a n c)) (hl : 0 ≤ left ∧ left ≤ 1048576) (ok : (Sh.sl proofSh).ok xs) :
    ACall Try.prog 202 [.slice a n c, .int .i64 left] h (.int .i64 ((Sh.sl proofSh).sz xs left)) h := by
  have en := hx.len
  have ok1 : xs.length ≤ 9223372036854775807 := ok.1
  have key : (Sh.sl proofSh).sz xs left = (if left - (xs.length : Int) < 0 then -1 else szL proofSh.sz xs (left - (xs.length : Int))) := rfl
  rw [key, en]
  refine acall_out (acall_vc (fun _ => false) (fun _ => []) (fun _ => szLp proofSh a n c h xs (szL proofSh.sz xs (left - n))) mixed Try.func202 rfl rfl rfl (Nat.le_of_ble_eq_true rfl) ?_ ?_)
  · refine vc_mp (by kernel_rfl : (True ∧ True ∧ (True ∧ (True ∧ True) ∧ True) ∧ (True ∧ (∀ (i : Nat × Int), Prod.fst i ≤ n ∧ (0 : Int) ≤ Prod.snd i ∧ Prod.snd i ≤ (1048576 : Int) ∧ szL (Sh.sz proofSh) (List.drop (Prod.fst i) xs) (Prod.snd i) = szL (Sh.sz proofSh) xs (left - (↑n : Int)) → bs (decide ((↑(Prod.fst i) : Int) < (↑n : Int))) (∃ (l : Nat), ∃ (r : Nat), a = some (Addr.mk l r (some (4 : Nat))) ∧ (0 : Int) ≤ (↑(Prod.fst i) : Int) ∧ (↑(Prod.fst i) : Int) < (↑n : Int) ∧ ∃ (x : Int), ∃ (x_1 : Int), ∃ (x_2 : ByteArray), ∃ (a_2 : Option Addr), ∃ (n_1 : Nat), ∃ (c_1 : Nat), AHeap.ld h l (r + Int.toNat (↑(Prod.fst i) : Int)) (0 : Nat) (4 : Nat) = some [Value.int IntKind.i64 x, Value.int IntKind.i64 x_1, Value.string x_2, Value.slice a_2 n_1 c_1] ∧ ∃ (x_3 : Int), ∃ (h' : AHeap), ACall Try.prog (215 : Nat) [Value.agg (Array.mk [Value.int IntKind.i64 x, Value.int IntKind.i64 x_1, Value.string x_2, Value.slice a_2 n_1 c_1]), Value.int IntKind.i64 (Prod.snd i)] h (Value.int IntKind.i64 x_3) h' ∧ bs (decide (x_3 < (0 : Int))) (Value.int IntKind.i64 (-1 : Int) = Value.int IntKind.i64 (szL (Sh.sz proofSh) xs (left - (↑n : Int))) ∧ h' = h) (∃ (j : Nat × Int), Value.slice a n c = Value.slice a n c ∧ Value.int IntKind.i64 x_3 = Value.int IntKind.i64 (Prod.snd j) ∧ Value.int IntKind.i64 (IntKind.wrap IntKind.i64 ((↑(Prod.fst i) : Int) + (1 : Int))) = Value.int IntKind.i64 (↑(Prod.fst j) : Int) ∧ h = h' ∧ (Prod.fst j ≤ n ∧ (0 : Int) ≤ Prod.snd j ∧ Prod.snd j ≤ (1048576 : Int) ∧ szL (Sh.sz proofSh) (List.drop (Prod.fst j) xs) (Prod.snd j) = szL (Sh.sz proofSh) xs (left - (↑n : Int))) ∧ n - Prod.fst j < n - Prod.fst i ∧ (∀ (k : Int), k = szL (Sh.sz proofSh) xs (left - (↑n : Int)) → k = szL (Sh.sz proofSh) xs (left - (↑n : Int))) ∧ ∀ (v : Value) (h_1 : AHeap), v = Value.int IntKind.i64 (szL (Sh.sz proofSh) xs (left - (↑n : Int))) ∧ h_1 = h → v = Value.int IntKind.i64 (szL (Sh.sz proofSh) xs (left - (↑n : Int))) ∧ h_1 = h)) (∃ (j : Int), Value.int IntKind.i64 (Prod.snd i) = Value.int IntKind.i64 j ∧ h = h ∧ j = szL (Sh.sz proofSh) xs (left - (↑n : Int)))) ∧ (True ∧ True ∧ True) ∧ (True ∧ True ∧ (True ∧ True) ∧ True) ∧ True) ∧ True ∧ True) = _) ?_
    simp only [true_and, and_true]
    rintro ⟨i, x⟩ ⟨hi, h0, h1, he⟩
    dsimp only at *
    refine bs_d (fun hlt => ?_) (fun hge => ?_)
    · have hio : i < xs.length := by omega
      obtain ⟨l, r, row, ha, _, hrd, hld⟩ := hx.elem (List.getElem?_eq_getElem hio)
      have hoi := ok.2 xs[i] (List.getElem_mem hio)
      obtain ⟨v1, rfl, k1⟩ := rd_proof.1 hrd
      rw [List.drop_eq_getElem_cons hio] at he
      have he : (if proofSh.sz xs[i] x < 0 then -1 else szL proofSh.sz (xs.drop (i + 1)) (proofSh.sz xs[i] x)) = szL proofSh.sz xs (left - n) := he
      have b1 := proofSh.sz_le xs[i] x h0
      obtain ⟨a1, c1, rfl⟩ := k1.isSlice
      refine ⟨l, r, ha, Int.natCast_nonneg _, hlt, _, _, _, _, _, _, hld, proofSh.sz xs[i] x, h, szProof_spec h xs[i] x _ k1 ⟨h0, h1⟩ hoi, bs_d (fun hneg => ?_) (fun hpos => ?_)⟩
      · rw [if_pos hneg] at he; rw [← he]; exact ⟨rfl, rfl⟩
      · rw [if_neg hpos] at he
        exact ⟨(i + 1, proofSh.sz xs[i] x), rfl, by rw [wrap_i64 (by omega)] <;> rfl, rfl, ⟨by dsimp only; omega, by dsimp only; omega, by dsimp only; omega, he⟩, by dsimp only; omega, fun _ h => h, fun _ _ h => h⟩
    · have e : i = xs.length := by omega
      subst e
      rw [List.drop_length] at he
      exact ⟨x, rfl, he⟩
  · refine vc_mp (by kernel_rfl : (bs (decide (IntKind.wrap IntKind.i64 (left - (↑n : Int)) < (0 : Int))) (Value.int IntKind.i64 (-1 : Int) = Value.int IntKind.i64 (if left - (↑n : Int) < (0 : Int) then (-1 : Int) else szL (Sh.sz proofSh) xs (left - (↑n : Int))) ∧ h = h) (∃ (i : Nat × Int), Value.slice a n c = Value.slice a n c ∧ Value.int IntKind.i64 (IntKind.wrap IntKind.i64 (left - (↑n : Int))) = Value.int IntKind.i64 (Prod.snd i) ∧ Value.int IntKind.i64 (0 : Int) = Value.int IntKind.i64 (↑(Prod.fst i) : Int) ∧ h = h ∧ (Prod.fst i ≤ n ∧ (0 : Int) ≤ Prod.snd i ∧ Prod.snd i ≤ (1048576 : Int) ∧ szL (Sh.sz proofSh) (List.drop (Prod.fst i) xs) (Prod.snd i) = szL (Sh.sz proofSh) xs (left - (↑n : Int))) ∧ (∀ (j : Int), j = szL (Sh.sz proofSh) xs (left - (↑n : Int)) → Value.int IntKind.i64 j = Value.int IntKind.i64 (if left - (↑n : Int) < (0 : Int) then (-1 : Int) else szL (Sh.sz proofSh) xs (left - (↑n : Int))) ∧ h = h) ∧ ∀ (v : Value) (h_1 : AHeap), v = Value.int IntKind.i64 (szL (Sh.sz proofSh) xs (left - (↑n : Int))) ∧ h_1 = h → v = Value.int IntKind.i64 (if left - (↑n : Int) < (0 : Int) then (-1 : Int) else szL (Sh.sz proofSh) xs (left - (↑n : Int))) ∧ h_1 = h)) = _) ?_
    rw [wrap_i64 (by omega)]
    refine bs_d (fun e => ?_) (fun e => ?_)
    · rw [if_pos e]; exact ⟨rfl, rfl⟩
    · rw [if_neg e]
      exact ⟨(0, left - n), rfl, rfl, rfl, rfl, ⟨Nat.zero_le _, by dsimp only; omega, by dsimp only; omega, rfl⟩, fun j hj => ⟨by rw [hj], rfl⟩, fun _ _ h => h⟩
theorem szChange_spec (h : AHeap) (x : changeSh.T) (left : Int) (v1 : Value) (h1 : Sl h proofSh x.2.2 v1) (hl : 0 ≤ left ∧ left ≤ 1048576) (ok : changeSh.ok x) :
    ACall Try.prog 174 [.agg #[.int .i64 x.1, .int .i64 x.2.1, v1], .int .i64 left] h (.int .i64 (changeSh.sz x left)) h := by
  obtain ⟨x1, x2, x3⟩ := x
  try dsimp only at *
  obtain ⟨a1, c1, rfl⟩ := h1.isSlice
  refine acall_out (acall_vc (fun _ => false) (fun _ => []) (fun _ => .none) mixed Try.func174 rfl rfl rfl (Nat.le_of_ble_eq_true rfl) (by refine vc_mp (by kernel_rfl : (True ∧ True ∧ (True ∧ (True ∧ True) ∧ True) ∧ True ∧ True) = _) ?_; simp only [and_self]) ?_)
  refine vc_mp (by kernel_rfl : (∃ (x : Int), ∃ (h' : AHeap), ACall Try.prog (202 : Nat) [Value.slice a1 (List.length x3) c1, Value.int IntKind.i64 left] h (Value.int IntKind.i64 x) h' ∧ bs (decide (x < (0 : Int))) (Value.int IntKind.i64 (-1 : Int) = Value.int IntKind.i64 (Sh.sz changeSh (x1, x2, x3) left) ∧ h' = h) (Value.int IntKind.i64 x = Value.int IntKind.i64 (Sh.sz changeSh (x1, x2, x3) left) ∧ h' = h)) = _) ?_
  have b1 := (Sh.sl proofSh).sz_le x3 left (by omega)
  refine ⟨_, _, szProofS_spec h a1 _ c1 _ left h1 (by omega) ok.2.2, bs_d (fun e1 => by refine ⟨congrArg _ (Eq.symm ?_), rfl⟩; exact sz_step rfl hl.1 (sz_step rfl hl.1 (sz_neg hl.1 e1))) (fun e1 => ?_)⟩
  refine ⟨congrArg _ (Eq.symm ?_), rfl⟩
  exact sz_step rfl hl.1 (sz_step rfl hl.1 (rfl))
theorem szHeard_spec (h : AHeap) (x : heardSh.T) (left : Int) (hl : 0 ≤ left ∧ left ≤ 1048576) (ok : heardSh.ok x) :
    ACall Try.prog 142 [.agg #[.int .i64 x.1, .string x.2], .int .i64 left] h (.int .i64 (heardSh.sz x left)) h := by
  obtain ⟨x1, x2⟩ := x
  try dsimp only at *
  refine acall_out (acall_vc (fun _ => false) (fun _ => []) (fun _ => .none) mixed Try.func142 rfl rfl rfl (Nat.le_of_ble_eq_true rfl) (by refine vc_mp (by kernel_rfl : (True ∧ True ∧ (True ∧ (True ∧ True) ∧ True) ∧ True ∧ True) = _) ?_; simp only [and_self]) ?_)
  refine vc_mp (by kernel_rfl : (bs (decide (IntKind.wrap IntKind.i64 (left - (↑(ByteArray.size x2) : Int)) < (0 : Int))) (Value.int IntKind.i64 (-1 : Int) = Value.int IntKind.i64 (Sh.sz heardSh (x1, x2) left) ∧ h = h) (Value.int IntKind.i64 (IntKind.wrap IntKind.i64 (left - (↑(ByteArray.size x2) : Int))) = Value.int IntKind.i64 (Sh.sz heardSh (x1, x2) left) ∧ h = h)) = _) ?_
  have o1 : (x2 : ByteArray).size ≤ 9223372036854775807 := ok.2
  rw [wrap_i64 (by omega)]
  refine bs_d (fun e1 => by refine ⟨congrArg _ (Eq.symm ?_), rfl⟩; exact sz_step rfl hl.1 (sz_strn e1)) (fun e1 => ?_)
  refine ⟨congrArg _ (Eq.symm ?_), rfl⟩
  exact sz_step rfl hl.1 ((sz_str e1))
theorem szHeardS_spec (h : AHeap) (a : Option Addr) (n c : Nat) (xs : List heardSh.T) (left : Int) (hx : Sl h heardSh xs (.slice a n c)) (hl : 0 ≤ left ∧ left ≤ 1048576) (ok : (Sh.sl heardSh).ok xs) :
    ACall Try.prog 82 [.slice a n c, .int .i64 left] h (.int .i64 ((Sh.sl heardSh).sz xs left)) h := by
  have en := hx.len
  have ok1 : xs.length ≤ 9223372036854775807 := ok.1
  have key : (Sh.sl heardSh).sz xs left = (if left - (xs.length : Int) < 0 then -1 else szL heardSh.sz xs (left - (xs.length : Int))) := rfl
  rw [key, en]
  refine acall_out (acall_vc (fun _ => false) (fun _ => []) (fun _ => szLp heardSh a n c h xs (szL heardSh.sz xs (left - n))) mixed Try.func82 rfl rfl rfl (Nat.le_of_ble_eq_true rfl) ?_ ?_)
  · refine vc_mp (by kernel_rfl : (True ∧ True ∧ (True ∧ (True ∧ True) ∧ True) ∧ (True ∧ (∀ (i : Nat × Int), Prod.fst i ≤ n ∧ (0 : Int) ≤ Prod.snd i ∧ Prod.snd i ≤ (1048576 : Int) ∧ szL (Sh.sz heardSh) (List.drop (Prod.fst i) xs) (Prod.snd i) = szL (Sh.sz heardSh) xs (left - (↑n : Int)) → bs (decide ((↑(Prod.fst i) : Int) < (↑n : Int))) (∃ (l : Nat), ∃ (r : Nat), a = some (Addr.mk l r (some (2 : Nat))) ∧ (0 : Int) ≤ (↑(Prod.fst i) : Int) ∧ (↑(Prod.fst i) : Int) < (↑n : Int) ∧ ∃ (x : Int), ∃ (x_1 : ByteArray), AHeap.ld h l (r + Int.toNat (↑(Prod.fst i) : Int)) (0 : Nat) (2 : Nat) = some [Value.int IntKind.i64 x, Value.string x_1] ∧ ∃ (x_2 : Int), ∃ (h' : AHeap), ACall Try.prog (142 : Nat) [Value.agg (Array.mk [Value.int IntKind.i64 x, Value.string x_1]), Value.int IntKind.i64 (Prod.snd i)] h (Value.int IntKind.i64 x_2) h' ∧ bs (decide (x_2 < (0 : Int))) (Value.int IntKind.i64 (-1 : Int) = Value.int IntKind.i64 (szL (Sh.sz heardSh) xs (left - (↑n : Int))) ∧ h' = h) (∃ (j : Nat × Int), Value.slice a n c = Value.slice a n c ∧ Value.int IntKind.i64 x_2 = Value.int IntKind.i64 (Prod.snd j) ∧ Value.int IntKind.i64 (IntKind.wrap IntKind.i64 ((↑(Prod.fst i) : Int) + (1 : Int))) = Value.int IntKind.i64 (↑(Prod.fst j) : Int) ∧ h = h' ∧ (Prod.fst j ≤ n ∧ (0 : Int) ≤ Prod.snd j ∧ Prod.snd j ≤ (1048576 : Int) ∧ szL (Sh.sz heardSh) (List.drop (Prod.fst j) xs) (Prod.snd j) = szL (Sh.sz heardSh) xs (left - (↑n : Int))) ∧ n - Prod.fst j < n - Prod.fst i ∧ (∀ (k : Int), k = szL (Sh.sz heardSh) xs (left - (↑n : Int)) → k = szL (Sh.sz heardSh) xs (left - (↑n : Int))) ∧ ∀ (v : Value) (h_1 : AHeap), v = Value.int IntKind.i64 (szL (Sh.sz heardSh) xs (left - (↑n : Int))) ∧ h_1 = h → v = Value.int IntKind.i64 (szL (Sh.sz heardSh) xs (left - (↑n : Int))) ∧ h_1 = h)) (∃ (j : Int), Value.int IntKind.i64 (Prod.snd i) = Value.int IntKind.i64 j ∧ h = h ∧ j = szL (Sh.sz heardSh) xs (left - (↑n : Int)))) ∧ (True ∧ True ∧ True) ∧ (True ∧ True ∧ (True ∧ True) ∧ True) ∧ True) ∧ True ∧ True) = _) ?_
    simp only [true_and, and_true]
    rintro ⟨i, x⟩ ⟨hi, h0, h1, he⟩
    dsimp only at *
    refine bs_d (fun hlt => ?_) (fun hge => ?_)
    · have hio : i < xs.length := by omega
      obtain ⟨l, r, row, ha, _, hrd, hld⟩ := hx.elem (List.getElem?_eq_getElem hio)
      have hoi := ok.2 xs[i] (List.getElem_mem hio)
      obtain rfl := rd_heard.1 hrd
      rw [List.drop_eq_getElem_cons hio] at he
      have he : (if heardSh.sz xs[i] x < 0 then -1 else szL heardSh.sz (xs.drop (i + 1)) (heardSh.sz xs[i] x)) = szL heardSh.sz xs (left - n) := he
      have b1 := heardSh.sz_le xs[i] x h0
      refine ⟨l, r, ha, Int.natCast_nonneg _, hlt, _, _, hld, heardSh.sz xs[i] x, h, szHeard_spec h xs[i] x   ⟨h0, h1⟩ hoi, bs_d (fun hneg => ?_) (fun hpos => ?_)⟩
      · rw [if_pos hneg] at he; rw [← he]; exact ⟨rfl, rfl⟩
      · rw [if_neg hpos] at he
        exact ⟨(i + 1, heardSh.sz xs[i] x), rfl, by rw [wrap_i64 (by omega)] <;> rfl, rfl, ⟨by dsimp only; omega, by dsimp only; omega, by dsimp only; omega, he⟩, by dsimp only; omega, fun _ h => h, fun _ _ h => h⟩
    · have e : i = xs.length := by omega
      subst e
      rw [List.drop_length] at he
      exact ⟨x, rfl, he⟩
  · refine vc_mp (by kernel_rfl : (bs (decide (IntKind.wrap IntKind.i64 (left - (↑n : Int)) < (0 : Int))) (Value.int IntKind.i64 (-1 : Int) = Value.int IntKind.i64 (if left - (↑n : Int) < (0 : Int) then (-1 : Int) else szL (Sh.sz heardSh) xs (left - (↑n : Int))) ∧ h = h) (∃ (i : Nat × Int), Value.slice a n c = Value.slice a n c ∧ Value.int IntKind.i64 (IntKind.wrap IntKind.i64 (left - (↑n : Int))) = Value.int IntKind.i64 (Prod.snd i) ∧ Value.int IntKind.i64 (0 : Int) = Value.int IntKind.i64 (↑(Prod.fst i) : Int) ∧ h = h ∧ (Prod.fst i ≤ n ∧ (0 : Int) ≤ Prod.snd i ∧ Prod.snd i ≤ (1048576 : Int) ∧ szL (Sh.sz heardSh) (List.drop (Prod.fst i) xs) (Prod.snd i) = szL (Sh.sz heardSh) xs (left - (↑n : Int))) ∧ (∀ (j : Int), j = szL (Sh.sz heardSh) xs (left - (↑n : Int)) → Value.int IntKind.i64 j = Value.int IntKind.i64 (if left - (↑n : Int) < (0 : Int) then (-1 : Int) else szL (Sh.sz heardSh) xs (left - (↑n : Int))) ∧ h = h) ∧ ∀ (v : Value) (h_1 : AHeap), v = Value.int IntKind.i64 (szL (Sh.sz heardSh) xs (left - (↑n : Int))) ∧ h_1 = h → v = Value.int IntKind.i64 (if left - (↑n : Int) < (0 : Int) then (-1 : Int) else szL (Sh.sz heardSh) xs (left - (↑n : Int))) ∧ h_1 = h)) = _) ?_
    rw [wrap_i64 (by omega)]
    refine bs_d (fun e => ?_) (fun e => ?_)
    · rw [if_pos e]; exact ⟨rfl, rfl⟩
    · rw [if_neg e]
      exact ⟨(0, left - n), rfl, rfl, rfl, rfl, ⟨Nat.zero_le _, by dsimp only; omega, by dsimp only; omega, rfl⟩, fun j hj => ⟨by rw [hj], rfl⟩, fun _ _ h => h⟩
theorem toHeard_spec (h : AHeap) (x : heardSh.T) (hw : h.wf) :
    ∃ v h', ACall Try.prog 143 [.agg #[.int .i64 x.1, .string x.2]] h v h' ∧ h.Le h' ∧ h'.wf ∧ ∃ ids, v = .agg #[.int .i64 x.1, .string x.2] ∧ heardSh.ro h' x [.int .i64 x.1, .string x.2] ids ∧ Fresh h.n h'.n ids := by
  obtain ⟨x1, x2⟩ := x
  try dsimp only at *
  refine acall_q fun Q HQ => ?_
  refine acall_vc (fun _ => false) (fun _ => []) (fun _ => .none) mixed Try.func143 rfl rfl rfl (Nat.le_of_ble_eq_true rfl) (by refine vc_mp (by kernel_rfl : (True ∧ True ∧ True ∧ True ∧ True ∧ True) = _) ?_; simp only [and_self]) ?_
  refine vc_mp (by kernel_rfl : (Q (Value.agg (Array.mk [Value.int IntKind.i64 x1, Value.string x2])) h) = _) ?_
  exact HQ _ _ ⟨.refl _, hw, [], rfl, (ro_heard (x := (x1, x2))).2 ⟨rfl, rfl⟩, .nil⟩
theorem toHeardS_spec (h : AHeap) (a : Option Addr) (n c : Nat) (xs : List heardSh.T) (hw : h.wf) (hx : Sl h heardSh xs (.slice a n c)) (ok : (Sh.sl heardSh).small xs) :
    ∃ v h', ACall Try.prog 84 [.slice a n c] h v h' ∧ h.Le h' ∧ h'.wf ∧ ∃ ids, v = .slice (some ⟨h.n, 0, some 2⟩) n (n + 1) ∧ So h' heardSh xs (.slice (some ⟨h.n, 0, some 2⟩) n (n + 1)) ids ∧ Fresh h.n h'.n ids := by
  have en := hx.len
  have ok1 : xs.length ≤ 1048576 := ok.1
  refine acall_vc (fun _ => false) (fun _ => []) (fun _ => toL heardSh [.int .i64 0, .string ⟨#[]⟩] a n c h xs) mixed Try.func84 rfl rfl rfl (Nat.le_of_ble_eq_true rfl) ?_ ?_
  · refine vc_mp (by kernel_rfl : (True ∧ True ∧ (True ∧ (∀ (i : Nat × AHeap × List (List Value) × List (List Nat)), ToI heardSh [Value.int IntKind.i64 (0 : Int), Value.string (ByteArray.mk (Array.mk []))] n h xs (Prod.fst i) (Prod.fst (Prod.snd i)) (Prod.fst (Prod.snd (Prod.snd i))) (Prod.snd (Prod.snd (Prod.snd i))) → bs (decide ((↑(Prod.fst i) : Int) < (↑n : Int))) (∃ (l : Nat), ∃ (r : Nat), a = some (Addr.mk l r (some (2 : Nat))) ∧ (0 : Int) ≤ (↑(Prod.fst i) : Int) ∧ (↑(Prod.fst i) : Int) < (↑n : Int) ∧ ∃ (x : Int), ∃ (x_1 : ByteArray), AHeap.ld (Prod.fst (Prod.snd i)) l (r + Int.toNat (↑(Prod.fst i) : Int)) (0 : Nat) (2 : Nat) = some [Value.int IntKind.i64 x, Value.string x_1] ∧ ∃ (x_2 : Int), ∃ (x_3 : ByteArray), ∃ (h' : AHeap), ACall Try.prog (143 : Nat) [Value.agg (Array.mk [Value.int IntKind.i64 x, Value.string x_1])] (Prod.fst (Prod.snd i)) (Value.agg (Array.mk [Value.int IntKind.i64 x_2, Value.string x_3])) h' ∧ ∃ (l : Nat), ∃ (r : Nat), some (Addr.mk (AHeap.n h) (0 : Nat) (some (Sh.cells heardSh))) = some (Addr.mk l r (some (2 : Nat))) ∧ (0 : Int) ≤ (↑(Prod.fst i) : Int) ∧ (↑(Prod.fst i) : Int) < (↑n : Int) ∧ ∃ (h'_1 : AHeap), AHeap.wr h' l (r + Int.toNat (↑(Prod.fst i) : Int)) (0 : Nat) [Value.int IntKind.i64 x_2, Value.string x_3] = some h'_1 ∧ ∃ (j : Nat × AHeap × List (List Value) × List (List Nat)), Value.slice a n c = Value.slice a n c ∧ Value.slice (some (Addr.mk (AHeap.n h) (0 : Nat) (some (Sh.cells heardSh)))) n (n + (1 : Nat)) = Value.slice (some (Addr.mk (AHeap.n h) (0 : Nat) (some (Sh.cells heardSh)))) n (n + (1 : Nat)) ∧ Value.int IntKind.i64 (IntKind.wrap IntKind.i64 ((↑(Prod.fst i) : Int) + (1 : Int))) = Value.int IntKind.i64 (↑(Prod.fst j) : Int) ∧ Prod.fst (Prod.snd j) = h'_1 ∧ ToI heardSh [Value.int IntKind.i64 (0 : Int), Value.string (ByteArray.mk (Array.mk []))] n h xs (Prod.fst j) (Prod.fst (Prod.snd j)) (Prod.fst (Prod.snd (Prod.snd j))) (Prod.snd (Prod.snd (Prod.snd j))) ∧ n - Prod.fst j < n - Prod.fst i ∧ (∀ (k : AHeap × List (List Value) × List (List Nat)), ToI heardSh [Value.int IntKind.i64 (0 : Int), Value.string (ByteArray.mk (Array.mk []))] n h xs n (Prod.fst k) (Prod.fst (Prod.snd k)) (Prod.snd (Prod.snd k)) → ToI heardSh [Value.int IntKind.i64 (0 : Int), Value.string (ByteArray.mk (Array.mk []))] n h xs n (Prod.fst k) (Prod.fst (Prod.snd k)) (Prod.snd (Prod.snd k))) ∧ ∀ (v : Value) (h : AHeap), False → False) (∃ (j : AHeap × List (List Value) × List (List Nat)), Value.slice (some (Addr.mk (AHeap.n h) (0 : Nat) (some (Sh.cells heardSh)))) n (n + (1 : Nat)) = Value.slice (some (Addr.mk (AHeap.n h) (0 : Nat) (some (Sh.cells heardSh)))) n (n + (1 : Nat)) ∧ Prod.fst j = Prod.fst (Prod.snd i) ∧ ToI heardSh [Value.int IntKind.i64 (0 : Int), Value.string (ByteArray.mk (Array.mk []))] n h xs n (Prod.fst j) (Prod.fst (Prod.snd j)) (Prod.snd (Prod.snd j)))) ∧ (True ∧ True ∧ True) ∧ True ∧ True) ∧ True ∧ True) = _) ?_
    simp only [true_and, and_true]
    rintro ⟨i, h1, rows, idss⟩ I
    dsimp only at *
    refine bs_d (fun hlt => ?_) (fun hge => ?_)
    · have hio : i < xs.length := by omega
      obtain ⟨l, r, row, ha, _, hrd, hld⟩ := (hx.mono I.le).elem (List.getElem?_eq_getElem hio)
      obtain rfl := rd_heard.1 hrd
      obtain ⟨v, h2, hA, hle, hw2, ids, rfl, hro, hf⟩ := toHeard_spec h1 xs[i]   I.wf
      obtain ⟨h3, e3, I3⟩ := I.step (by omega) (List.getElem?_eq_getElem hio) hle hw2 hro hf
      refine ⟨l, r, ha, Int.natCast_nonneg _, hlt, _, _, hld, _, _, _, hA, h.n, 0, rfl, Int.natCast_nonneg _, hlt, h3, e3, (i + 1, h3, _, _), by rw [wrap_i64 (by omega)] <;> rfl, rfl, I3, by dsimp only; omega, fun _ h => h, fun _ _ h => h⟩
    · have hi := I.hi
      have e : i = n := by omega
      subst e
      exact ⟨(h1, rows, idss), rfl, I⟩
  · refine vc_mp (by kernel_rfl : ((0 : Int) ≤ (↑n : Int) ∧ (↑n : Int) ≤ (↑n : Int) ∧ (↑n : Int) * (↑(24 : Nat) : Int) ≤ (140737488355328 : Int) ∧ ∃ (i : Nat × AHeap × List (List Value) × List (List Nat)), Value.slice a n c = Value.slice a n c ∧ Value.slice (some (Addr.mk (AHeap.n h) (0 : Nat) (some (2 : Nat)))) (Int.toNat (↑n : Int)) (Int.toNat (↑n : Int) + (1 : Nat)) = Value.slice (some (Addr.mk (AHeap.n h) (0 : Nat) (some (Sh.cells heardSh)))) n (n + (1 : Nat)) ∧ Value.int IntKind.i64 (0 : Int) = Value.int IntKind.i64 (↑(Prod.fst i) : Int) ∧ Prod.fst (Prod.snd i) = AHeap.push h (AObj.mk (List.replicate (Int.toNat (↑n : Int)) [Value.int IntKind.i64 (Int.ofNat (0 : Nat)), Value.string (ByteArray.mk (Array.mk []))]) (2 : Nat) true) ∧ ToI heardSh [Value.int IntKind.i64 (0 : Int), Value.string (ByteArray.mk (Array.mk []))] n h xs (Prod.fst i) (Prod.fst (Prod.snd i)) (Prod.fst (Prod.snd (Prod.snd i))) (Prod.snd (Prod.snd (Prod.snd i))) ∧ (∀ (j : AHeap × List (List Value) × List (List Nat)), ToI heardSh [Value.int IntKind.i64 (0 : Int), Value.string (ByteArray.mk (Array.mk []))] n h xs n (Prod.fst j) (Prod.fst (Prod.snd j)) (Prod.snd (Prod.snd j)) → AHeap.Le h (Prod.fst j) ∧ AHeap.wf (Prod.fst j) ∧ ∃ (ids : List Nat), Value.slice (some (Addr.mk (AHeap.n h) (0 : Nat) (some (Sh.cells heardSh)))) n (n + (1 : Nat)) = Value.slice (some (Addr.mk (AHeap.n h) (0 : Nat) (some (2 : Nat)))) n (n + (1 : Nat)) ∧ So (Prod.fst j) heardSh xs (Value.slice (some (Addr.mk (AHeap.n h) (0 : Nat) (some (2 : Nat)))) n (n + (1 : Nat))) ids ∧ Fresh (AHeap.n h) (AHeap.n (Prod.fst j)) ids) ∧ ∀ (v : Value) (h_1 : AHeap), False → AHeap.Le h h_1 ∧ AHeap.wf h_1 ∧ ∃ (ids : List Nat), v = Value.slice (some (Addr.mk (AHeap.n h) (0 : Nat) (some (2 : Nat)))) n (n + (1 : Nat)) ∧ So h_1 heardSh xs (Value.slice (some (Addr.mk (AHeap.n h) (0 : Nat) (some (2 : Nat)))) n (n + (1 : Nat))) ids ∧ Fresh (AHeap.n h) (AHeap.n h_1) ids) = _) ?_
    refine ⟨Int.natCast_nonneg _, Int.le_refl _, by omega, (0, _, _, _), rfl, rfl, rfl, rfl, ToI.start hw rfl, ?_, fun _ _ h => h.elim⟩
    rintro ⟨h1, rows, idss⟩ I
    obtain ⟨ids, h2, h3⟩ := ToI.finish I en (n + 1)
    exact ⟨I.le, I.wf, ids, rfl, h2, h3⟩
theorem eqHeard_spec (h : AHeap) (x y : heardSh.T) :
    ACall Try.prog 149 [.agg #[.int .i64 x.1, .string x.2], .agg #[.int .i64 y.1, .string y.2]] h (.bool (eqb x y)) h := by
  obtain ⟨x1, x2⟩ := x
  obtain ⟨y1, y2⟩ := y
  try dsimp only at *
  refine acall_out (acall_vc (fun _ => false) (fun _ => []) (fun _ => .none) mixed Try.func149 rfl rfl rfl (Nat.le_of_ble_eq_true rfl) (by refine vc_mp (by kernel_rfl : (True ∧ (True ∧ (True ∧ True) ∧ True) ∧ (True ∧ (True ∧ True) ∧ True) ∧ True ∧ True) = _) ?_; simp only [and_self]) ?_)
  refine vc_mp (by kernel_rfl : (bs (!decide (x1 = y1)) (Value.bool false = Value.bool (eqb (x1, x2) (y1, y2)) ∧ h = h) (bs (!decide (x2 = y2)) (Value.bool false = Value.bool (eqb (x1, x2) (y1, y2)) ∧ h = h) (Value.bool true = Value.bool (eqb (x1, x2) (y1, y2)) ∧ h = h))) = _) ?_
  refine bs_dn (fun e => ⟨congrArg _ (eqb_false fun e' => e (by cases e'; rfl)), rfl⟩) (fun e1 => ?_)
  refine bs_dn (fun e => ⟨congrArg _ (eqb_false fun e' => e (by cases e'; rfl)), rfl⟩) (fun e2 => ?_)
  exact ⟨congrArg _ (eqb_true (Prod.ext e1 e2)), rfl⟩
theorem eqHeardS_spec (h : AHeap) (a : Option Addr) (n c : Nat) (a' : Option Addr) (n' c' : Nat) (xs ys : List heardSh.T) (hx : Sl h heardSh xs (.slice a n c)) (hy : Sl h heardSh ys (.slice a' n' c')) (ok : xs.length ≤ 9223372036854775807) :
    ACall Try.prog 93 [.slice a n c, .slice a' n' c'] h (.bool (eqb xs ys)) h := by
  have en := hx.len
  have en' := hy.len
  have hn : xs.length ≤ 9223372036854775807 := ok
  refine acall_out (acall_vc (fun _ => false) (fun _ => [(0, 0, []), (1, 0, []), (2, 0, []), (4, 0, []), (5, 0, []), (6, 0, []), (3, 1, []), (7, 1, []), (8, 3, []), (9, 0, [])]) (fun _ => eqLp h a n c a' n' c' xs ys) mixed Try.func93 rfl rfl rfl (Nat.le_of_ble_eq_true rfl) ?_ ?_)
  · refine vc_mp (by kernel_rfl : (True ∧ (True ∧ (True ∧ True) ∧ True) ∧ (True ∧ (∀ (i : Nat), EqI xs ys i → bs (decide ((↑i : Int) < (↑n : Int))) (∃ (l : Nat), ∃ (r : Nat), a = some (Addr.mk l r (some (2 : Nat))) ∧ (0 : Int) ≤ (↑i : Int) ∧ (↑i : Int) < (↑n : Int) ∧ ∃ (l_1 : Nat), ∃ (r_1 : Nat), a' = some (Addr.mk l_1 r_1 (some (2 : Nat))) ∧ (0 : Int) ≤ (↑i : Int) ∧ (↑i : Int) < (↑n' : Int) ∧ ∃ (x : Int), ∃ (x_1 : ByteArray), AHeap.ld h l (r + Int.toNat (↑i : Int)) (0 : Nat) (2 : Nat) = some [Value.int IntKind.i64 x, Value.string x_1] ∧ ∃ (x_2 : Int), ∃ (x_3 : ByteArray), AHeap.ld h l_1 (r_1 + Int.toNat (↑i : Int)) (0 : Nat) (2 : Nat) = some [Value.int IntKind.i64 x_2, Value.string x_3] ∧ ∃ (x_4 : Bool), ∃ (h' : AHeap), ACall Try.prog (149 : Nat) [Value.agg (Array.mk [Value.int IntKind.i64 x, Value.string x_1]), Value.agg (Array.mk [Value.int IntKind.i64 x_2, Value.string x_3])] h (Value.bool x_4) h' ∧ bs (!x_4) (Value.bool false = Value.bool (eqb xs ys) ∧ h' = h) (∃ (j : Nat), Value.slice a n c = Value.slice a n c ∧ Value.slice a' n' c' = Value.slice a' n' c' ∧ Value.int IntKind.i64 (IntKind.wrap IntKind.i64 ((↑i : Int) + (1 : Int))) = Value.int IntKind.i64 (↑j : Int) ∧ h = h' ∧ EqI xs ys j ∧ List.length xs - j < List.length xs - i ∧ (∀ (k : Unit), xs = ys → xs = ys) ∧ ∀ (v : Value) (h_1 : AHeap), v = Value.bool (eqb xs ys) ∧ h_1 = h → v = Value.bool (eqb xs ys) ∧ h_1 = h)) (∃ (j : Unit), h = h ∧ xs = ys)) ∧ (True ∧ True ∧ True) ∧ (True ∧ (True ∧ True) ∧ True) ∧ True) ∧ True ∧ True) = _) ?_
    simp only [true_and, and_true]
    rintro (i : Nat) I
    have hl := I.len
    have hi := I.hi
    refine bs_d (fun hlt => ?_) (fun hge => ?_)
    · have hxi : i < xs.length := by omega
      have hyi : i < ys.length := by omega
      obtain ⟨l, r, row, ha, hin, hrd, hld⟩ := hx.elem (List.getElem?_eq_getElem hxi)
      obtain ⟨l', r', row', ha', hin', hrd', hld'⟩ := hy.elem (List.getElem?_eq_getElem hyi)
      obtain rfl := rd_heard.1 hrd
      obtain rfl := rd_heard.1 hrd'
      refine ⟨l, r, ha, Int.natCast_nonneg _, hlt, l', r', ha', Int.natCast_nonneg _, by omega, _, _, hld, _, _, hld', _, _, eqHeard_spec h xs[i] ys[i], bs_nb (fun hb => ?_) (fun hb => ?_)⟩
      · exact ⟨congrArg _ (eqb_false fun e => of_eqb_false hb (by subst e; rfl)), rfl⟩
      · exact ⟨i + 1, by rw [wrap_i64 (by omega)] <;> rfl, rfl, I.step hxi hyi (of_eqb hb), by omega, fun _ h => h, fun _ _ h => h⟩
    · have e : i = xs.length := by omega
      subst e
      exact ⟨(), I.all⟩
  · refine vc_mp (by kernel_rfl : (bs (!decide ((↑n : Int) = (↑n' : Int))) (Value.bool false = Value.bool (eqb xs ys) ∧ h = h) (∃ (i : Nat), Value.slice a n c = Value.slice a n c ∧ Value.slice a' n' c' = Value.slice a' n' c' ∧ Value.int IntKind.i64 (0 : Int) = Value.int IntKind.i64 (↑i : Int) ∧ h = h ∧ EqI xs ys i ∧ (∀ (j : Unit), xs = ys → Value.bool true = Value.bool (eqb xs ys) ∧ h = h) ∧ ∀ (v : Value) (h_1 : AHeap), v = Value.bool (eqb xs ys) ∧ h_1 = h → v = Value.bool (eqb xs ys) ∧ h_1 = h)) = _) ?_
    refine bs_dn (fun hne => ⟨congrArg _ (eqb_false fun e => hne (by rw [← en, ← en', e])), rfl⟩) (fun he => ?_)
    exact ⟨(0 : Nat), rfl, rfl, rfl, rfl, ⟨by omega, Nat.zero_le _, rfl⟩, fun j e => ⟨congrArg _ (eqb_true e), rfl⟩, fun _ _ h => h⟩
theorem szClient_spec (h : AHeap) (x : clientSh.T) (left : Int) (v1 : Value) (h1 : Sl h heardSh x.2.2.2.1 v1) (hl : 0 ≤ left ∧ left ≤ 1048576) (ok : clientSh.ok x) :
    ACall Try.prog 19 [.agg #[.int .i64 x.1, .int .i64 x.2.1, .bool x.2.2.1, v1, .string x.2.2.2.2], .int .i64 left] h (.int .i64 (clientSh.sz x left)) h := by
  obtain ⟨x1, x2, x3, x4, x5⟩ := x
  try dsimp only at *
  obtain ⟨a1, c1, rfl⟩ := h1.isSlice
  refine acall_out (acall_vc (fun _ => false) (fun _ => []) (fun _ => .none) mixed Try.func19 rfl rfl rfl (Nat.le_of_ble_eq_true rfl) (by refine vc_mp (by kernel_rfl : (True ∧ True ∧ (True ∧ (True ∧ True) ∧ True) ∧ True ∧ (True ∧ (True ∧ True) ∧ True) ∧ True ∧ True) = _) ?_; simp only [and_self]) ?_)
  refine vc_mp (by kernel_rfl : (∃ (x : Int), ∃ (h' : AHeap), ACall Try.prog (82 : Nat) [Value.slice a1 (List.length x4) c1, Value.int IntKind.i64 left] h (Value.int IntKind.i64 x) h' ∧ bs (decide (x < (0 : Int))) (Value.int IntKind.i64 (-1 : Int) = Value.int IntKind.i64 (Sh.sz clientSh (x1, x2, x3, x4, x5) left) ∧ h' = h) (bs (decide (IntKind.wrap IntKind.i64 (x - (↑(ByteArray.size x5) : Int)) < (0 : Int))) (Value.int IntKind.i64 (-1 : Int) = Value.int IntKind.i64 (Sh.sz clientSh (x1, x2, x3, x4, x5) left) ∧ h' = h) (Value.int IntKind.i64 (IntKind.wrap IntKind.i64 (x - (↑(ByteArray.size x5) : Int))) = Value.int IntKind.i64 (Sh.sz clientSh (x1, x2, x3, x4, x5) left) ∧ h' = h))) = _) ?_
  have b1 := (Sh.sl heardSh).sz_le x4 left (by omega)
  refine ⟨_, _, szHeardS_spec h a1 _ c1 _ left h1 (by omega) ok.2.2.2.1, bs_d (fun e1 => by refine ⟨congrArg _ (Eq.symm ?_), rfl⟩; exact sz_step rfl hl.1 (sz_step rfl hl.1 (sz_step rfl hl.1 (sz_stop e1)))) (fun e1 => ?_)⟩
  have o2 : (x5 : ByteArray).size ≤ 9223372036854775807 := ok.2.2.2.2
  rw [wrap_i64 (by omega)]
  refine bs_d (fun e2 => by refine ⟨congrArg _ (Eq.symm ?_), rfl⟩; exact sz_step rfl hl.1 (sz_step rfl hl.1 (sz_step rfl hl.1 (sz_step rfl (Int.not_lt.1 e1) (sz_strn e2))))) (fun e2 => ?_)
  refine ⟨congrArg _ (Eq.symm ?_), rfl⟩
  exact sz_step rfl hl.1 (sz_step rfl hl.1 (sz_step rfl hl.1 (sz_step rfl (Int.not_lt.1 e1) ((sz_str e2)))))
theorem toClient_spec (h : AHeap) (x : clientSh.T) (v1 : Value) (h1 : Sl h heardSh x.2.2.2.1 v1) (hw : h.wf) (ok : clientSh.small x) :
    ∃ v h', ACall Try.prog 22 [.agg #[.int .i64 x.1, .int .i64 x.2.1, .bool x.2.2.1, v1, .string x.2.2.2.2]] h v h' ∧ h.Le h' ∧ h'.wf ∧ ∃ w1 ids, v = .agg #[.int .i64 x.1, .int .i64 x.2.1, .bool x.2.2.1, w1, .string x.2.2.2.2] ∧ clientSh.ro h' x [.int .i64 x.1, .int .i64 x.2.1, .bool x.2.2.1, w1, .string x.2.2.2.2] ids ∧ Fresh h.n h'.n ids := by
  obtain ⟨x1, x2, x3, x4, x5⟩ := x
  try dsimp only at *
  obtain ⟨a1, c1, rfl⟩ := h1.isSlice
  refine acall_q fun Q HQ => ?_
  refine acall_vc (fun _ => false) (fun _ => []) (fun _ => .none) mixed Try.func22 rfl rfl rfl (Nat.le_of_ble_eq_true rfl) (by refine vc_mp (by kernel_rfl : (True ∧ True ∧ True ∧ True ∧ True ∧ True ∧ True ∧ True ∧ True) = _) ?_; simp only [and_self]) ?_
  refine vc_mp (by kernel_rfl : (∃ (a : Option Addr), ∃ (n : Nat), ∃ (c : Nat), ∃ (h' : AHeap), ACall Try.prog (84 : Nat) [Value.slice a1 (List.length x4) c1] h (Value.slice a n c) h' ∧ Q (Value.agg (Array.mk [Value.int IntKind.i64 x1, Value.int IntKind.i64 x2, Value.bool x3, Value.slice a n c, Value.string x5])) h') = _) ?_
  obtain ⟨u1, g1, A1, l1, W1, ids1, rfl, r1, f1⟩ := toHeardS_spec h a1 _ c1 _ hw h1 ok.2.2.2.1
  have L1 : h.Le g1 := l1
  refine ⟨_, _, _, _, A1, HQ _ _ ⟨L1, W1, _, [] ++ ([] ++ ([] ++ (ids1 ++ ([])))), rfl, ?_, ?_⟩⟩
  · exact ⟨[_], _, [], _, rfl, rfl, ⟨rfl, rfl⟩, [_], _, [], _, rfl, rfl, ⟨rfl, rfl⟩, [_], _, [], _, rfl, rfl, ⟨rfl, rfl⟩, [_], _, ids1, _, rfl, rfl, ro_sl.2 ⟨_, rfl, r1⟩, rfl, rfl⟩
  · exact (show Fresh h.n g1.n (ids1 ++ ([])) from .append l1.n (Nat.le_refl _) f1 .nil)
theorem eqClient_spec (h : AHeap) (x y : clientSh.T) (v1 : Value) (h1 : Sl h heardSh x.2.2.2.1 v1) (w1 : Value) (j1 : Sl h heardSh y.2.2.2.1 w1) (ok : clientSh.ok x) :
    ACall Try.prog 26 [.agg #[.int .i64 x.1, .int .i64 x.2.1, .bool x.2.2.1, v1, .string x.2.2.2.2], .agg #[.int .i64 y.1, .int .i64 y.2.1, .bool y.2.2.1, w1, .string y.2.2.2.2]] h (.bool (eqb x y)) h := by
  obtain ⟨x1, x2, x3, x4, x5⟩ := x
  obtain ⟨y1, y2, y3, y4, y5⟩ := y
  try dsimp only at *
  obtain ⟨a1, c1, rfl⟩ := h1.isSlice
  obtain ⟨ab1, cb1, rfl⟩ := j1.isSlice
  refine acall_out (acall_vc (fun _ => false) (fun _ => []) (fun _ => .none) mixed Try.func26 rfl rfl rfl (Nat.le_of_ble_eq_true rfl) (by refine vc_mp (by kernel_rfl : (True ∧ (True ∧ (True ∧ True) ∧ True) ∧ (True ∧ (True ∧ True) ∧ True) ∧ (True ∧ (True ∧ True) ∧ True) ∧ (True ∧ (True ∧ True) ∧ True) ∧ (True ∧ (True ∧ True) ∧ True) ∧ True ∧ True) = _) ?_; simp only [and_self]) ?_)
  refine vc_mp (by kernel_rfl : (bs (!decide (x1 = y1)) (Value.bool false = Value.bool (eqb (x1, x2, x3, x4, x5) (y1, y2, y3, y4, y5)) ∧ h = h) (bs (!decide (x2 = y2)) (Value.bool false = Value.bool (eqb (x1, x2, x3, x4, x5) (y1, y2, y3, y4, y5)) ∧ h = h) (bs (!decide (x3 = y3)) (Value.bool false = Value.bool (eqb (x1, x2, x3, x4, x5) (y1, y2, y3, y4, y5)) ∧ h = h) (∃ (x : Bool), ∃ (h' : AHeap), ACall Try.prog (93 : Nat) [Value.slice a1 (List.length x4) c1, Value.slice ab1 (List.length y4) cb1] h (Value.bool x) h' ∧ bs (!x) (Value.bool false = Value.bool (eqb (x1, x2, x3, x4, x5) (y1, y2, y3, y4, y5)) ∧ h' = h) (bs (!decide (x5 = y5)) (Value.bool false = Value.bool (eqb (x1, x2, x3, x4, x5) (y1, y2, y3, y4, y5)) ∧ h' = h) (Value.bool true = Value.bool (eqb (x1, x2, x3, x4, x5) (y1, y2, y3, y4, y5)) ∧ h' = h)))))) = _) ?_
  refine bs_dn (fun e => ⟨congrArg _ (eqb_false fun e' => e (by cases e'; rfl)), rfl⟩) (fun e1 => ?_)
  refine bs_dn (fun e => ⟨congrArg _ (eqb_false fun e' => e (by cases e'; rfl)), rfl⟩) (fun e2 => ?_)
  refine bs_dn (fun e => ⟨congrArg _ (eqb_false fun e' => e (by cases e'; rfl)), rfl⟩) (fun e3 => ?_)
  refine ⟨_, _, eqHeardS_spec h a1 _ c1 ab1 _ cb1 _ _ h1 j1 ok.2.2.2.1.1, bs_nb (fun e => ⟨congrArg _ (eqb_false fun e' => of_eqb_false e (by cases e'; rfl)), rfl⟩) (fun e4 => ?_)⟩
  refine bs_dn (fun e => ⟨congrArg _ (eqb_false fun e' => e (by cases e'; rfl)), rfl⟩) (fun e5 => ?_)
  exact ⟨congrArg _ (eqb_true (Prod.ext e1 (Prod.ext e2 (Prod.ext e3 (Prod.ext (of_eqb e4) e5))))), rfl⟩
theorem eqClientOut_spec (h : AHeap) (x y : clientOutSh.T) (v1 : Value) (h1 : Sl h heardSh x.1.2.2.2.1 v1) (w1 : Value) (j1 : Sl h heardSh y.1.2.2.2.1 w1) (ok : clientOutSh.ok x) :
    ACall Try.prog 25 [.agg #[.int .i64 x.1.1, .int .i64 x.1.2.1, .bool x.1.2.2.1, v1, .string x.1.2.2.2.2, .string x.2.1, .int .i64 x.2.2], .agg #[.int .i64 y.1.1, .int .i64 y.1.2.1, .bool y.1.2.2.1, w1, .string y.1.2.2.2.2, .string y.2.1, .int .i64 y.2.2]] h (.bool (eqb x y)) h := by
  obtain ⟨⟨x1, x2, x3, x4, x5⟩, x6, x7⟩ := x
  obtain ⟨⟨y1, y2, y3, y4, y5⟩, y6, y7⟩ := y
  try dsimp only at *
  obtain ⟨a1, c1, rfl⟩ := h1.isSlice
  obtain ⟨ab1, cb1, rfl⟩ := j1.isSlice
  refine acall_out (acall_vc (fun _ => false) (fun _ => []) (fun _ => .none) mixed Try.func25 rfl rfl rfl (Nat.le_of_ble_eq_true rfl) (by refine vc_mp (by kernel_rfl : (True ∧ (True ∧ (True ∧ True) ∧ True) ∧ (True ∧ (True ∧ True) ∧ True) ∧ (True ∧ (True ∧ True) ∧ True) ∧ True ∧ True) = _) ?_; simp only [and_self]) ?_)
  refine vc_mp (by kernel_rfl : (∃ (x : Bool), ∃ (h' : AHeap), ACall Try.prog (26 : Nat) [Value.agg (Array.mk [Value.int IntKind.i64 x1, Value.int IntKind.i64 x2, Value.bool x3, Value.slice a1 (List.length x4) c1, Value.string x5]), Value.agg (Array.mk [Value.int IntKind.i64 y1, Value.int IntKind.i64 y2, Value.bool y3, Value.slice ab1 (List.length y4) cb1, Value.string y5])] h (Value.bool x) h' ∧ bs (!x) (Value.bool false = Value.bool (eqb ((x1, x2, x3, x4, x5), x6, x7) ((y1, y2, y3, y4, y5), y6, y7)) ∧ h' = h) (bs (!decide (x6 = y6)) (Value.bool false = Value.bool (eqb ((x1, x2, x3, x4, x5), x6, x7) ((y1, y2, y3, y4, y5), y6, y7)) ∧ h' = h) (bs (!decide (x7 = y7)) (Value.bool false = Value.bool (eqb ((x1, x2, x3, x4, x5), x6, x7) ((y1, y2, y3, y4, y5), y6, y7)) ∧ h' = h) (Value.bool true = Value.bool (eqb ((x1, x2, x3, x4, x5), x6, x7) ((y1, y2, y3, y4, y5), y6, y7)) ∧ h' = h)))) = _) ?_
  refine ⟨_, _, eqClient_spec h (x1, x2, x3, x4, x5) (y1, y2, y3, y4, y5) _ h1 _ j1 ok.1, bs_nb (fun e => ⟨congrArg _ (eqb_false fun e' => of_eqb_false e (by cases e'; rfl)), rfl⟩) (fun e1 => ?_)⟩
  refine bs_dn (fun e => ⟨congrArg _ (eqb_false fun e' => e (by cases e'; rfl)), rfl⟩) (fun e2 => ?_)
  refine bs_dn (fun e => ⟨congrArg _ (eqb_false fun e' => e (by cases e'; rfl)), rfl⟩) (fun e3 => ?_)
  exact ⟨congrArg _ (eqb_true (Prod.ext (of_eqb e1) (Prod.ext e2 e3))), rfl⟩
end Go.Proofs.Ytanienlcebkijaa
