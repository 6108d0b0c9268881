/- Contracts: votes that are right, in the program. -/
import Derived.Test.YtanienlcebkijaaV10T2
namespace Go.Dat
open Go.Abs
def IdxRes (P : Nat → Prop) (n : Nat) (r : Int) : Prop := (r = -1 ∧ ∀ i, i < n → ¬ P i) ∨ ∃ i : Nat, i < n ∧ r = i ∧ P i ∧ ∀ j, j < i → ¬ P j
def SameV (x y : voteSh.T) : Prop := (show Int from x.1) = y.1 ∧ (show Int from x.2.1) = y.2.1 ∧ (show Int from x.2.2.1) = y.2.2.1 ∧ (show Int from x.2.2.2.2) = y.2.2.2.2
def VoteAt (xs : List voteSh.T) (y : voteSh.T) (i : Nat) : Prop := ∃ x : voteSh.T, xs[i]? = some x ∧ SameV x y
theorem VoteAt.iff {xs : List voteSh.T} {y x : voteSh.T} {i : Nat} (h : xs[i]? = some x) : VoteAt xs y i ↔ SameV x y := ⟨fun ⟨x', e, H⟩ => by rw [h] at e; cases e; exact H, fun H => ⟨x, h, H⟩⟩
def VotOk (k v q : Int) (op : ByteArray) (f : Int) : Prop := (k = 2 ∨ k = 3) ∧ InR 0 7 v ∧ InR 1 6 q ∧ op.size ≤ 120 ∧ InR 0 3 f
end Go.Dat
namespace Go.Proofs.Ytanienlcebkijaa
open Go.Abs Go.Dat
set_option maxRecDepth 100000
set_option maxHeartbeats 8000000
theorem voteIndex1_spec (h : AHeap) (lo : Nat) (k v q f : Int) (op : ByteArray) (k' v' q' f' : Int) (op' : ByteArray) (hd : h.ld lo 0 0 5 = some [.int .i64 k, .int .i64 v, .int .i64 q, .string op, .int .i64 f]) :
    ACall Try.prog 218 [.agg #[.int .i64 k', .int .i64 v', .int .i64 q', .string op', .int .i64 f'], .pointer (some ⟨lo, 0, some 0⟩)] h (.bool (tr (SameV (k', v', q', op', f') (k, v, q, op, f)))) h := by
  refine acall_out (acall_vc (fun _ => false) (fun _ => []) (fun _ => .none) mixed Try.func218 rfl rfl rfl (Nat.le_of_ble_eq_true rfl) (by refine vc_mp (by kernel_rfl : (True ∧ True ∧ True) = _) ?_; simp only [and_self]) ?_)
  refine vc_mp (by kernel_rfl : (∃ (x : Int), AHeap.ld h lo (0 : Nat) (0 : Nat) (1 : Nat) = some [Value.int IntKind.i64 x] ∧ bs (decide (k' = x)) (∃ (x : Int), AHeap.ld h lo (0 : Nat) (1 : Nat) (1 : Nat) = some [Value.int IntKind.i64 x] ∧ bs (decide (v' = x)) (∃ (x : Int), AHeap.ld h lo (0 : Nat) (2 : Nat) (1 : Nat) = some [Value.int IntKind.i64 x] ∧ bs (decide (q' = x)) (∃ (x : Int), AHeap.ld h lo (0 : Nat) (4 : Nat) (1 : Nat) = some [Value.int IntKind.i64 x] ∧ Value.bool (decide (f' = x)) = Value.bool (tr (SameV (k', v', q', op', f') (k, v, q, op, f))) ∧ h = h) (Value.bool false = Value.bool (tr (SameV (k', v', q', op', f') (k, v, q, op, f))) ∧ h = h)) (Value.bool false = Value.bool (tr (SameV (k', v', q', op', f') (k, v, q, op, f))) ∧ h = h)) (Value.bool false = Value.bool (tr (SameV (k', v', q', op', f') (k, v, q, op, f))) ∧ h = h)) = _) ?_
  refine ⟨_, ld_cells (k := 0) (m := 1) hd (by simp), bs_d (fun e1 => ?_) (fun e => ⟨congrArg _ (tr_false fun H => e H.1), rfl⟩)⟩
  refine ⟨_, ld_cells (k := 1) (m := 1) hd (by simp), bs_d (fun e2 => ?_) (fun e => ⟨congrArg _ (tr_false fun H => e H.2.1), rfl⟩)⟩
  refine ⟨_, ld_cells (k := 2) (m := 1) hd (by simp), bs_d (fun e3 => ?_) (fun e => ⟨congrArg _ (tr_false fun H => e H.2.2.1), rfl⟩)⟩
  refine ⟨_, ld_cells (k := 4) (m := 1) hd (by simp), congrArg _ ?_, rfl⟩
  rw [tr_dec]
  exact tr_congr ⟨fun H => ⟨e1, e2, e3, H⟩, fun H => H.2.2.2⟩
def cloV (lo : Nat) : Value := .func (.func 218) #[] #[.pointer (some ⟨lo, 0, some 0⟩)]
def ixvL (a : Option Addr) (n c lo : Nat) (h : AHeap) (xs : List voteSh.T) (y : voteSh.T) : LSpec where
  ι := Nat
  κ := Unit
  I := fun i => i ≤ n ∧ ∀ j, j < i → ¬ VoteAt xs y j
  μ := fun i => n - i
  head := fun i => ⟨[(0, .slice a n c), (1, cloV lo), (7, .int .i64 n), (8, .int .i64 i)], [], h⟩
  post := fun _ => ⟨[], [], h⟩
  R := fun _ _ => ∀ j, j < n → ¬ VoteAt xs y j
  ret := fun _ v h' => h' = h ∧ ∃ r : Int, v = .int .i64 r ∧ IdxRes (VoteAt xs y) n r
theorem indexVote_spec (h : AHeap) (a : Option Addr) (c lo : Nat) (xs : List voteSh.T) (k v q f : Int) (op : ByteArray) (hx : Sl h voteSh xs (.slice a xs.length c)) (hn : xs.length ≤ 9223372036854775807) (hd : h.ld lo 0 0 5 = some [.int .i64 k, .int .i64 v, .int .i64 q, .string op, .int .i64 f]) :
    ∃ r h', ACall Try.prog 217 [.slice a xs.length c, cloV lo] h r h' ∧ h' = h ∧ ∃ i : Int, r = .int .i64 i ∧ IdxRes (VoteAt xs (k, v, q, op, f)) xs.length i := by
  refine acall_q fun Q HQ => ?_
  refine acall_vc (fun _ => false) (fun _ => []) (fun _ => ixvL a xs.length c lo h xs (k, v, q, op, f)) mixed Try.func217 rfl rfl rfl (Nat.le_of_ble_eq_true rfl) ?_ ?_
  · refine vc_mp (by kernel_rfl : (True ∧ (True ∧ (∀ (i : Nat), (i ≤ List.length xs ∧ ∀ (j : Nat), j < i → ¬VoteAt xs (k, v, q, op, f) j) → bs (decide ((↑i : Int) < (↑(List.length xs) : Int))) (∃ (l : Nat), ∃ (r : Nat), a = some (Addr.mk l r (some (5 : Nat))) ∧ (0 : Int) ≤ (↑i : Int) ∧ (↑i : Int) < (↑(List.length xs) : Int) ∧ ∃ (x : Int), ∃ (x_1 : Int), ∃ (x_2 : Int), ∃ (x_3 : ByteArray), ∃ (x_4 : Int), AHeap.ld h l (r + Int.toNat (↑i : Int)) (0 : Nat) (5 : Nat) = some [Value.int IntKind.i64 x, Value.int IntKind.i64 x_1, Value.int IntKind.i64 x_2, Value.string x_3, Value.int IntKind.i64 x_4] ∧ ∃ (x_5 : Bool), ∃ (h' : AHeap), ACall Try.prog (218 : FuncId) [Value.agg (Array.mk [Value.int IntKind.i64 x, Value.int IntKind.i64 x_1, Value.int IntKind.i64 x_2, Value.string x_3, Value.int IntKind.i64 x_4]), Value.pointer (some (Addr.mk lo (0 : Nat) (some (0 : Nat))))] h (Value.bool x_5) h' ∧ bs x_5 (h' = h ∧ ∃ (r : Int), Value.int IntKind.i64 (↑i : Int) = Value.int IntKind.i64 r ∧ IdxRes (VoteAt xs (k, v, q, op, f)) (List.length xs) r) (∃ (j : Nat), Value.slice a (List.length xs) c = Value.slice a (List.length xs) c ∧ Value.func (Fn.func (218 : FuncId)) (Array.mk []) (Array.mk [Value.pointer (some (Addr.mk lo (0 : Nat) (some (0 : Nat))))]) = Value.func (Fn.func (218 : FuncId)) (Array.mk []) (Array.mk [Value.pointer (some (Addr.mk lo (0 : Nat) (some (0 : Nat))))]) ∧ Value.int IntKind.i64 (↑(List.length xs) : Int) = Value.int IntKind.i64 (↑(List.length xs) : Int) ∧ Value.int IntKind.i64 (IntKind.wrap IntKind.i64 ((↑i : Int) + (1 : Int))) = Value.int IntKind.i64 (↑j : Int) ∧ h = h' ∧ (j ≤ List.length xs ∧ ∀ (j_1 : Nat), j_1 < j → ¬VoteAt xs (k, v, q, op, f) j_1) ∧ List.length xs - j < List.length xs - i ∧ (∀ (k_1 : Unit), (∀ (j : Nat), j < List.length xs → ¬VoteAt xs (k, v, q, op, f) j) → ∀ (j : Nat), j < List.length xs → ¬VoteAt xs (k, v, q, op, f) j) ∧ ∀ (v_1 : Value) (h_1 : AHeap), (h_1 = h ∧ ∃ (r : Int), v_1 = Value.int IntKind.i64 r ∧ IdxRes (VoteAt xs (k, v, q, op, f)) (List.length xs) r) → h_1 = h ∧ ∃ (r : Int), v_1 = Value.int IntKind.i64 r ∧ IdxRes (VoteAt xs (k, v, q, op, f)) (List.length xs) r)) (∃ (j : Unit), h = h ∧ ∀ (j : Nat), j < List.length xs → ¬VoteAt xs (k, v, q, op, f) j)) ∧ True ∧ (True ∧ True) ∧ (True ∧ True ∧ (True ∧ True) ∧ True) ∧ True) ∧ True ∧ True) = _) ?_
    simp only [true_and, and_true]
    rintro (i : Nat) ⟨hi, hall⟩
    refine bs_d (fun hlt => ?_) (fun hge => ⟨(), fun j hj => hall j (by omega)⟩)
    have hio : i < xs.length := by omega
    obtain ⟨⟨k', v', q', op', f'⟩, hat⟩ : ∃ y : Int × Int × Int × ByteArray × Int, xs[i]? = some y := ⟨_, List.getElem?_eq_getElem hio⟩
    obtain ⟨l, r, row, ha, _, hrd, hld⟩ := hx.elem hat
    obtain rfl := rd_vote.1 hrd
    dsimp only at hld
    refine ⟨l, r, ha, Int.natCast_nonneg _, hlt, _, _, _, _, _, hld, _, _, voteIndex1_spec h lo k v q f op k' v' q' f' op' hd, bs_b (fun e => ?_) (fun e => ?_)⟩
    · exact ⟨rfl, _, rfl, .inr ⟨i, hio, rfl, (VoteAt.iff hat).2 (of_tr e), hall⟩⟩
    · exact ⟨i + 1, by rw [wrap_i64 (by omega)]; rfl, rfl, ⟨by omega, upto_step hall (fun H => of_trn e ((VoteAt.iff hat).1 H))⟩, by omega, fun _ h => h, fun _ _ h => h⟩
  refine vc_mp (by kernel_rfl : (∃ (i : Nat), Value.slice a (List.length xs) c = Value.slice a (List.length xs) c ∧ Value.func (Fn.func (218 : FuncId)) (Array.mk []) (Array.mk [Value.pointer (some (Addr.mk lo (0 : Nat) (some (0 : Nat))))]) = Value.func (Fn.func (218 : FuncId)) (Array.mk []) (Array.mk [Value.pointer (some (Addr.mk lo (0 : Nat) (some (0 : Nat))))]) ∧ Value.int IntKind.i64 (↑(List.length xs) : Int) = Value.int IntKind.i64 (↑(List.length xs) : Int) ∧ Value.int IntKind.i64 (0 : Int) = Value.int IntKind.i64 (↑i : Int) ∧ h = h ∧ (i ≤ List.length xs ∧ ∀ (j : Nat), j < i → ¬VoteAt xs (k, v, q, op, f) j) ∧ (∀ (j : Unit), (∀ (j : Nat), j < List.length xs → ¬VoteAt xs (k, v, q, op, f) j) → Q (Value.int IntKind.i64 (-1 : Int)) h) ∧ ∀ (v_1 : Value) (h_1 : AHeap), (h_1 = h ∧ ∃ (r : Int), v_1 = Value.int IntKind.i64 r ∧ IdxRes (VoteAt xs (k, v, q, op, f)) (List.length xs) r) → Q v_1 h_1) = _) ?_
  exact ⟨(0 : Nat), rfl, rfl, rfl, rfl, rfl, ⟨Nat.zero_le _, fun j hj => absurd hj (Nat.not_lt_zero _)⟩, fun _ hall => HQ _ _ ⟨rfl, _, rfl, .inl ⟨rfl, hall⟩⟩, fun _ _ H => HQ _ _ H⟩
theorem voteIndex_spec (h : AHeap) (hw : h.wf) (a : Option Addr) (c : Nat) (xs : List voteSh.T) (k v q f : Int) (op : ByteArray) (hx : Sl h voteSh xs (.slice a xs.length c)) (hn : xs.length ≤ 9223372036854775807) :
    ∃ r h', ACall Try.prog 206 [.slice a xs.length c, .agg #[.int .i64 k, .int .i64 v, .int .i64 q, .string op, .int .i64 f]] h r h' ∧ h.Le h' ∧ h'.wf ∧ ∃ i : Int, r = .int .i64 i ∧ IdxRes (VoteAt xs (k, v, q, op, f)) xs.length i := by
  refine acall_q fun Q HQ => ?_
  refine acall_vc (fun t => t == 3) (fun _ => []) (fun _ => .none) mixed Try.func206 rfl rfl rfl (Nat.le_of_ble_eq_true rfl) (by refine vc_mp (by kernel_rfl : (True ∧ True ∧ True) = _) ?_; simp only [and_self]) ?_
  refine vc_mp (by kernel_rfl : (∃ (x : Int), ∃ (h' : AHeap), ACall Try.prog (217 : Nat) [Value.slice a (List.length xs) c, Value.func (Fn.func (218 : Nat)) (Array.mk []) (Array.mk [Value.pointer (some (Addr.mk (AHeap.n h) (0 : Nat) (some (0 : Nat))))])] (AHeap.push h (AObj.mk [[Value.int IntKind.i64 k, Value.int IntKind.i64 v, Value.int IntKind.i64 q, Value.string op, Value.int IntKind.i64 f]] (5 : Nat) true)) (Value.int IntKind.i64 x) h' ∧ Q (Value.int IntKind.i64 x) h') = _) ?_
  have wp := hw.push ⟨[[.int .i64 k, .int .i64 v, .int .i64 q, .string op, .int .i64 f]], 5, true⟩
  have lp := AHeap.Le.push hw ⟨[[.int .i64 k, .int .i64 v, .int .i64 q, .string op, .int .i64 f]], 5, true⟩
  obtain ⟨_, _, A, rfl, i, rfl, hi⟩ := indexVote_spec _ a c h.n xs k v q f op (hx.mono lp) hn (by rw [AHeap.ld, AHeap.get_push_eq]; rfl)
  exact ⟨_, _, A, HQ _ _ ⟨lp, wp, i, rfl, hi⟩⟩
theorem isVote_spec (h : AHeap) (k v q f : Int) (op : ByteArray) : ACall Try.prog 205 [.agg #[.int .i64 k, .int .i64 v, .int .i64 q, .string op, .int .i64 f]] h (.bool (tr (VotOk k v q op f))) h := by
  refine acall_out (acall_vc (fun _ => false) (fun _ => []) (fun _ => .none) mixed Try.func205 rfl rfl rfl (Nat.le_of_ble_eq_true rfl) (by refine vc_mp (by kernel_rfl : (True ∧ True ∧ True) = _) ?_; simp only [and_self]) ?_)
  refine vc_mp (by kernel_rfl : (bs (decide (k = (2 : Int))) (∃ (x : Bool), ∃ (h' : AHeap), ACall Try.prog (153 : Nat) [Value.int IntKind.i64 v, Value.int IntKind.i64 (0 : Int)] h (Value.bool x) h' ∧ bs x (∃ (x : Bool), ∃ (h'_1 : AHeap), ACall Try.prog (154 : Nat) [Value.int IntKind.i64 q] h' (Value.bool x) h'_1 ∧ bs x (∃ (x : Bool), ∃ (h' : AHeap), ACall Try.prog (111 : Nat) [Value.string op] h'_1 (Value.bool x) h' ∧ bs x (∃ (x : Bool), ∃ (h'_2 : AHeap), ACall Try.prog (70 : Nat) [Value.int IntKind.i64 f] h' (Value.bool x) h'_2 ∧ Value.bool x = Value.bool (tr (VotOk k v q op f)) ∧ h'_2 = h) (Value.bool false = Value.bool (tr (VotOk k v q op f)) ∧ h' = h)) (Value.bool false = Value.bool (tr (VotOk k v q op f)) ∧ h'_1 = h)) (Value.bool false = Value.bool (tr (VotOk k v q op f)) ∧ h' = h)) (bs (decide (k = (3 : Int))) (∃ (x : Bool), ∃ (h' : AHeap), ACall Try.prog (153 : Nat) [Value.int IntKind.i64 v, Value.int IntKind.i64 (0 : Int)] h (Value.bool x) h' ∧ bs x (∃ (x : Bool), ∃ (h'_1 : AHeap), ACall Try.prog (154 : Nat) [Value.int IntKind.i64 q] h' (Value.bool x) h'_1 ∧ bs x (∃ (x : Bool), ∃ (h' : AHeap), ACall Try.prog (111 : Nat) [Value.string op] h'_1 (Value.bool x) h' ∧ bs x (∃ (x : Bool), ∃ (h'_2 : AHeap), ACall Try.prog (70 : Nat) [Value.int IntKind.i64 f] h' (Value.bool x) h'_2 ∧ Value.bool x = Value.bool (tr (VotOk k v q op f)) ∧ h'_2 = h) (Value.bool false = Value.bool (tr (VotOk k v q op f)) ∧ h' = h)) (Value.bool false = Value.bool (tr (VotOk k v q op f)) ∧ h'_1 = h)) (Value.bool false = Value.bool (tr (VotOk k v q op f)) ∧ h' = h)) (Value.bool false = Value.bool (tr (VotOk k v q op f)) ∧ h = h))) = _) ?_
  refine bs_d (fun hk => ?_) (fun hk1 => bs_d (fun hk => ?_) (fun hk2 => ⟨congrArg _ (tr_false fun H => by have := H.1; omega), rfl⟩))
  iterate 2
    have hk' : k = 2 ∨ k = 3 := by omega
    refine ⟨_, _, isView_spec _ _ _, bs_b (fun e1 => ?_) (fun e => ⟨congrArg _ (tr_false fun H => of_trn e H.2.1), rfl⟩)⟩
    refine ⟨_, _, isSeq_spec _ _, bs_b (fun e2 => ?_) (fun e => ⟨congrArg _ (tr_false fun H => of_trn e H.2.2.1), rfl⟩)⟩
    refine ⟨_, _, isOp_spec _ _, bs_b (fun e3 => ?_) (fun e => ⟨congrArg _ (tr_false fun H => of_trn e H.2.2.2.1), rfl⟩)⟩
    refine ⟨_, _, isReplica_spec _ _, congrArg _ ?_, rfl⟩
    rw [inr_tr]
    exact tr_congr ⟨fun H => ⟨hk', of_tr e1, of_tr e2, of_tr e3, H⟩, fun H => H.2.2.2.2⟩
theorem l11Vote_spec (h : AHeap) (k v q f : Int) (op : ByteArray) : ACall Try.prog 175 [.agg #[.int .i64 k, .int .i64 v, .int .i64 q, .string op, .int .i64 f]] h (.bool (tr (VotOk k v q op f))) h := by
  refine acall_out (acall_vc (fun _ => false) (fun _ => []) (fun _ => .none) mixed Try.func175 rfl rfl rfl (Nat.le_of_ble_eq_true rfl) (by refine vc_mp (by kernel_rfl : (True ∧ True ∧ True) = _) ?_; simp only [and_self]) ?_)
  refine vc_mp (by kernel_rfl : (bs (decide (k = (2 : Int))) (∃ (x : Bool), ∃ (h' : AHeap), ACall Try.prog (104 : Nat) [Value.int IntKind.i64 v] h (Value.bool x) h' ∧ bs x (∃ (x : Bool), ∃ (h'_1 : AHeap), ACall Try.prog (105 : Nat) [Value.int IntKind.i64 q] h' (Value.bool x) h'_1 ∧ bs x (∃ (x : Bool), ∃ (h' : AHeap), ACall Try.prog (45 : Nat) [Value.string op] h'_1 (Value.bool x) h' ∧ bs x (∃ (x : Bool), ∃ (h'_2 : AHeap), ACall Try.prog (73 : Nat) [Value.int IntKind.i64 f] h' (Value.bool x) h'_2 ∧ Value.bool x = Value.bool (tr (VotOk k v q op f)) ∧ h'_2 = h) (Value.bool false = Value.bool (tr (VotOk k v q op f)) ∧ h' = h)) (Value.bool false = Value.bool (tr (VotOk k v q op f)) ∧ h'_1 = h)) (Value.bool false = Value.bool (tr (VotOk k v q op f)) ∧ h' = h)) (bs (decide (k = (3 : Int))) (∃ (x : Bool), ∃ (h' : AHeap), ACall Try.prog (104 : Nat) [Value.int IntKind.i64 v] h (Value.bool x) h' ∧ bs x (∃ (x : Bool), ∃ (h'_1 : AHeap), ACall Try.prog (105 : Nat) [Value.int IntKind.i64 q] h' (Value.bool x) h'_1 ∧ bs x (∃ (x : Bool), ∃ (h' : AHeap), ACall Try.prog (45 : Nat) [Value.string op] h'_1 (Value.bool x) h' ∧ bs x (∃ (x : Bool), ∃ (h'_2 : AHeap), ACall Try.prog (73 : Nat) [Value.int IntKind.i64 f] h' (Value.bool x) h'_2 ∧ Value.bool x = Value.bool (tr (VotOk k v q op f)) ∧ h'_2 = h) (Value.bool false = Value.bool (tr (VotOk k v q op f)) ∧ h' = h)) (Value.bool false = Value.bool (tr (VotOk k v q op f)) ∧ h'_1 = h)) (Value.bool false = Value.bool (tr (VotOk k v q op f)) ∧ h' = h)) (Value.bool false = Value.bool (tr (VotOk k v q op f)) ∧ h = h))) = _) ?_
  refine bs_d (fun hk => ?_) (fun hk1 => bs_d (fun hk => ?_) (fun hk2 => ⟨congrArg _ (tr_false fun H => by have := H.1; omega), rfl⟩))
  iterate 2
    have hk' : k = 2 ∨ k = 3 := by omega
    refine ⟨_, _, l10View_spec _ _, bs_b (fun e1 => ?_) (fun e => ⟨congrArg _ (tr_false fun H => of_trn e H.2.1), rfl⟩)⟩
    refine ⟨_, _, l10Seq_spec _ _, bs_b (fun e2 => ?_) (fun e => ⟨congrArg _ (tr_false fun H => of_trn e H.2.2.1), rfl⟩)⟩
    refine ⟨_, _, opRight_spec _ _, bs_b (fun e3 => ?_) (fun e => ⟨congrArg _ (tr_false fun H => of_trn e H.2.2.2.1), rfl⟩)⟩
    refine ⟨_, _, l09Who_spec _ _, congrArg _ ?_, rfl⟩
    rw [inr_tr]
    exact tr_congr ⟨fun H => ⟨hk', of_tr e1, of_tr e2, of_tr e3, H⟩, fun H => H.2.2.2.2⟩
end Go.Proofs.Ytanienlcebkijaa
