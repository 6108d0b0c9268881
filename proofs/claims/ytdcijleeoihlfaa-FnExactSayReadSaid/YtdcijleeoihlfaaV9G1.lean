/- Contracts of the data functions of laws. Written by gen.py. -/
import Derived.Test.YtdcijleeoihlfaaV9G0
namespace Go.Proofs.Ytdcijleeoihlfaa
open Go.Abs Go.Dat
set_option maxRecDepth 100000
set_option maxHeartbeats 4000000
theorem eqInt64S_spec (h : AHeap) (a : Option Addr) (n c : Nat) (a' : Option Addr) (n' c' : Nat) (xs ys : List (Sh.T Sh.int)) (hx : Sl h Sh.int xs (.slice a n c)) (hy : Sl h Sh.int ys (.slice a' n' c')) (hn : xs.length ≤ 9223372036854775807) :
    ACall Try.prog 189 [.slice a n c, .slice a' n' c'] h (.bool (eqb xs ys)) h := by
  have en := hx.len
  have en' := hy.len
  refine acall_out (acall_vc (fun _ => false) (fun _ => [(0, 0, []), (1, 0, []), (2, 0, []), (4, 0, []), (5, 0, []), (6, 0, []), (3, 1, []), (7, 1, []), (8, 0, [])]) (fun _ => eqLp h a n c a' n' c' xs ys) mixed Try.func189 rfl rfl rfl (Nat.le_of_ble_eq_true rfl) ?_ ?_)
  · refine vc_mp (by kernel_rfl : (True ∧ (True ∧ (True ∧ True) ∧ True) ∧ (True ∧ (∀ (i : Nat), EqI xs ys i → bs (decide ((↑i : Int) < (↑n : Int))) (∃ (l : Nat), ∃ (r : Nat), a = some (Addr.mk l r (some (1 : Nat))) ∧ (0 : Int) ≤ (↑i : Int) ∧ (↑i : Int) < (↑n : Int) ∧ ∃ (l_1 : Nat), ∃ (r_1 : Nat), a' = some (Addr.mk l_1 r_1 (some (1 : Nat))) ∧ (0 : Int) ≤ (↑i : Int) ∧ (↑i : Int) < (↑n' : Int) ∧ ∃ (x : Int), AHeap.ld h l (r + Int.toNat (↑i : Int)) (0 : Nat) (1 : Nat) = some [Value.int IntKind.i64 x] ∧ ∃ (x_1 : Int), AHeap.ld h l_1 (r_1 + Int.toNat (↑i : Int)) (0 : Nat) (1 : Nat) = some [Value.int IntKind.i64 x_1] ∧ bs (!decide (x = x_1)) (Value.bool false = Value.bool (eqb xs ys) ∧ h = h) (∃ (j : Nat), Value.slice a n c = Value.slice a n c ∧ Value.slice a' n' c' = Value.slice a' n' c' ∧ Value.int IntKind.i64 (IntKind.wrap IntKind.i64 ((↑i : Int) + (1 : Int))) = Value.int IntKind.i64 (↑j : Int) ∧ h = h ∧ EqI xs ys j ∧ List.length xs - j < List.length xs - i ∧ (∀ (k : Unit), xs = ys → xs = ys) ∧ ∀ (v : Value) (h_1 : AHeap), v = Value.bool (eqb xs ys) ∧ h_1 = h → v = Value.bool (eqb xs ys) ∧ h_1 = h)) (∃ (j : Unit), h = h ∧ xs = ys)) ∧ (True ∧ True ∧ True) ∧ (True ∧ (True ∧ True) ∧ True) ∧ True) ∧ True ∧ True) = _) ?_
    simp only [true_and, and_true]
    rintro (i : Nat) I
    have hl := I.len
    have hi := I.hi
    refine bs_d (fun hlt => ?_) (fun hge => ?_)
    · have hxi : i < xs.length := by omega
      have hyi : i < ys.length := by omega
      obtain ⟨l, r, row, ha, hin, hrd, hld⟩ := hx.elem (List.getElem?_eq_getElem hxi)
      obtain ⟨l', r', row', ha', hin', hrd', hld'⟩ := hy.elem (List.getElem?_eq_getElem hyi)
      obtain rfl : row = [.int .i64 xs[i]] := hrd
      obtain rfl : row' = [.int .i64 ys[i]] := hrd'
      refine ⟨l, r, ha, Int.natCast_nonneg _, hlt, l', r', ha', Int.natCast_nonneg _, by omega, _, hld, _, hld', bs_dn (fun hb => ?_) (fun hb => ?_)⟩
      · exact congrArg _ (eqb_false fun e => hb (by subst e; rfl))
      · exact ⟨i + 1, by rw [wrap_i64 (by omega)] <;> rfl, I.step hxi hyi hb, by omega, fun _ h => h, fun _ _ h => h⟩
    · have e : i = xs.length := by omega
      subst e
      exact ⟨(), I.all⟩
  · refine vc_mp (by kernel_rfl : (bs (!decide ((↑n : Int) = (↑n' : Int))) (Value.bool false = Value.bool (eqb xs ys) ∧ h = h) (∃ (i : Nat), Value.slice a n c = Value.slice a n c ∧ Value.slice a' n' c' = Value.slice a' n' c' ∧ Value.int IntKind.i64 (0 : Int) = Value.int IntKind.i64 (↑i : Int) ∧ h = h ∧ EqI xs ys i ∧ (∀ (j : Unit), xs = ys → Value.bool true = Value.bool (eqb xs ys) ∧ h = h) ∧ ∀ (v : Value) (h_1 : AHeap), v = Value.bool (eqb xs ys) ∧ h_1 = h → v = Value.bool (eqb xs ys) ∧ h_1 = h)) = _) ?_
    refine bs_dn (fun hne => ⟨congrArg _ (eqb_false fun e => hne (by rw [← en, ← en', e])), rfl⟩) (fun he => ?_)
    exact ⟨(0 : Nat), rfl, rfl, rfl, rfl, ⟨by omega, Nat.zero_le _, rfl⟩, fun j e => ⟨congrArg _ (eqb_true e), rfl⟩, fun _ _ h => h⟩
theorem eqProof_spec (h : AHeap) (x y : proofSh.T) (v1 : Value) (h1 : Sl h Sh.int x.2.2.2 v1) (w1 : Value) (j1 : Sl h Sh.int y.2.2.2 w1) (ok : proofSh.ok x) :
    ACall Try.prog 178 [.agg #[.int .i64 x.1, .int .i64 x.2.1, .string x.2.2.1, v1], .agg #[.int .i64 y.1, .int .i64 y.2.1, .string y.2.2.1, w1]] h (.bool (eqb x y)) h := by
  obtain ⟨x1, x2, x3, x4⟩ := x
  obtain ⟨y1, y2, y3, y4⟩ := y
  try dsimp only at *
  obtain ⟨a1, c1, rfl⟩ := h1.isSlice
  obtain ⟨ab1, cb1, rfl⟩ := j1.isSlice
  refine acall_out (acall_vc (fun _ => false) (fun _ => []) (fun _ => .none) mixed Try.func178 rfl rfl rfl (Nat.le_of_ble_eq_true rfl) (by refine vc_mp (by kernel_rfl : (True ∧ (True ∧ (True ∧ True) ∧ True) ∧ (True ∧ (True ∧ True) ∧ True) ∧ (True ∧ (True ∧ True) ∧ True) ∧ (True ∧ (True ∧ True) ∧ True) ∧ True ∧ True) = _) ?_; simp only [and_self]) ?_)
  refine vc_mp (by kernel_rfl : (bs (!decide (x1 = y1)) (Value.bool false = Value.bool (eqb (x1, x2, x3, x4) (y1, y2, y3, y4)) ∧ h = h) (bs (!decide (x2 = y2)) (Value.bool false = Value.bool (eqb (x1, x2, x3, x4) (y1, y2, y3, y4)) ∧ h = h) (bs (!decide (x3 = y3)) (Value.bool false = Value.bool (eqb (x1, x2, x3, x4) (y1, y2, y3, y4)) ∧ h = h) (∃ (x : Bool), ∃ (h' : AHeap), ACall Try.prog (189 : Nat) [Value.slice a1 (List.length x4) c1, Value.slice ab1 (List.length y4) cb1] h (Value.bool x) h' ∧ bs (!x) (Value.bool false = Value.bool (eqb (x1, x2, x3, x4) (y1, y2, y3, y4)) ∧ h' = h) (Value.bool true = Value.bool (eqb (x1, x2, x3, x4) (y1, y2, y3, y4)) ∧ h' = h))))) = _) ?_
  refine bs_dn (fun e => ⟨congrArg _ (eqb_false fun e' => e (by cases e'; rfl)), rfl⟩) (fun e1 => ?_)
  refine bs_dn (fun e => ⟨congrArg _ (eqb_false fun e' => e (by cases e'; rfl)), rfl⟩) (fun e2 => ?_)
  refine bs_dn (fun e => ⟨congrArg _ (eqb_false fun e' => e (by cases e'; rfl)), rfl⟩) (fun e3 => ?_)
  refine ⟨_, _, eqInt64S_spec h a1 _ c1 ab1 _ cb1 _ _ h1 j1 ok.2.2.2.1, bs_nb (fun e => ⟨congrArg _ (eqb_false fun e' => of_eqb_false e (by cases e'; rfl)), rfl⟩) (fun e4 => ?_)⟩
  exact ⟨congrArg _ (eqb_true (Prod.ext e1 (Prod.ext e2 (Prod.ext e3 (of_eqb e4))))), rfl⟩
theorem eqProofS_spec (h : AHeap) (a : Option Addr) (n c : Nat) (a' : Option Addr) (n' c' : Nat) (xs ys : List proofSh.T) (hx : Sl h proofSh xs (.slice a n c)) (hy : Sl h proofSh ys (.slice a' n' c')) (ok : (Sh.sl proofSh).ok xs) :
    ACall Try.prog 153 [.slice a n c, .slice a' n' c'] h (.bool (eqb xs ys)) h := by
  have en := hx.len
  have en' := hy.len
  have hn : xs.length ≤ 9223372036854775807 := ok.1
  refine acall_out (acall_vc (fun _ => false) (fun _ => [(0, 0, []), (1, 0, []), (2, 0, []), (4, 0, []), (5, 0, []), (6, 0, []), (3, 1, []), (7, 1, []), (8, 3, []), (9, 0, [])]) (fun _ => eqLp h a n c a' n' c' xs ys) mixed Try.func153 rfl rfl rfl (Nat.le_of_ble_eq_true rfl) ?_ ?_)
  · refine vc_mp (by kernel_rfl : (True ∧ (True ∧ (True ∧ True) ∧ True) ∧ (True ∧ (∀ (i : Nat), EqI xs ys i → bs (decide ((↑i : Int) < (↑n : Int))) (∃ (l : Nat), ∃ (r : Nat), a = some (Addr.mk l r (some (4 : Nat))) ∧ (0 : Int) ≤ (↑i : Int) ∧ (↑i : Int) < (↑n : Int) ∧ ∃ (l_1 : Nat), ∃ (r_1 : Nat), a' = some (Addr.mk l_1 r_1 (some (4 : Nat))) ∧ (0 : Int) ≤ (↑i : Int) ∧ (↑i : Int) < (↑n' : Int) ∧ ∃ (x : Int), ∃ (x_1 : Int), ∃ (x_2 : ByteArray), ∃ (a_2 : Option Addr), ∃ (n_1 : Nat), ∃ (c_1 : Nat), AHeap.ld h l (r + Int.toNat (↑i : Int)) (0 : Nat) (4 : Nat) = some [Value.int IntKind.i64 x, Value.int IntKind.i64 x_1, Value.string x_2, Value.slice a_2 n_1 c_1] ∧ ∃ (x_3 : Int), ∃ (x_4 : Int), ∃ (x_5 : ByteArray), ∃ (a_3 : Option Addr), ∃ (n_2 : Nat), ∃ (c_2 : Nat), AHeap.ld h l_1 (r_1 + Int.toNat (↑i : Int)) (0 : Nat) (4 : Nat) = some [Value.int IntKind.i64 x_3, Value.int IntKind.i64 x_4, Value.string x_5, Value.slice a_3 n_2 c_2] ∧ ∃ (x_6 : Bool), ∃ (h' : AHeap), ACall Try.prog (178 : Nat) [Value.agg (Array.mk [Value.int IntKind.i64 x, Value.int IntKind.i64 x_1, Value.string x_2, Value.slice a_2 n_1 c_1]), Value.agg (Array.mk [Value.int IntKind.i64 x_3, Value.int IntKind.i64 x_4, Value.string x_5, Value.slice a_3 n_2 c_2])] h (Value.bool x_6) h' ∧ bs (!x_6) (Value.bool false = Value.bool (eqb xs ys) ∧ h' = h) (∃ (j : Nat), Value.slice a n c = Value.slice a n c ∧ Value.slice a' n' c' = Value.slice a' n' c' ∧ Value.int IntKind.i64 (IntKind.wrap IntKind.i64 ((↑i : Int) + (1 : Int))) = Value.int IntKind.i64 (↑j : Int) ∧ h = h' ∧ EqI xs ys j ∧ List.length xs - j < List.length xs - i ∧ (∀ (k : Unit), xs = ys → xs = ys) ∧ ∀ (v : Value) (h_1 : AHeap), v = Value.bool (eqb xs ys) ∧ h_1 = h → v = Value.bool (eqb xs ys) ∧ h_1 = h)) (∃ (j : Unit), h = h ∧ xs = ys)) ∧ (True ∧ True ∧ True) ∧ (True ∧ (True ∧ True) ∧ True) ∧ True) ∧ True ∧ True) = _) ?_
    simp only [true_and, and_true]
    rintro (i : Nat) I
    have hl := I.len
    have hi := I.hi
    refine bs_d (fun hlt => ?_) (fun hge => ?_)
    · have hxi : i < xs.length := by omega
      have hyi : i < ys.length := by omega
      obtain ⟨l, r, row, ha, hin, hrd, hld⟩ := hx.elem (List.getElem?_eq_getElem hxi)
      obtain ⟨l', r', row', ha', hin', hrd', hld'⟩ := hy.elem (List.getElem?_eq_getElem hyi)
      obtain ⟨v1, rfl, k1⟩ := rd_proof.1 hrd
      obtain ⟨w1, rfl, kk1⟩ := rd_proof.1 hrd'
      obtain ⟨a1, c1, rfl⟩ := k1.isSlice
      obtain ⟨b1, d1, rfl⟩ := kk1.isSlice
      refine ⟨l, r, ha, Int.natCast_nonneg _, hlt, l', r', ha', Int.natCast_nonneg _, by omega, _, _, _, _, _, _, hld, _, _, _, _, _, _, hld', _, _, eqProof_spec h xs[i] ys[i] _ k1 _ kk1 (ok.2 _ (List.getElem_mem hxi)), bs_nb (fun hb => ?_) (fun hb => ?_)⟩
      · exact ⟨congrArg _ (eqb_false fun e => of_eqb_false hb (by subst e; rfl)), rfl⟩
      · exact ⟨i + 1, by rw [wrap_i64 (by omega)] <;> rfl, rfl, I.step hxi hyi (of_eqb hb), by omega, fun _ h => h, fun _ _ h => h⟩
    · have e : i = xs.length := by omega
      subst e
      exact ⟨(), I.all⟩
  · refine vc_mp (by kernel_rfl : (bs (!decide ((↑n : Int) = (↑n' : Int))) (Value.bool false = Value.bool (eqb xs ys) ∧ h = h) (∃ (i : Nat), Value.slice a n c = Value.slice a n c ∧ Value.slice a' n' c' = Value.slice a' n' c' ∧ Value.int IntKind.i64 (0 : Int) = Value.int IntKind.i64 (↑i : Int) ∧ h = h ∧ EqI xs ys i ∧ (∀ (j : Unit), xs = ys → Value.bool true = Value.bool (eqb xs ys) ∧ h = h) ∧ ∀ (v : Value) (h_1 : AHeap), v = Value.bool (eqb xs ys) ∧ h_1 = h → v = Value.bool (eqb xs ys) ∧ h_1 = h)) = _) ?_
    refine bs_dn (fun hne => ⟨congrArg _ (eqb_false fun e => hne (by rw [← en, ← en', e])), rfl⟩) (fun he => ?_)
    exact ⟨(0 : Nat), rfl, rfl, rfl, rfl, ⟨by omega, Nat.zero_le _, rfl⟩, fun j e => ⟨congrArg _ (eqb_true e), rfl⟩, fun _ _ h => h⟩
theorem eqChange_spec (h : AHeap) (x y : changeSh.T) (v1 : Value) (h1 : Sl h proofSh x.2.2 v1) (w1 : Value) (j1 : Sl h proofSh y.2.2 w1) (ok : changeSh.ok x) :
    ACall Try.prog 113 [.agg #[.int .i64 x.1, .int .i64 x.2.1, v1], .agg #[.int .i64 y.1, .int .i64 y.2.1, w1]] h (.bool (eqb x y)) h := by
  obtain ⟨x1, x2, x3⟩ := x
  obtain ⟨y1, y2, y3⟩ := y
  try dsimp only at *
  obtain ⟨a1, c1, rfl⟩ := h1.isSlice
  obtain ⟨ab1, cb1, rfl⟩ := j1.isSlice
  refine acall_out (acall_vc (fun _ => false) (fun _ => []) (fun _ => .none) mixed Try.func113 rfl rfl rfl (Nat.le_of_ble_eq_true rfl) (by refine vc_mp (by kernel_rfl : (True ∧ (True ∧ (True ∧ True) ∧ True) ∧ (True ∧ (True ∧ True) ∧ True) ∧ (True ∧ (True ∧ True) ∧ True) ∧ True ∧ True) = _) ?_; simp only [and_self]) ?_)
  refine vc_mp (by kernel_rfl : (bs (!decide (x1 = y1)) (Value.bool false = Value.bool (eqb (x1, x2, x3) (y1, y2, y3)) ∧ h = h) (bs (!decide (x2 = y2)) (Value.bool false = Value.bool (eqb (x1, x2, x3) (y1, y2, y3)) ∧ h = h) (∃ (x : Bool), ∃ (h' : AHeap), ACall Try.prog (153 : Nat) [Value.slice a1 (List.length x3) c1, Value.slice ab1 (List.length y3) cb1] h (Value.bool x) h' ∧ bs (!x) (Value.bool false = Value.bool (eqb (x1, x2, x3) (y1, y2, y3)) ∧ h' = h) (Value.bool true = Value.bool (eqb (x1, x2, x3) (y1, y2, y3)) ∧ h' = h)))) = _) ?_
  refine bs_dn (fun e => ⟨congrArg _ (eqb_false fun e' => e (by cases e'; rfl)), rfl⟩) (fun e1 => ?_)
  refine bs_dn (fun e => ⟨congrArg _ (eqb_false fun e' => e (by cases e'; rfl)), rfl⟩) (fun e2 => ?_)
  refine ⟨_, _, eqProofS_spec h a1 _ c1 ab1 _ cb1 _ _ h1 j1 ok.2.2, bs_nb (fun e => ⟨congrArg _ (eqb_false fun e' => of_eqb_false e (by cases e'; rfl)), rfl⟩) (fun e3 => ?_)⟩
  exact ⟨congrArg _ (eqb_true (Prod.ext e1 (Prod.ext e2 (of_eqb e3)))), rfl⟩
theorem eqChangeS_spec (h : AHeap) (a : Option Addr) (n c : Nat) (a' : Option Addr) (n' c' : Nat) (xs ys : List changeSh.T) (hx : Sl h changeSh xs (.slice a n c)) (hy : Sl h changeSh ys (.slice a' n' c')) (ok : (Sh.sl changeSh).ok xs) :
    ACall Try.prog 60 [.slice a n c, .slice a' n' c'] h (.bool (eqb xs ys)) h := by
  have en := hx.len
  have en' := hy.len
  have hn : xs.length ≤ 9223372036854775807 := ok.1
  refine acall_out (acall_vc (fun _ => false) (fun _ => [(0, 0, []), (1, 0, []), (2, 0, []), (4, 0, []), (5, 0, []), (6, 0, []), (3, 1, []), (7, 1, []), (8, 3, []), (9, 0, [])]) (fun _ => eqLp h a n c a' n' c' xs ys) mixed Try.func60 rfl rfl rfl (Nat.le_of_ble_eq_true rfl) ?_ ?_)
  · refine vc_mp (by kernel_rfl : (True ∧ (True ∧ (True ∧ True) ∧ True) ∧ (True ∧ (∀ (i : Nat), EqI xs ys i → bs (decide ((↑i : Int) < (↑n : Int))) (∃ (l : Nat), ∃ (r : Nat), a = some (Addr.mk l r (some (3 : Nat))) ∧ (0 : Int) ≤ (↑i : Int) ∧ (↑i : Int) < (↑n : Int) ∧ ∃ (l_1 : Nat), ∃ (r_1 : Nat), a' = some (Addr.mk l_1 r_1 (some (3 : Nat))) ∧ (0 : Int) ≤ (↑i : Int) ∧ (↑i : Int) < (↑n' : Int) ∧ ∃ (x : Int), ∃ (x_1 : Int), ∃ (a_2 : Option Addr), ∃ (n_1 : Nat), ∃ (c_1 : Nat), AHeap.ld h l (r + Int.toNat (↑i : Int)) (0 : Nat) (3 : Nat) = some [Value.int IntKind.i64 x, Value.int IntKind.i64 x_1, Value.slice a_2 n_1 c_1] ∧ ∃ (x_2 : Int), ∃ (x_3 : Int), ∃ (a_3 : Option Addr), ∃ (n_2 : Nat), ∃ (c_2 : Nat), AHeap.ld h l_1 (r_1 + Int.toNat (↑i : Int)) (0 : Nat) (3 : Nat) = some [Value.int IntKind.i64 x_2, Value.int IntKind.i64 x_3, Value.slice a_3 n_2 c_2] ∧ ∃ (x_4 : Bool), ∃ (h' : AHeap), ACall Try.prog (113 : Nat) [Value.agg (Array.mk [Value.int IntKind.i64 x, Value.int IntKind.i64 x_1, Value.slice a_2 n_1 c_1]), Value.agg (Array.mk [Value.int IntKind.i64 x_2, Value.int IntKind.i64 x_3, Value.slice a_3 n_2 c_2])] h (Value.bool x_4) h' ∧ bs (!x_4) (Value.bool false = Value.bool (eqb xs ys) ∧ h' = h) (∃ (j : Nat), Value.slice a n c = Value.slice a n c ∧ Value.slice a' n' c' = Value.slice a' n' c' ∧ Value.int IntKind.i64 (IntKind.wrap IntKind.i64 ((↑i : Int) + (1 : Int))) = Value.int IntKind.i64 (↑j : Int) ∧ h = h' ∧ EqI xs ys j ∧ List.length xs - j < List.length xs - i ∧ (∀ (k : Unit), xs = ys → xs = ys) ∧ ∀ (v : Value) (h_1 : AHeap), v = Value.bool (eqb xs ys) ∧ h_1 = h → v = Value.bool (eqb xs ys) ∧ h_1 = h)) (∃ (j : Unit), h = h ∧ xs = ys)) ∧ (True ∧ True ∧ True) ∧ (True ∧ (True ∧ True) ∧ True) ∧ True) ∧ True ∧ True) = _) ?_
    simp only [true_and, and_true]
    rintro (i : Nat) I
    have hl := I.len
    have hi := I.hi
    refine bs_d (fun hlt => ?_) (fun hge => ?_)
    · have hxi : i < xs.length := by omega
      have hyi : i < ys.length := by omega
      obtain ⟨l, r, row, ha, hin, hrd, hld⟩ := hx.elem (List.getElem?_eq_getElem hxi)
      obtain ⟨l', r', row', ha', hin', hrd', hld'⟩ := hy.elem (List.getElem?_eq_getElem hyi)
      obtain ⟨v1, rfl, k1⟩ := rd_change.1 hrd
      obtain ⟨w1, rfl, kk1⟩ := rd_change.1 hrd'
      obtain ⟨a1, c1, rfl⟩ := k1.isSlice
      obtain ⟨b1, d1, rfl⟩ := kk1.isSlice
      refine ⟨l, r, ha, Int.natCast_nonneg _, hlt, l', r', ha', Int.natCast_nonneg _, by omega, _, _, _, _, _, hld, _, _, _, _, _, hld', _, _, eqChange_spec h xs[i] ys[i] _ k1 _ kk1 (ok.2 _ (List.getElem_mem hxi)), bs_nb (fun hb => ?_) (fun hb => ?_)⟩
      · exact ⟨congrArg _ (eqb_false fun e => of_eqb_false hb (by subst e; rfl)), rfl⟩
      · exact ⟨i + 1, by rw [wrap_i64 (by omega)] <;> rfl, rfl, I.step hxi hyi (of_eqb hb), by omega, fun _ h => h, fun _ _ h => h⟩
    · have e : i = xs.length := by omega
      subst e
      exact ⟨(), I.all⟩
  · refine vc_mp (by kernel_rfl : (bs (!decide ((↑n : Int) = (↑n' : Int))) (Value.bool false = Value.bool (eqb xs ys) ∧ h = h) (∃ (i : Nat), Value.slice a n c = Value.slice a n c ∧ Value.slice a' n' c' = Value.slice a' n' c' ∧ Value.int IntKind.i64 (0 : Int) = Value.int IntKind.i64 (↑i : Int) ∧ h = h ∧ EqI xs ys i ∧ (∀ (j : Unit), xs = ys → Value.bool true = Value.bool (eqb xs ys) ∧ h = h) ∧ ∀ (v : Value) (h_1 : AHeap), v = Value.bool (eqb xs ys) ∧ h_1 = h → v = Value.bool (eqb xs ys) ∧ h_1 = h)) = _) ?_
    refine bs_dn (fun hne => ⟨congrArg _ (eqb_false fun e => hne (by rw [← en, ← en', e])), rfl⟩) (fun he => ?_)
    exact ⟨(0 : Nat), rfl, rfl, rfl, rfl, ⟨by omega, Nat.zero_le _, rfl⟩, fun j e => ⟨congrArg _ (eqb_true e), rfl⟩, fun _ _ h => h⟩
theorem eqSay_spec (h : AHeap) (x y : saySh.T) (v1 : Value) (h1 : Sl h changeSh x.2.2.2.2.2 v1) (w1 : Value) (j1 : Sl h changeSh y.2.2.2.2.2 w1) (ok : saySh.ok x) :
    ACall Try.prog 39 [.agg #[.int .i64 x.1, .int .i64 x.2.1, .int .i64 x.2.2.1, .int .i64 x.2.2.2.1, .string x.2.2.2.2.1, v1], .agg #[.int .i64 y.1, .int .i64 y.2.1, .int .i64 y.2.2.1, .int .i64 y.2.2.2.1, .string y.2.2.2.2.1, w1]] h (.bool (eqb x y)) h := by
  obtain ⟨x1, x2, x3, x4, x5, x6⟩ := x
  obtain ⟨y1, y2, y3, y4, y5, y6⟩ := y
  try dsimp only at *
  obtain ⟨a1, c1, rfl⟩ := h1.isSlice
  obtain ⟨ab1, cb1, rfl⟩ := j1.isSlice
  refine acall_out (acall_vc (fun _ => false) (fun _ => []) (fun _ => .none) mixed Try.func39 rfl rfl rfl (Nat.le_of_ble_eq_true rfl) (by refine vc_mp (by kernel_rfl : (True ∧ (True ∧ (True ∧ True) ∧ True) ∧ (True ∧ (True ∧ True) ∧ True) ∧ (True ∧ (True ∧ True) ∧ True) ∧ (True ∧ (True ∧ True) ∧ True) ∧ (True ∧ (True ∧ True) ∧ True) ∧ (True ∧ (True ∧ True) ∧ True) ∧ True ∧ True) = _) ?_; simp only [and_self]) ?_)
  refine vc_mp (by kernel_rfl : (bs (!decide (x1 = y1)) (Value.bool false = Value.bool (eqb (x1, x2, x3, x4, x5, x6) (y1, y2, y3, y4, y5, y6)) ∧ h = h) (bs (!decide (x2 = y2)) (Value.bool false = Value.bool (eqb (x1, x2, x3, x4, x5, x6) (y1, y2, y3, y4, y5, y6)) ∧ h = h) (bs (!decide (x3 = y3)) (Value.bool false = Value.bool (eqb (x1, x2, x3, x4, x5, x6) (y1, y2, y3, y4, y5, y6)) ∧ h = h) (bs (!decide (x4 = y4)) (Value.bool false = Value.bool (eqb (x1, x2, x3, x4, x5, x6) (y1, y2, y3, y4, y5, y6)) ∧ h = h) (bs (!decide (x5 = y5)) (Value.bool false = Value.bool (eqb (x1, x2, x3, x4, x5, x6) (y1, y2, y3, y4, y5, y6)) ∧ h = h) (∃ (x : Bool), ∃ (h' : AHeap), ACall Try.prog (60 : Nat) [Value.slice a1 (List.length x6) c1, Value.slice ab1 (List.length y6) cb1] h (Value.bool x) h' ∧ bs (!x) (Value.bool false = Value.bool (eqb (x1, x2, x3, x4, x5, x6) (y1, y2, y3, y4, y5, y6)) ∧ h' = h) (Value.bool true = Value.bool (eqb (x1, x2, x3, x4, x5, x6) (y1, y2, y3, y4, y5, y6)) ∧ h' = h))))))) = _) ?_
  refine bs_dn (fun e => ⟨congrArg _ (eqb_false fun e' => e (by cases e'; rfl)), rfl⟩) (fun e1 => ?_)
  refine bs_dn (fun e => ⟨congrArg _ (eqb_false fun e' => e (by cases e'; rfl)), rfl⟩) (fun e2 => ?_)
  refine bs_dn (fun e => ⟨congrArg _ (eqb_false fun e' => e (by cases e'; rfl)), rfl⟩) (fun e3 => ?_)
  refine bs_dn (fun e => ⟨congrArg _ (eqb_false fun e' => e (by cases e'; rfl)), rfl⟩) (fun e4 => ?_)
  refine bs_dn (fun e => ⟨congrArg _ (eqb_false fun e' => e (by cases e'; rfl)), rfl⟩) (fun e5 => ?_)
  refine ⟨_, _, eqChangeS_spec h a1 _ c1 ab1 _ cb1 _ _ h1 j1 ok.2.2.2.2.2, bs_nb (fun e => ⟨congrArg _ (eqb_false fun e' => of_eqb_false e (by cases e'; rfl)), rfl⟩) (fun e6 => ?_)⟩
  exact ⟨congrArg _ (eqb_true (Prod.ext e1 (Prod.ext e2 (Prod.ext e3 (Prod.ext e4 (Prod.ext e5 (of_eqb e6))))))), rfl⟩
theorem eqSayOut_spec (h : AHeap) (x y : sayOutSh.T) (v1 : Value) (h1 : Sl h changeSh x.1.2.2.2.2.2 v1) (w1 : Value) (j1 : Sl h changeSh y.1.2.2.2.2.2 w1) (ok : sayOutSh.ok x) :
    ACall Try.prog 14 [.agg #[.int .i64 x.1.1, .int .i64 x.1.2.1, .int .i64 x.1.2.2.1, .int .i64 x.1.2.2.2.1, .string x.1.2.2.2.2.1, v1, .int .i64 x.2], .agg #[.int .i64 y.1.1, .int .i64 y.1.2.1, .int .i64 y.1.2.2.1, .int .i64 y.1.2.2.2.1, .string y.1.2.2.2.2.1, w1, .int .i64 y.2]] h (.bool (eqb x y)) h := by
  obtain ⟨⟨x1, x2, x3, x4, x5, x6⟩, x7⟩ := x
  obtain ⟨⟨y1, y2, y3, y4, y5, y6⟩, y7⟩ := y
  try dsimp only at *
  obtain ⟨a1, c1, rfl⟩ := h1.isSlice
  obtain ⟨ab1, cb1, rfl⟩ := j1.isSlice
  refine acall_out (acall_vc (fun _ => false) (fun _ => []) (fun _ => .none) mixed Try.func14 rfl rfl rfl (Nat.le_of_ble_eq_true rfl) (by refine vc_mp (by kernel_rfl : (True ∧ (True ∧ (True ∧ True) ∧ True) ∧ (True ∧ (True ∧ True) ∧ True) ∧ True ∧ True) = _) ?_; simp only [and_self]) ?_)
  refine vc_mp (by kernel_rfl : (∃ (x : Bool), ∃ (h' : AHeap), ACall Try.prog (39 : Nat) [Value.agg (Array.mk [Value.int IntKind.i64 x1, Value.int IntKind.i64 x2, Value.int IntKind.i64 x3, Value.int IntKind.i64 x4, Value.string x5, Value.slice a1 (List.length x6) c1]), Value.agg (Array.mk [Value.int IntKind.i64 y1, Value.int IntKind.i64 y2, Value.int IntKind.i64 y3, Value.int IntKind.i64 y4, Value.string y5, Value.slice ab1 (List.length y6) cb1])] h (Value.bool x) h' ∧ bs (!x) (Value.bool false = Value.bool (eqb ((x1, x2, x3, x4, x5, x6), x7) ((y1, y2, y3, y4, y5, y6), y7)) ∧ h' = h) (bs (!decide (x7 = y7)) (Value.bool false = Value.bool (eqb ((x1, x2, x3, x4, x5, x6), x7) ((y1, y2, y3, y4, y5, y6), y7)) ∧ h' = h) (Value.bool true = Value.bool (eqb ((x1, x2, x3, x4, x5, x6), x7) ((y1, y2, y3, y4, y5, y6), y7)) ∧ h' = h))) = _) ?_
  refine ⟨_, _, eqSay_spec h (x1, x2, x3, x4, x5, x6) (y1, y2, y3, y4, y5, y6) _ h1 _ j1 ok.1, bs_nb (fun e => ⟨congrArg _ (eqb_false fun e' => of_eqb_false e (by cases e'; rfl)), rfl⟩) (fun e1 => ?_)⟩
  refine bs_dn (fun e => ⟨congrArg _ (eqb_false fun e' => e (by cases e'; rfl)), rfl⟩) (fun e2 => ?_)
  exact ⟨congrArg _ (eqb_true (Prod.ext (of_eqb e1) e2)), rfl⟩
end Go.Proofs.Ytdcijleeoihlfaa
