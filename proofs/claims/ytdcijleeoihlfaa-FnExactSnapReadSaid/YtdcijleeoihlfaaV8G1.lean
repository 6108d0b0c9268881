/- Contracts of the data functions of laws. Written by gen.py. -/
import Derived.Test.YtdcijleeoihlfaaV8G0
namespace Go.Proofs.Ytdcijleeoihlfaa
open Go.Abs Go.Dat
set_option maxRecDepth 100000
set_option maxHeartbeats 4000000
theorem eqStringS_spec (h : AHeap) (a : Option Addr) (n c : Nat) (a' : Option Addr) (n' c' : Nat) (xs ys : List (Sh.T Sh.str)) (hx : Sl h Sh.str xs (.slice a n c)) (hy : Sl h Sh.str ys (.slice a' n' c')) (hn : xs.length ≤ 9223372036854775807) :
    ACall Try.prog 61 [.slice a n c, .slice a' n' c'] h (.bool (eqb xs ys)) h := by
  have en := hx.len
  have en' := hy.len
  refine acall_out (acall_vc (fun _ => false) (fun _ => [(0, 0, []), (1, 0, []), (2, 0, []), (4, 0, []), (5, 0, []), (6, 0, []), (3, 1, []), (7, 1, []), (8, 0, [])]) (fun _ => eqLp h a n c a' n' c' xs ys) mixed Try.func61 rfl rfl rfl (Nat.le_of_ble_eq_true rfl) ?_ ?_)
  · refine vc_mp (by kernel_rfl : (True ∧ (True ∧ (True ∧ True) ∧ True) ∧ (True ∧ (∀ (i : Nat), EqI xs ys i → bs (decide ((↑i : Int) < (↑n : Int))) (∃ (l : Nat), ∃ (r : Nat), a = some (Addr.mk l r (some (1 : Nat))) ∧ (0 : Int) ≤ (↑i : Int) ∧ (↑i : Int) < (↑n : Int) ∧ ∃ (l_1 : Nat), ∃ (r_1 : Nat), a' = some (Addr.mk l_1 r_1 (some (1 : Nat))) ∧ (0 : Int) ≤ (↑i : Int) ∧ (↑i : Int) < (↑n' : Int) ∧ ∃ (x : ByteArray), AHeap.ld h l (r + Int.toNat (↑i : Int)) (0 : Nat) (1 : Nat) = some [Value.string x] ∧ ∃ (x_1 : ByteArray), AHeap.ld h l_1 (r_1 + Int.toNat (↑i : Int)) (0 : Nat) (1 : Nat) = some [Value.string x_1] ∧ bs (!decide (x = x_1)) (Value.bool false = Value.bool (eqb xs ys) ∧ h = h) (∃ (j : Nat), Value.slice a n c = Value.slice a n c ∧ Value.slice a' n' c' = Value.slice a' n' c' ∧ Value.int IntKind.i64 (IntKind.wrap IntKind.i64 ((↑i : Int) + (1 : Int))) = Value.int IntKind.i64 (↑j : Int) ∧ h = h ∧ EqI xs ys j ∧ List.length xs - j < List.length xs - i ∧ (∀ (k : Unit), xs = ys → xs = ys) ∧ ∀ (v : Value) (h_1 : AHeap), v = Value.bool (eqb xs ys) ∧ h_1 = h → v = Value.bool (eqb xs ys) ∧ h_1 = h)) (∃ (j : Unit), h = h ∧ xs = ys)) ∧ (True ∧ True ∧ True) ∧ (True ∧ (True ∧ True) ∧ True) ∧ True) ∧ True ∧ True) = _) ?_
    simp only [true_and, and_true]
    rintro (i : Nat) I
    have hl := I.len
    have hi := I.hi
    refine bs_d (fun hlt => ?_) (fun hge => ?_)
    · have hxi : i < xs.length := by omega
      have hyi : i < ys.length := by omega
      obtain ⟨l, r, row, ha, hin, hrd, hld⟩ := hx.elem (List.getElem?_eq_getElem hxi)
      obtain ⟨l', r', row', ha', hin', hrd', hld'⟩ := hy.elem (List.getElem?_eq_getElem hyi)
      obtain rfl : row = [.string xs[i]] := hrd
      obtain rfl : row' = [.string ys[i]] := hrd'
      refine ⟨l, r, ha, Int.natCast_nonneg _, hlt, l', r', ha', Int.natCast_nonneg _, by omega, _, hld, _, hld', bs_dn (fun hb => ?_) (fun hb => ?_)⟩
      · exact congrArg _ (eqb_false fun e => hb (by subst e; rfl))
      · exact ⟨i + 1, by rw [wrap_i64 (by omega)] <;> rfl, I.step hxi hyi hb, by omega, fun _ h => h, fun _ _ h => h⟩
    · have e : i = xs.length := by omega
      subst e
      exact ⟨(), I.all⟩
  · refine vc_mp (by kernel_rfl : (bs (!decide ((↑n : Int) = (↑n' : Int))) (Value.bool false = Value.bool (eqb xs ys) ∧ h = h) (∃ (i : Nat), Value.slice a n c = Value.slice a n c ∧ Value.slice a' n' c' = Value.slice a' n' c' ∧ Value.int IntKind.i64 (0 : Int) = Value.int IntKind.i64 (↑i : Int) ∧ h = h ∧ EqI xs ys i ∧ (∀ (j : Unit), xs = ys → Value.bool true = Value.bool (eqb xs ys) ∧ h = h) ∧ ∀ (v : Value) (h_1 : AHeap), v = Value.bool (eqb xs ys) ∧ h_1 = h → v = Value.bool (eqb xs ys) ∧ h_1 = h)) = _) ?_
    refine bs_dn (fun hne => ⟨congrArg _ (eqb_false fun e => hne (by rw [← en, ← en', e])), rfl⟩) (fun he => ?_)
    exact ⟨(0 : Nat), rfl, rfl, rfl, rfl, ⟨by omega, Nat.zero_le _, rfl⟩, fun j e => ⟨congrArg _ (eqb_true e), rfl⟩, fun _ _ h => h⟩
theorem eqGroup_spec (h : AHeap) (x y : groupSh.T) :
    ACall Try.prog 185 [.agg #[.string x.1, .int .i64 x.2], .agg #[.string y.1, .int .i64 y.2]] h (.bool (eqb x y)) h := by
  obtain ⟨x1, x2⟩ := x
  obtain ⟨y1, y2⟩ := y
  try dsimp only at *
  refine acall_out (acall_vc (fun _ => false) (fun _ => []) (fun _ => .none) mixed Try.func185 rfl rfl rfl (Nat.le_of_ble_eq_true rfl) (by refine vc_mp (by kernel_rfl : (True ∧ (True ∧ (True ∧ True) ∧ True) ∧ (True ∧ (True ∧ True) ∧ True) ∧ True ∧ True) = _) ?_; simp only [and_self]) ?_)
  refine vc_mp (by kernel_rfl : (bs (!decide (x1 = y1)) (Value.bool false = Value.bool (eqb (x1, x2) (y1, y2)) ∧ h = h) (bs (!decide (x2 = y2)) (Value.bool false = Value.bool (eqb (x1, x2) (y1, y2)) ∧ h = h) (Value.bool true = Value.bool (eqb (x1, x2) (y1, y2)) ∧ h = h))) = _) ?_
  refine bs_dn (fun e => ⟨congrArg _ (eqb_false fun e' => e (by cases e'; rfl)), rfl⟩) (fun e1 => ?_)
  refine bs_dn (fun e => ⟨congrArg _ (eqb_false fun e' => e (by cases e'; rfl)), rfl⟩) (fun e2 => ?_)
  exact ⟨congrArg _ (eqb_true (Prod.ext e1 e2)), rfl⟩
theorem eqGroupS_spec (h : AHeap) (a : Option Addr) (n c : Nat) (a' : Option Addr) (n' c' : Nat) (xs ys : List groupSh.T) (hx : Sl h groupSh xs (.slice a n c)) (hy : Sl h groupSh ys (.slice a' n' c')) (ok : xs.length ≤ 9223372036854775807) :
    ACall Try.prog 167 [.slice a n c, .slice a' n' c'] h (.bool (eqb xs ys)) h := by
  have en := hx.len
  have en' := hy.len
  have hn : xs.length ≤ 9223372036854775807 := ok
  refine acall_out (acall_vc (fun _ => false) (fun _ => [(0, 0, []), (1, 0, []), (2, 0, []), (4, 0, []), (5, 0, []), (6, 0, []), (3, 1, []), (7, 1, []), (8, 3, []), (9, 0, [])]) (fun _ => eqLp h a n c a' n' c' xs ys) mixed Try.func167 rfl rfl rfl (Nat.le_of_ble_eq_true rfl) ?_ ?_)
  · refine vc_mp (by kernel_rfl : (True ∧ (True ∧ (True ∧ True) ∧ True) ∧ (True ∧ (∀ (i : Nat), EqI xs ys i → bs (decide ((↑i : Int) < (↑n : Int))) (∃ (l : Nat), ∃ (r : Nat), a = some (Addr.mk l r (some (2 : Nat))) ∧ (0 : Int) ≤ (↑i : Int) ∧ (↑i : Int) < (↑n : Int) ∧ ∃ (l_1 : Nat), ∃ (r_1 : Nat), a' = some (Addr.mk l_1 r_1 (some (2 : Nat))) ∧ (0 : Int) ≤ (↑i : Int) ∧ (↑i : Int) < (↑n' : Int) ∧ ∃ (x : ByteArray), ∃ (x_1 : Int), AHeap.ld h l (r + Int.toNat (↑i : Int)) (0 : Nat) (2 : Nat) = some [Value.string x, Value.int IntKind.i64 x_1] ∧ ∃ (x_2 : ByteArray), ∃ (x_3 : Int), AHeap.ld h l_1 (r_1 + Int.toNat (↑i : Int)) (0 : Nat) (2 : Nat) = some [Value.string x_2, Value.int IntKind.i64 x_3] ∧ ∃ (x_4 : Bool), ∃ (h' : AHeap), ACall Try.prog (185 : Nat) [Value.agg (Array.mk [Value.string x, Value.int IntKind.i64 x_1]), Value.agg (Array.mk [Value.string x_2, Value.int IntKind.i64 x_3])] h (Value.bool x_4) h' ∧ bs (!x_4) (Value.bool false = Value.bool (eqb xs ys) ∧ h' = h) (∃ (j : Nat), Value.slice a n c = Value.slice a n c ∧ Value.slice a' n' c' = Value.slice a' n' c' ∧ Value.int IntKind.i64 (IntKind.wrap IntKind.i64 ((↑i : Int) + (1 : Int))) = Value.int IntKind.i64 (↑j : Int) ∧ h = h' ∧ EqI xs ys j ∧ List.length xs - j < List.length xs - i ∧ (∀ (k : Unit), xs = ys → xs = ys) ∧ ∀ (v : Value) (h_1 : AHeap), v = Value.bool (eqb xs ys) ∧ h_1 = h → v = Value.bool (eqb xs ys) ∧ h_1 = h)) (∃ (j : Unit), h = h ∧ xs = ys)) ∧ (True ∧ True ∧ True) ∧ (True ∧ (True ∧ True) ∧ True) ∧ True) ∧ True ∧ True) = _) ?_
    simp only [true_and, and_true]
    rintro (i : Nat) I
    have hl := I.len
    have hi := I.hi
    refine bs_d (fun hlt => ?_) (fun hge => ?_)
    · have hxi : i < xs.length := by omega
      have hyi : i < ys.length := by omega
      obtain ⟨l, r, row, ha, hin, hrd, hld⟩ := hx.elem (List.getElem?_eq_getElem hxi)
      obtain ⟨l', r', row', ha', hin', hrd', hld'⟩ := hy.elem (List.getElem?_eq_getElem hyi)
      obtain rfl := rd_group.1 hrd
      obtain rfl := rd_group.1 hrd'
      refine ⟨l, r, ha, Int.natCast_nonneg _, hlt, l', r', ha', Int.natCast_nonneg _, by omega, _, _, hld, _, _, hld', _, _, eqGroup_spec h xs[i] ys[i], bs_nb (fun hb => ?_) (fun hb => ?_)⟩
      · exact ⟨congrArg _ (eqb_false fun e => of_eqb_false hb (by subst e; rfl)), rfl⟩
      · exact ⟨i + 1, by rw [wrap_i64 (by omega)] <;> rfl, rfl, I.step hxi hyi (of_eqb hb), by omega, fun _ h => h, fun _ _ h => h⟩
    · have e : i = xs.length := by omega
      subst e
      exact ⟨(), I.all⟩
  · refine vc_mp (by kernel_rfl : (bs (!decide ((↑n : Int) = (↑n' : Int))) (Value.bool false = Value.bool (eqb xs ys) ∧ h = h) (∃ (i : Nat), Value.slice a n c = Value.slice a n c ∧ Value.slice a' n' c' = Value.slice a' n' c' ∧ Value.int IntKind.i64 (0 : Int) = Value.int IntKind.i64 (↑i : Int) ∧ h = h ∧ EqI xs ys i ∧ (∀ (j : Unit), xs = ys → Value.bool true = Value.bool (eqb xs ys) ∧ h = h) ∧ ∀ (v : Value) (h_1 : AHeap), v = Value.bool (eqb xs ys) ∧ h_1 = h → v = Value.bool (eqb xs ys) ∧ h_1 = h)) = _) ?_
    refine bs_dn (fun hne => ⟨congrArg _ (eqb_false fun e => hne (by rw [← en, ← en', e])), rfl⟩) (fun he => ?_)
    exact ⟨(0 : Nat), rfl, rfl, rfl, rfl, ⟨by omega, Nat.zero_le _, rfl⟩, fun j e => ⟨congrArg _ (eqb_true e), rfl⟩, fun _ _ h => h⟩
theorem eqTopic_spec (h : AHeap) (x y : topicSh.T) (v1 : Value) (v2 : Value) (h1 : Sl h Sh.str x.2.2.1 v1) (h2 : Sl h groupSh x.2.2.2 v2) (w1 : Value) (w2 : Value) (j1 : Sl h Sh.str y.2.2.1 w1) (j2 : Sl h groupSh y.2.2.2 w2) (ok : topicSh.ok x) :
    ACall Try.prog 134 [.agg #[.string x.1, .int .i64 x.2.1, v1, v2], .agg #[.string y.1, .int .i64 y.2.1, w1, w2]] h (.bool (eqb x y)) h := by
  obtain ⟨x1, x2, x3, x4⟩ := x
  obtain ⟨y1, y2, y3, y4⟩ := y
  try dsimp only at *
  obtain ⟨a1, c1, rfl⟩ := h1.isSlice
  obtain ⟨a2, c2, rfl⟩ := h2.isSlice
  obtain ⟨ab1, cb1, rfl⟩ := j1.isSlice
  obtain ⟨ab2, cb2, rfl⟩ := j2.isSlice
  refine acall_out (acall_vc (fun _ => false) (fun _ => []) (fun _ => .none) mixed Try.func134 rfl rfl rfl (Nat.le_of_ble_eq_true rfl) (by refine vc_mp (by kernel_rfl : (True ∧ (True ∧ (True ∧ True) ∧ True) ∧ (True ∧ (True ∧ True) ∧ True) ∧ (True ∧ (True ∧ True) ∧ True) ∧ (True ∧ (True ∧ True) ∧ True) ∧ True ∧ True) = _) ?_; simp only [and_self]) ?_)
  refine vc_mp (by kernel_rfl : (bs (!decide (x1 = y1)) (Value.bool false = Value.bool (eqb (x1, x2, x3, x4) (y1, y2, y3, y4)) ∧ h = h) (bs (!decide (x2 = y2)) (Value.bool false = Value.bool (eqb (x1, x2, x3, x4) (y1, y2, y3, y4)) ∧ h = h) (∃ (x : Bool), ∃ (h' : AHeap), ACall Try.prog (61 : Nat) [Value.slice a1 (List.length x3) c1, Value.slice ab1 (List.length y3) cb1] h (Value.bool x) h' ∧ bs (!x) (Value.bool false = Value.bool (eqb (x1, x2, x3, x4) (y1, y2, y3, y4)) ∧ h' = h) (∃ (x : Bool), ∃ (h'_1 : AHeap), ACall Try.prog (167 : Nat) [Value.slice a2 (List.length x4) c2, Value.slice ab2 (List.length y4) cb2] h' (Value.bool x) h'_1 ∧ bs (!x) (Value.bool false = Value.bool (eqb (x1, x2, x3, x4) (y1, y2, y3, y4)) ∧ h'_1 = h) (Value.bool true = Value.bool (eqb (x1, x2, x3, x4) (y1, y2, y3, y4)) ∧ h'_1 = h))))) = _) ?_
  refine bs_dn (fun e => ⟨congrArg _ (eqb_false fun e' => e (by cases e'; rfl)), rfl⟩) (fun e1 => ?_)
  refine bs_dn (fun e => ⟨congrArg _ (eqb_false fun e' => e (by cases e'; rfl)), rfl⟩) (fun e2 => ?_)
  refine ⟨_, _, eqStringS_spec h a1 _ c1 ab1 _ cb1 _ _ h1 j1 ok.2.2.1.1, bs_nb (fun e => ⟨congrArg _ (eqb_false fun e' => of_eqb_false e (by cases e'; rfl)), rfl⟩) (fun e3 => ?_)⟩
  refine ⟨_, _, eqGroupS_spec h a2 _ c2 ab2 _ cb2 _ _ h2 j2 ok.2.2.2.1, bs_nb (fun e => ⟨congrArg _ (eqb_false fun e' => of_eqb_false e (by cases e'; rfl)), rfl⟩) (fun e4 => ?_)⟩
  exact ⟨congrArg _ (eqb_true (Prod.ext e1 (Prod.ext e2 (Prod.ext (of_eqb e3) (of_eqb e4))))), rfl⟩
theorem eqTopicS_spec (h : AHeap) (a : Option Addr) (n c : Nat) (a' : Option Addr) (n' c' : Nat) (xs ys : List topicSh.T) (hx : Sl h topicSh xs (.slice a n c)) (hy : Sl h topicSh ys (.slice a' n' c')) (ok : (Sh.sl topicSh).ok xs) :
    ACall Try.prog 81 [.slice a n c, .slice a' n' c'] h (.bool (eqb xs ys)) h := by
  have en := hx.len
  have en' := hy.len
  have hn : xs.length ≤ 9223372036854775807 := ok.1
  refine acall_out (acall_vc (fun _ => false) (fun _ => [(0, 0, []), (1, 0, []), (2, 0, []), (4, 0, []), (5, 0, []), (6, 0, []), (3, 1, []), (7, 1, []), (8, 3, []), (9, 0, [])]) (fun _ => eqLp h a n c a' n' c' xs ys) mixed Try.func81 rfl rfl rfl (Nat.le_of_ble_eq_true rfl) ?_ ?_)
  · refine vc_mp (by kernel_rfl : (True ∧ (True ∧ (True ∧ True) ∧ True) ∧ (True ∧ (∀ (i : Nat), EqI xs ys i → bs (decide ((↑i : Int) < (↑n : Int))) (∃ (l : Nat), ∃ (r : Nat), a = some (Addr.mk l r (some (4 : Nat))) ∧ (0 : Int) ≤ (↑i : Int) ∧ (↑i : Int) < (↑n : Int) ∧ ∃ (l_1 : Nat), ∃ (r_1 : Nat), a' = some (Addr.mk l_1 r_1 (some (4 : Nat))) ∧ (0 : Int) ≤ (↑i : Int) ∧ (↑i : Int) < (↑n' : Int) ∧ ∃ (x : ByteArray), ∃ (x_1 : Int), ∃ (a_2 : Option Addr), ∃ (n_1 : Nat), ∃ (c_1 : Nat), ∃ (a_3 : Option Addr), ∃ (n_2 : Nat), ∃ (c_2 : Nat), AHeap.ld h l (r + Int.toNat (↑i : Int)) (0 : Nat) (4 : Nat) = some [Value.string x, Value.int IntKind.i64 x_1, Value.slice a_2 n_1 c_1, Value.slice a_3 n_2 c_2] ∧ ∃ (x_2 : ByteArray), ∃ (x_3 : Int), ∃ (a_4 : Option Addr), ∃ (n_3 : Nat), ∃ (c_3 : Nat), ∃ (a_5 : Option Addr), ∃ (n_4 : Nat), ∃ (c_4 : Nat), AHeap.ld h l_1 (r_1 + Int.toNat (↑i : Int)) (0 : Nat) (4 : Nat) = some [Value.string x_2, Value.int IntKind.i64 x_3, Value.slice a_4 n_3 c_3, Value.slice a_5 n_4 c_4] ∧ ∃ (x_4 : Bool), ∃ (h' : AHeap), ACall Try.prog (134 : Nat) [Value.agg (Array.mk [Value.string x, Value.int IntKind.i64 x_1, Value.slice a_2 n_1 c_1, Value.slice a_3 n_2 c_2]), Value.agg (Array.mk [Value.string x_2, Value.int IntKind.i64 x_3, Value.slice a_4 n_3 c_3, Value.slice a_5 n_4 c_4])] h (Value.bool x_4) h' ∧ bs (!x_4) (Value.bool false = Value.bool (eqb xs ys) ∧ h' = h) (∃ (j : Nat), Value.slice a n c = Value.slice a n c ∧ Value.slice a' n' c' = Value.slice a' n' c' ∧ Value.int IntKind.i64 (IntKind.wrap IntKind.i64 ((↑i : Int) + (1 : Int))) = Value.int IntKind.i64 (↑j : Int) ∧ h = h' ∧ EqI xs ys j ∧ List.length xs - j < List.length xs - i ∧ (∀ (k : Unit), xs = ys → xs = ys) ∧ ∀ (v : Value) (h_1 : AHeap), v = Value.bool (eqb xs ys) ∧ h_1 = h → v = Value.bool (eqb xs ys) ∧ h_1 = h)) (∃ (j : Unit), h = h ∧ xs = ys)) ∧ (True ∧ True ∧ True) ∧ (True ∧ (True ∧ True) ∧ True) ∧ True) ∧ True ∧ True) = _) ?_
    simp only [true_and, and_true]
    rintro (i : Nat) I
    have hl := I.len
    have hi := I.hi
    refine bs_d (fun hlt => ?_) (fun hge => ?_)
    · have hxi : i < xs.length := by omega
      have hyi : i < ys.length := by omega
      obtain ⟨l, r, row, ha, hin, hrd, hld⟩ := hx.elem (List.getElem?_eq_getElem hxi)
      obtain ⟨l', r', row', ha', hin', hrd', hld'⟩ := hy.elem (List.getElem?_eq_getElem hyi)
      obtain ⟨v1, v2, rfl, k1, k2⟩ := rd_topic.1 hrd
      obtain ⟨w1, w2, rfl, kk1, kk2⟩ := rd_topic.1 hrd'
      obtain ⟨a1, c1, rfl⟩ := k1.isSlice
      obtain ⟨b1, d1, rfl⟩ := kk1.isSlice
      obtain ⟨a2, c2, rfl⟩ := k2.isSlice
      obtain ⟨b2, d2, rfl⟩ := kk2.isSlice
      refine ⟨l, r, ha, Int.natCast_nonneg _, hlt, l', r', ha', Int.natCast_nonneg _, by omega, _, _, _, _, _, _, _, _, hld, _, _, _, _, _, _, _, _, hld', _, _, eqTopic_spec h xs[i] ys[i] _ _ k1 k2 _ _ kk1 kk2 (ok.2 _ (List.getElem_mem hxi)), bs_nb (fun hb => ?_) (fun hb => ?_)⟩
      · exact ⟨congrArg _ (eqb_false fun e => of_eqb_false hb (by subst e; rfl)), rfl⟩
      · exact ⟨i + 1, by rw [wrap_i64 (by omega)] <;> rfl, rfl, I.step hxi hyi (of_eqb hb), by omega, fun _ h => h, fun _ _ h => h⟩
    · have e : i = xs.length := by omega
      subst e
      exact ⟨(), I.all⟩
  · refine vc_mp (by kernel_rfl : (bs (!decide ((↑n : Int) = (↑n' : Int))) (Value.bool false = Value.bool (eqb xs ys) ∧ h = h) (∃ (i : Nat), Value.slice a n c = Value.slice a n c ∧ Value.slice a' n' c' = Value.slice a' n' c' ∧ Value.int IntKind.i64 (0 : Int) = Value.int IntKind.i64 (↑i : Int) ∧ h = h ∧ EqI xs ys i ∧ (∀ (j : Unit), xs = ys → Value.bool true = Value.bool (eqb xs ys) ∧ h = h) ∧ ∀ (v : Value) (h_1 : AHeap), v = Value.bool (eqb xs ys) ∧ h_1 = h → v = Value.bool (eqb xs ys) ∧ h_1 = h)) = _) ?_
    refine bs_dn (fun hne => ⟨congrArg _ (eqb_false fun e => hne (by rw [← en, ← en', e])), rfl⟩) (fun he => ?_)
    exact ⟨(0 : Nat), rfl, rfl, rfl, rfl, ⟨by omega, Nat.zero_le _, rfl⟩, fun j e => ⟨congrArg _ (eqb_true e), rfl⟩, fun _ _ h => h⟩
theorem eqReply_spec (h : AHeap) (x y : replySh.T) :
    ACall Try.prog 135 [.agg #[.int .i64 x.1, .int .i64 x.2.1, .string x.2.2], .agg #[.int .i64 y.1, .int .i64 y.2.1, .string y.2.2]] h (.bool (eqb x y)) h := by
  obtain ⟨x1, x2, x3⟩ := x
  obtain ⟨y1, y2, y3⟩ := y
  try dsimp only at *
  refine acall_out (acall_vc (fun _ => false) (fun _ => []) (fun _ => .none) mixed Try.func135 rfl rfl rfl (Nat.le_of_ble_eq_true rfl) (by refine vc_mp (by kernel_rfl : (True ∧ (True ∧ (True ∧ True) ∧ True) ∧ (True ∧ (True ∧ True) ∧ True) ∧ (True ∧ (True ∧ True) ∧ True) ∧ True ∧ True) = _) ?_; simp only [and_self]) ?_)
  refine vc_mp (by kernel_rfl : (bs (!decide (x1 = y1)) (Value.bool false = Value.bool (eqb (x1, x2, x3) (y1, y2, y3)) ∧ h = h) (bs (!decide (x2 = y2)) (Value.bool false = Value.bool (eqb (x1, x2, x3) (y1, y2, y3)) ∧ h = h) (bs (!decide (x3 = y3)) (Value.bool false = Value.bool (eqb (x1, x2, x3) (y1, y2, y3)) ∧ h = h) (Value.bool true = Value.bool (eqb (x1, x2, x3) (y1, y2, y3)) ∧ h = h)))) = _) ?_
  refine bs_dn (fun e => ⟨congrArg _ (eqb_false fun e' => e (by cases e'; rfl)), rfl⟩) (fun e1 => ?_)
  refine bs_dn (fun e => ⟨congrArg _ (eqb_false fun e' => e (by cases e'; rfl)), rfl⟩) (fun e2 => ?_)
  refine bs_dn (fun e => ⟨congrArg _ (eqb_false fun e' => e (by cases e'; rfl)), rfl⟩) (fun e3 => ?_)
  exact ⟨congrArg _ (eqb_true (Prod.ext e1 (Prod.ext e2 e3))), rfl⟩
theorem eqReplyS_spec (h : AHeap) (a : Option Addr) (n c : Nat) (a' : Option Addr) (n' c' : Nat) (xs ys : List replySh.T) (hx : Sl h replySh xs (.slice a n c)) (hy : Sl h replySh ys (.slice a' n' c')) (ok : xs.length ≤ 9223372036854775807) :
    ACall Try.prog 82 [.slice a n c, .slice a' n' c'] h (.bool (eqb xs ys)) h := by
  have en := hx.len
  have en' := hy.len
  have hn : xs.length ≤ 9223372036854775807 := ok
  refine acall_out (acall_vc (fun _ => false) (fun _ => [(0, 0, []), (1, 0, []), (2, 0, []), (4, 0, []), (5, 0, []), (6, 0, []), (3, 1, []), (7, 1, []), (8, 3, []), (9, 0, [])]) (fun _ => eqLp h a n c a' n' c' xs ys) mixed Try.func82 rfl rfl rfl (Nat.le_of_ble_eq_true rfl) ?_ ?_)
  · refine vc_mp (by kernel_rfl : (True ∧ (True ∧ (True ∧ True) ∧ True) ∧ (True ∧ (∀ (i : Nat), EqI xs ys i → bs (decide ((↑i : Int) < (↑n : Int))) (∃ (l : Nat), ∃ (r : Nat), a = some (Addr.mk l r (some (3 : Nat))) ∧ (0 : Int) ≤ (↑i : Int) ∧ (↑i : Int) < (↑n : Int) ∧ ∃ (l_1 : Nat), ∃ (r_1 : Nat), a' = some (Addr.mk l_1 r_1 (some (3 : Nat))) ∧ (0 : Int) ≤ (↑i : Int) ∧ (↑i : Int) < (↑n' : Int) ∧ ∃ (x : Int), ∃ (x_1 : Int), ∃ (x_2 : ByteArray), AHeap.ld h l (r + Int.toNat (↑i : Int)) (0 : Nat) (3 : Nat) = some [Value.int IntKind.i64 x, Value.int IntKind.i64 x_1, Value.string x_2] ∧ ∃ (x_3 : Int), ∃ (x_4 : Int), ∃ (x_5 : ByteArray), AHeap.ld h l_1 (r_1 + Int.toNat (↑i : Int)) (0 : Nat) (3 : Nat) = some [Value.int IntKind.i64 x_3, Value.int IntKind.i64 x_4, Value.string x_5] ∧ ∃ (x_6 : Bool), ∃ (h' : AHeap), ACall Try.prog (135 : Nat) [Value.agg (Array.mk [Value.int IntKind.i64 x, Value.int IntKind.i64 x_1, Value.string x_2]), Value.agg (Array.mk [Value.int IntKind.i64 x_3, Value.int IntKind.i64 x_4, Value.string x_5])] h (Value.bool x_6) h' ∧ bs (!x_6) (Value.bool false = Value.bool (eqb xs ys) ∧ h' = h) (∃ (j : Nat), Value.slice a n c = Value.slice a n c ∧ Value.slice a' n' c' = Value.slice a' n' c' ∧ Value.int IntKind.i64 (IntKind.wrap IntKind.i64 ((↑i : Int) + (1 : Int))) = Value.int IntKind.i64 (↑j : Int) ∧ h = h' ∧ EqI xs ys j ∧ List.length xs - j < List.length xs - i ∧ (∀ (k : Unit), xs = ys → xs = ys) ∧ ∀ (v : Value) (h_1 : AHeap), v = Value.bool (eqb xs ys) ∧ h_1 = h → v = Value.bool (eqb xs ys) ∧ h_1 = h)) (∃ (j : Unit), h = h ∧ xs = ys)) ∧ (True ∧ True ∧ True) ∧ (True ∧ (True ∧ True) ∧ True) ∧ True) ∧ True ∧ True) = _) ?_
    simp only [true_and, and_true]
    rintro (i : Nat) I
    have hl := I.len
    have hi := I.hi
    refine bs_d (fun hlt => ?_) (fun hge => ?_)
    · have hxi : i < xs.length := by omega
      have hyi : i < ys.length := by omega
      obtain ⟨l, r, row, ha, hin, hrd, hld⟩ := hx.elem (List.getElem?_eq_getElem hxi)
      obtain ⟨l', r', row', ha', hin', hrd', hld'⟩ := hy.elem (List.getElem?_eq_getElem hyi)
      obtain rfl := rd_reply.1 hrd
      obtain rfl := rd_reply.1 hrd'
      refine ⟨l, r, ha, Int.natCast_nonneg _, hlt, l', r', ha', Int.natCast_nonneg _, by omega, _, _, _, hld, _, _, _, hld', _, _, eqReply_spec h xs[i] ys[i], bs_nb (fun hb => ?_) (fun hb => ?_)⟩
      · exact ⟨congrArg _ (eqb_false fun e => of_eqb_false hb (by subst e; rfl)), rfl⟩
      · exact ⟨i + 1, by rw [wrap_i64 (by omega)] <;> rfl, rfl, I.step hxi hyi (of_eqb hb), by omega, fun _ h => h, fun _ _ h => h⟩
    · have e : i = xs.length := by omega
      subst e
      exact ⟨(), I.all⟩
  · refine vc_mp (by kernel_rfl : (bs (!decide ((↑n : Int) = (↑n' : Int))) (Value.bool false = Value.bool (eqb xs ys) ∧ h = h) (∃ (i : Nat), Value.slice a n c = Value.slice a n c ∧ Value.slice a' n' c' = Value.slice a' n' c' ∧ Value.int IntKind.i64 (0 : Int) = Value.int IntKind.i64 (↑i : Int) ∧ h = h ∧ EqI xs ys i ∧ (∀ (j : Unit), xs = ys → Value.bool true = Value.bool (eqb xs ys) ∧ h = h) ∧ ∀ (v : Value) (h_1 : AHeap), v = Value.bool (eqb xs ys) ∧ h_1 = h → v = Value.bool (eqb xs ys) ∧ h_1 = h)) = _) ?_
    refine bs_dn (fun hne => ⟨congrArg _ (eqb_false fun e => hne (by rw [← en, ← en', e])), rfl⟩) (fun he => ?_)
    exact ⟨(0 : Nat), rfl, rfl, rfl, rfl, ⟨by omega, Nat.zero_le _, rfl⟩, fun j e => ⟨congrArg _ (eqb_true e), rfl⟩, fun _ _ h => h⟩
theorem eqBroker_spec (h : AHeap) (x y : brokerSh.T) (v1 : Value) (v2 : Value) (h1 : Sl h topicSh x.1 v1) (h2 : Sl h replySh x.2 v2) (w1 : Value) (w2 : Value) (j1 : Sl h topicSh y.1 w1) (j2 : Sl h replySh y.2 w2) (ok : brokerSh.ok x) :
    ACall Try.prog 35 [.agg #[v1, v2], .agg #[w1, w2]] h (.bool (eqb x y)) h := by
  obtain ⟨x1, x2⟩ := x
  obtain ⟨y1, y2⟩ := y
  try dsimp only at *
  obtain ⟨a1, c1, rfl⟩ := h1.isSlice
  obtain ⟨a2, c2, rfl⟩ := h2.isSlice
  obtain ⟨ab1, cb1, rfl⟩ := j1.isSlice
  obtain ⟨ab2, cb2, rfl⟩ := j2.isSlice
  refine acall_out (acall_vc (fun _ => false) (fun _ => []) (fun _ => .none) mixed Try.func35 rfl rfl rfl (Nat.le_of_ble_eq_true rfl) (by refine vc_mp (by kernel_rfl : (True ∧ (True ∧ (True ∧ True) ∧ True) ∧ (True ∧ (True ∧ True) ∧ True) ∧ True ∧ True) = _) ?_; simp only [and_self]) ?_)
  refine vc_mp (by kernel_rfl : (∃ (x : Bool), ∃ (h' : AHeap), ACall Try.prog (81 : Nat) [Value.slice a1 (List.length x1) c1, Value.slice ab1 (List.length y1) cb1] h (Value.bool x) h' ∧ bs (!x) (Value.bool false = Value.bool (eqb (x1, x2) (y1, y2)) ∧ h' = h) (∃ (x : Bool), ∃ (h'_1 : AHeap), ACall Try.prog (82 : Nat) [Value.slice a2 (List.length x2) c2, Value.slice ab2 (List.length y2) cb2] h' (Value.bool x) h'_1 ∧ bs (!x) (Value.bool false = Value.bool (eqb (x1, x2) (y1, y2)) ∧ h'_1 = h) (Value.bool true = Value.bool (eqb (x1, x2) (y1, y2)) ∧ h'_1 = h))) = _) ?_
  refine ⟨_, _, eqTopicS_spec h a1 _ c1 ab1 _ cb1 _ _ h1 j1 ok.1, bs_nb (fun e => ⟨congrArg _ (eqb_false fun e' => of_eqb_false e (by cases e'; rfl)), rfl⟩) (fun e1 => ?_)⟩
  refine ⟨_, _, eqReplyS_spec h a2 _ c2 ab2 _ cb2 _ _ h2 j2 ok.2.1, bs_nb (fun e => ⟨congrArg _ (eqb_false fun e' => of_eqb_false e (by cases e'; rfl)), rfl⟩) (fun e2 => ?_)⟩
  exact ⟨congrArg _ (eqb_true (Prod.ext (of_eqb e1) (of_eqb e2))), rfl⟩
theorem eqSnap_spec (h : AHeap) (x y : snapSh.T) (v1 : Value) (v2 : Value) (h1 : Sl h topicSh x.2.1 v1) (h2 : Sl h replySh x.2.2 v2) (w1 : Value) (w2 : Value) (j1 : Sl h topicSh y.2.1 w1) (j2 : Sl h replySh y.2.2 w2) (ok : snapSh.ok x) :
    ACall Try.prog 11 [.agg #[.int .i64 x.1, v1, v2], .agg #[.int .i64 y.1, w1, w2]] h (.bool (eqb x y)) h := by
  obtain ⟨x1, ⟨x2, x3⟩⟩ := x
  obtain ⟨y1, ⟨y2, y3⟩⟩ := y
  try dsimp only at *
  obtain ⟨a1, c1, rfl⟩ := h1.isSlice
  obtain ⟨a2, c2, rfl⟩ := h2.isSlice
  obtain ⟨ab1, cb1, rfl⟩ := j1.isSlice
  obtain ⟨ab2, cb2, rfl⟩ := j2.isSlice
  refine acall_out (acall_vc (fun _ => false) (fun _ => []) (fun _ => .none) mixed Try.func11 rfl rfl rfl (Nat.le_of_ble_eq_true rfl) (by refine vc_mp (by kernel_rfl : (True ∧ (True ∧ (True ∧ True) ∧ True) ∧ (True ∧ (True ∧ True) ∧ True) ∧ True ∧ True) = _) ?_; simp only [and_self]) ?_)
  refine vc_mp (by kernel_rfl : (bs (!decide (x1 = y1)) (Value.bool false = Value.bool (eqb (x1, x2, x3) (y1, y2, y3)) ∧ h = h) (∃ (x : Bool), ∃ (h' : AHeap), ACall Try.prog (35 : Nat) [Value.agg (Array.mk [Value.slice a1 (List.length x2) c1, Value.slice a2 (List.length x3) c2]), Value.agg (Array.mk [Value.slice ab1 (List.length y2) cb1, Value.slice ab2 (List.length y3) cb2])] h (Value.bool x) h' ∧ bs (!x) (Value.bool false = Value.bool (eqb (x1, x2, x3) (y1, y2, y3)) ∧ h' = h) (Value.bool true = Value.bool (eqb (x1, x2, x3) (y1, y2, y3)) ∧ h' = h))) = _) ?_
  refine bs_dn (fun e => ⟨congrArg _ (eqb_false fun e' => e (by cases e'; rfl)), rfl⟩) (fun e1 => ?_)
  refine ⟨_, _, eqBroker_spec h (x2, x3) (y2, y3) _ _ h1 h2 _ _ j1 j2 ok.2, bs_nb (fun e => ⟨congrArg _ (eqb_false fun e' => of_eqb_false e (by cases e'; rfl)), rfl⟩) (fun e2 => ?_)⟩
  exact ⟨congrArg _ (eqb_true (Prod.ext e1 (of_eqb e2))), rfl⟩
theorem eqSnapOut_spec (h : AHeap) (x y : snapOutSh.T) (v1 : Value) (v2 : Value) (h1 : Sl h topicSh x.1.2.1 v1) (h2 : Sl h replySh x.1.2.2 v2) (w1 : Value) (w2 : Value) (j1 : Sl h topicSh y.1.2.1 w1) (j2 : Sl h replySh y.1.2.2 w2) (ok : snapOutSh.ok x) :
    ACall Try.prog 24 [.agg #[.int .i64 x.1.1, v1, v2, .int .i64 x.2], .agg #[.int .i64 y.1.1, w1, w2, .int .i64 y.2]] h (.bool (eqb x y)) h := by
  obtain ⟨⟨x1, ⟨x2, x3⟩⟩, x4⟩ := x
  obtain ⟨⟨y1, ⟨y2, y3⟩⟩, y4⟩ := y
  try dsimp only at *
  obtain ⟨a1, c1, rfl⟩ := h1.isSlice
  obtain ⟨a2, c2, rfl⟩ := h2.isSlice
  obtain ⟨ab1, cb1, rfl⟩ := j1.isSlice
  obtain ⟨ab2, cb2, rfl⟩ := j2.isSlice
  refine acall_out (acall_vc (fun _ => false) (fun _ => []) (fun _ => .none) mixed Try.func24 rfl rfl rfl (Nat.le_of_ble_eq_true rfl) (by refine vc_mp (by kernel_rfl : (True ∧ (True ∧ (True ∧ True) ∧ True) ∧ (True ∧ (True ∧ True) ∧ True) ∧ True ∧ True) = _) ?_; simp only [and_self]) ?_)
  refine vc_mp (by kernel_rfl : (∃ (x : Bool), ∃ (h' : AHeap), ACall Try.prog (11 : Nat) [Value.agg (Array.mk [Value.int IntKind.i64 x1, Value.slice a1 (List.length x2) c1, Value.slice a2 (List.length x3) c2]), Value.agg (Array.mk [Value.int IntKind.i64 y1, Value.slice ab1 (List.length y2) cb1, Value.slice ab2 (List.length y3) cb2])] h (Value.bool x) h' ∧ bs (!x) (Value.bool false = Value.bool (eqb ((x1, x2, x3), x4) ((y1, y2, y3), y4)) ∧ h' = h) (bs (!decide (x4 = y4)) (Value.bool false = Value.bool (eqb ((x1, x2, x3), x4) ((y1, y2, y3), y4)) ∧ h' = h) (Value.bool true = Value.bool (eqb ((x1, x2, x3), x4) ((y1, y2, y3), y4)) ∧ h' = h))) = _) ?_
  refine ⟨_, _, eqSnap_spec h (x1, (x2, x3)) (y1, (y2, y3)) _ _ h1 h2 _ _ j1 j2 ok.1, bs_nb (fun e => ⟨congrArg _ (eqb_false fun e' => of_eqb_false e (by cases e'; rfl)), rfl⟩) (fun e1 => ?_)⟩
  refine bs_dn (fun e => ⟨congrArg _ (eqb_false fun e' => e (by cases e'; rfl)), rfl⟩) (fun e2 => ?_)
  exact ⟨congrArg _ (eqb_true (Prod.ext (of_eqb e1) e2)), rfl⟩
end Go.Proofs.Ytdcijleeoihlfaa
