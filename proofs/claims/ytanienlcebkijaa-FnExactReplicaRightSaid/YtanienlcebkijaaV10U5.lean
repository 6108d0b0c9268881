/- Contracts: replicas that are right: the program. -/
import Derived.Test.YtanienlcebkijaaV10U4
namespace Go.Proofs.Ytanienlcebkijaa
open Go.Abs Go.Dat
set_option maxRecDepth 100000
set_option maxHeartbeats 8000000
theorem isZeroSay_spec (h : AHeap) (k f v q : Int) (op : ByteArray) (cs : List changeSh.T) (a : Option Addr) (c : Nat) :
    ACall Try.prog 183 [.agg #[.int .i64 k, .int .i64 f, .int .i64 v, .int .i64 q, .string op, .slice a cs.length c]] h (.bool (tr (NoSay k f v q op cs))) h := by
  refine acall_out (acall_vc (fun _ => false) (fun _ => []) (fun _ => .none) mixed Try.func183 rfl rfl rfl (Nat.le_of_ble_eq_true rfl) (by refine vc_mp (by kernel_rfl : (True ∧ True ∧ True) = _) ?_; simp only [and_self]) ?_)
  refine vc_mp (by kernel_rfl : (bs (decide (k = (0 : Int))) (bs (decide (f = (0 : Int))) (bs (decide (v = (0 : Int))) (bs (decide (q = (0 : Int))) (bs (decide (op = ByteArray.mk (Array.mk []))) (Value.bool (decide ((↑(List.length cs) : Int) = (0 : Int))) = Value.bool (tr (NoSay k f v q op cs)) ∧ h = h) (Value.bool false = Value.bool (tr (NoSay k f v q op cs)) ∧ h = h)) (Value.bool false = Value.bool (tr (NoSay k f v q op cs)) ∧ h = h)) (Value.bool false = Value.bool (tr (NoSay k f v q op cs)) ∧ h = h)) (Value.bool false = Value.bool (tr (NoSay k f v q op cs)) ∧ h = h)) (Value.bool false = Value.bool (tr (NoSay k f v q op cs)) ∧ h = h)) = _) ?_
  repeat' first | refine bs_d (fun _ => ?_) (fun _ => ?_)
  all_goals refine ⟨congrArg _ ?_, rfl⟩
  all_goals first
    | (refine tr_false fun H => ?_; have := @ba_nil op; unfold NoSay at H; simp_all; done)
    | (rw [tr_dec]; refine tr_congr ?_; have := @ba_nil op; unfold NoSay; constructor <;> intro H <;> simp_all <;> omega)
theorem implNewRight_spec (h : AHeap) (k f v q : Int) (op : ByteArray) (cs : List changeSh.T) (a : Option Addr) (c : Nat) (h1 : Sl h changeSh cs (.slice a cs.length c)) (ok : (Sh.sl changeSh).ok cs) :
    ACall Try.prog 46 [.agg #[.int .i64 k, .int .i64 f, .int .i64 v, .int .i64 q, .string op, .slice a cs.length c]] h (.bool (tr (k = 5 ∧ SayOk k f v q op cs))) h := by
  refine acall_out (acall_vc (fun _ => false) (fun _ => []) (fun _ => .none) mixed Try.func46 rfl rfl rfl (Nat.le_of_ble_eq_true rfl) (by refine vc_mp (by kernel_rfl : (True ∧ True ∧ True) = _) ?_; simp only [and_self]) ?_)
  refine vc_mp (by kernel_rfl : (bs (decide (k = (5 : Int))) (∃ (x : Bool), ∃ (h' : AHeap), ACall Try.prog (97 : Nat) [Value.agg (Array.mk [Value.int IntKind.i64 k, Value.int IntKind.i64 f, Value.int IntKind.i64 v, Value.int IntKind.i64 q, Value.string op, Value.slice a (List.length cs) c])] h (Value.bool x) h' ∧ Value.bool x = Value.bool (tr (k = (5 : Int) ∧ SayOk k f v q op cs)) ∧ h' = h) (Value.bool false = Value.bool (tr (k = (5 : Int) ∧ SayOk k f v q op cs)) ∧ h = h)) = _) ?_
  refine bs_d (fun e => ⟨_, _, isSay_spec h k f v q op cs a c h1 ok, congrArg _ (tr_congr ⟨fun H => ⟨e, H⟩, fun H => H.2⟩), rfl⟩) (fun e => ⟨congrArg _ (tr_false fun H => e H.1), rfl⟩)
theorem isReplicaRight1_spec (h : AHeap) (t : ByteArray) : ACall Try.prog 181 [.string t] h (.bool (tr (¬ t.size ≤ 120))) h := by
  refine acall_out (acall_vc (fun _ => false) (fun _ => []) (fun _ => .none) mixed Try.func181 rfl rfl rfl (Nat.le_of_ble_eq_true rfl) (by refine vc_mp (by kernel_rfl : (True ∧ True ∧ True) = _) ?_; simp only [and_self]) ?_)
  refine vc_mp (by kernel_rfl : (∃ (x : Bool), ∃ (h' : AHeap), ACall Try.prog (111 : Nat) [Value.string t] h (Value.bool x) h' ∧ (Value.bool !x) = Value.bool (tr ¬ByteArray.size t ≤ (120 : Nat)) ∧ h' = h) = _) ?_
  refine ⟨_, _, isOp_spec h t, congrArg _ ?_, rfl⟩
  by_cases e : t.size ≤ 120
  · rw [← tr_true e]; exact tr_false (fun H => H e)
  · rw [← tr_false e]; exact tr_true e
def cloL : Value := .func (.func 181) #[] #[]
def ixlL (a : Option Addr) (n c : Nat) (h : AHeap) (xs : List Sh.str.T) : LSpec where
  ι := Nat
  κ := Unit
  I := fun i => i ≤ n ∧ ∀ (j : Nat) (t : ByteArray), j < i → xs[j]? = some t → t.size ≤ 120
  μ := fun i => n - i
  head := fun i => ⟨[(0, .slice a n c), (1, cloL), (7, .int .i64 n), (8, .int .i64 i)], [], h⟩
  post := fun _ => ⟨[], [], h⟩
  R := fun _ _ => ∀ t ∈ xs, ByteArray.size t ≤ 120
  ret := fun _ v h' => h' = h ∧ ∃ r : Int, v = .int .i64 r ∧ 0 ≤ r ∧ ∃ t ∈ xs, ¬ ByteArray.size t ≤ 120
theorem indexLog_spec (h : AHeap) (a : Option Addr) (c : Nat) (xs : List Sh.str.T) (hx : Sl h Sh.str xs (.slice a xs.length c)) (hn : xs.length ≤ 9223372036854775807) :
    ∃ r h', ACall Try.prog 138 [.slice a xs.length c, cloL] h r h' ∧ h' = h ∧ ∃ i : Int, r = .int .i64 i ∧ (0 ≤ i ↔ ¬ ∀ t ∈ xs, ByteArray.size t ≤ 120) := by
  refine acall_q fun Q HQ => ?_
  refine acall_vc (fun _ => false) (fun _ => []) (fun _ => ixlL a xs.length c h xs) mixed Try.func138 rfl rfl rfl (Nat.le_of_ble_eq_true rfl) ?_ ?_
  · refine vc_mp (by kernel_rfl : (True ∧ (True ∧ (∀ (i : Nat), (i ≤ List.length xs ∧ ∀ (j : Nat) (t : ByteArray), j < i → xs[j]? = some t → ByteArray.size t ≤ (120 : Nat)) → bs (decide ((↑i : Int) < (↑(List.length xs) : Int))) (∃ (l : Nat), ∃ (r : Nat), a = some (Addr.mk l r (some (1 : Nat))) ∧ (0 : Int) ≤ (↑i : Int) ∧ (↑i : Int) < (↑(List.length xs) : Int) ∧ ∃ (x : ByteArray), AHeap.ld h l (r + Int.toNat (↑i : Int)) (0 : Nat) (1 : Nat) = some [Value.string x] ∧ ∃ (x_1 : Bool), ∃ (h' : AHeap), ACall Try.prog (181 : FuncId) [Value.string x] h (Value.bool x_1) h' ∧ bs x_1 (h' = h ∧ ∃ (r : Int), Value.int IntKind.i64 (↑i : Int) = Value.int IntKind.i64 r ∧ (0 : Int) ≤ r ∧ ∃ (t : Sh.T Sh.str), t ∈ xs ∧ ¬ByteArray.size t ≤ (120 : Nat)) (∃ (j : Nat), Value.slice a (List.length xs) c = Value.slice a (List.length xs) c ∧ Value.func (Fn.func (181 : FuncId)) (Array.mk []) (Array.mk []) = Value.func (Fn.func (181 : FuncId)) (Array.mk []) (Array.mk []) ∧ Value.int IntKind.i64 (↑(List.length xs) : Int) = Value.int IntKind.i64 (↑(List.length xs) : Int) ∧ Value.int IntKind.i64 (IntKind.wrap IntKind.i64 ((↑i : Int) + (1 : Int))) = Value.int IntKind.i64 (↑j : Int) ∧ h = h' ∧ (j ≤ List.length xs ∧ ∀ (j_1 : Nat) (t : ByteArray), j_1 < j → xs[j_1]? = some t → ByteArray.size t ≤ (120 : Nat)) ∧ List.length xs - j < List.length xs - i ∧ (∀ (k : Unit), (∀ (t : Sh.T Sh.str), t ∈ xs → ByteArray.size t ≤ (120 : Nat)) → ∀ (t : Sh.T Sh.str), t ∈ xs → ByteArray.size t ≤ (120 : Nat)) ∧ ∀ (v : Value) (h_1 : AHeap), (h_1 = h ∧ ∃ (r : Int), v = Value.int IntKind.i64 r ∧ (0 : Int) ≤ r ∧ ∃ (t : Sh.T Sh.str), t ∈ xs ∧ ¬ByteArray.size t ≤ (120 : Nat)) → h_1 = h ∧ ∃ (r : Int), v = Value.int IntKind.i64 r ∧ (0 : Int) ≤ r ∧ ∃ (t : Sh.T Sh.str), t ∈ xs ∧ ¬ByteArray.size t ≤ (120 : Nat))) (∃ (j : Unit), h = h ∧ ∀ (t : Sh.T Sh.str), t ∈ xs → ByteArray.size t ≤ (120 : Nat))) ∧ True ∧ (True ∧ True) ∧ (True ∧ True ∧ (True ∧ True) ∧ True) ∧ True) ∧ True ∧ True) = _) ?_
    simp only [true_and, and_true]
    rintro (i : Nat) ⟨hi, hall⟩
    refine bs_d (fun hlt => ?_) (fun hge => ⟨(), fun t ht => ?_⟩)
    · obtain ⟨t, hat⟩ : ∃ y : ByteArray, xs[i]? = some y := ⟨_, List.getElem?_eq_getElem (by omega)⟩
      obtain ⟨l, r, row, ha, _, hrd, hld⟩ := hx.elem hat
      obtain rfl : row = [.string t] := hrd
      refine ⟨l, r, ha, Int.natCast_nonneg _, hlt, _, hld, _, _, isReplicaRight1_spec h t, bs_b (fun e => ⟨rfl, _, rfl, Int.natCast_nonneg _, t, List.mem_of_getElem? hat, of_tr e⟩) (fun e => ?_)⟩
      refine ⟨i + 1, by rw [wrap_i64 (by omega)]; rfl, rfl, ⟨by omega, fun j t' hj hj2 => ?_⟩, by omega, fun _ h => h, fun _ _ h => h⟩
      rcases Nat.lt_succ_iff_lt_or_eq.1 hj with hj | rfl
      · exact hall j t' hj hj2
      · rw [hat] at hj2; cases hj2; exact Classical.not_not.1 (of_trn e)
    · obtain ⟨j, hj⟩ := List.mem_iff_getElem?.1 ht
      have := (List.getElem?_eq_some_iff.1 hj).1
      exact hall j t (by omega) hj
  refine vc_mp (by kernel_rfl : (∃ (i : Nat), Value.slice a (List.length xs) c = Value.slice a (List.length xs) c ∧ Value.func (Fn.func (181 : FuncId)) (Array.mk []) (Array.mk []) = Value.func (Fn.func (181 : FuncId)) (Array.mk []) (Array.mk []) ∧ Value.int IntKind.i64 (↑(List.length xs) : Int) = Value.int IntKind.i64 (↑(List.length xs) : Int) ∧ Value.int IntKind.i64 (0 : Int) = Value.int IntKind.i64 (↑i : Int) ∧ h = h ∧ (i ≤ List.length xs ∧ ∀ (j : Nat) (t : ByteArray), j < i → xs[j]? = some t → ByteArray.size t ≤ (120 : Nat)) ∧ (∀ (j : Unit), (∀ (t : Sh.T Sh.str), t ∈ xs → ByteArray.size t ≤ (120 : Nat)) → Q (Value.int IntKind.i64 (-1 : Int)) h) ∧ ∀ (v : Value) (h_1 : AHeap), (h_1 = h ∧ ∃ (r : Int), v = Value.int IntKind.i64 r ∧ (0 : Int) ≤ r ∧ ∃ (t : Sh.T Sh.str), t ∈ xs ∧ ¬ByteArray.size t ≤ (120 : Nat)) → Q v h_1) = _) ?_
  exact ⟨(0 : Nat), rfl, rfl, rfl, rfl, rfl, ⟨Nat.zero_le _, fun j t hj => absurd hj (Nat.not_lt_zero _)⟩, fun _ hall => HQ _ _ ⟨rfl, _, rfl, fun h => absurd h (by decide), fun h => absurd hall h⟩, fun _ _ ⟨e, r, e1, e2, t, ht, hn⟩ => HQ _ _ ⟨e, r, e1, fun _ hall => hn (hall t ht), fun _ => e2⟩⟩
theorem containsLog_spec (h : AHeap) (a : Option Addr) (c : Nat) (xs : List Sh.str.T) (hx : Sl h Sh.str xs (.slice a xs.length c)) (hn : xs.length ≤ 9223372036854775807) :
    ACall Try.prog 79 [.slice a xs.length c, cloL] h (.bool (tr (¬ ∀ t ∈ xs, ByteArray.size t ≤ 120))) h := by
  obtain ⟨_, h0, hA, e0, r, rfl, hr⟩ := indexLog_spec h a c xs hx hn
  rw [e0] at hA
  clear e0
  refine acall_out (acall_vc (fun _ => false) (fun _ => []) (fun _ => .none) mixed Try.func79 rfl rfl rfl (Nat.le_of_ble_eq_true rfl) (by refine vc_mp (by kernel_rfl : (True ∧ True ∧ True) = _) ?_; simp only [and_self]) ?_)
  refine vc_mp (by kernel_rfl : (∃ (x : Int), ∃ (h' : AHeap), ACall Try.prog (138 : Nat) [Value.slice a (List.length xs) c, Value.func (Fn.func (181 : FuncId)) (Array.mk []) (Array.mk [])] h (Value.int IntKind.i64 x) h' ∧ Value.bool (decide (x ≥ (0 : Int))) = Value.bool (tr ¬∀ (t : Sh.T Sh.str), t ∈ xs → ByteArray.size t ≤ (120 : Nat)) ∧ h' = h) = _) ?_
  refine ⟨_, _, hA, congrArg _ ?_, rfl⟩
  rw [tr_dec]
  exact tr_congr hr
def irL (cg : List changeSh.T) (C : List Value) (a2 : Option Addr) (c2 : Nat) (h : AHeap) : LSpec where
  ι := Nat × AHeap
  κ := AHeap
  I := fun i => i.1 ≤ cg.length ∧ h.Le i.2 ∧ i.2.wf ∧ ∀ j, j < i.1 → CgAt cg j
  μ := fun i => cg.length - i.1
  head := fun i => ⟨[(1, .complex .f32 0 0), (54, .slice a2 cg.length c2), (55, .int .i64 cg.length), (56, .int .i64 i.1)], [C], i.2⟩
  post := fun j => ⟨[(1, .complex .f32 0 0)], [C], j⟩
  R := fun _ j => h.Le j ∧ j.wf ∧ ∀ j, j < cg.length → CgAt cg j
  ret := fun _ v h' => v = .bool false ∧ h.Le h' ∧ h'.wf ∧ ∃ j, j < cg.length ∧ ¬ CgAt cg j
theorem isReplicaRight_spec (h : AHeap) (hw : h.wf) (id view top k f v q : Int) (chg : Bool) (vs : List voteSh.T) (cg : List changeSh.T) (op : ByteArray) (cs : List changeSh.T) (log : List Sh.str.T) (a1 : Option Addr) (c1 : Nat) (a2 : Option Addr) (c2 : Nat) (a3 : Option Addr) (c3 : Nat) (a4 : Option Addr) (c4 : Nat)
    (h1 : Sl h voteSh vs (.slice a1 vs.length c1)) (h2 : Sl h changeSh cg (.slice a2 cg.length c2)) (h3 : Sl h changeSh cs (.slice a3 cs.length c3)) (h4 : Sl h Sh.str log (.slice a4 log.length c4))
    (ok : replicaSh.ok (id, view, chg, top, vs, cg, (k, f, v, q, op, cs), log)) :
    ∃ x h', ACall Try.prog 124 [.agg #[.int .i64 id, .int .i64 view, .bool chg, .int .i64 top, .slice a1 vs.length c1, .slice a2 cg.length c2, .int .i64 k, .int .i64 f, .int .i64 v, .int .i64 q, .string op, .slice a3 cs.length c3, .slice a4 log.length c4]] h x h' ∧
      h.Le h' ∧ h'.wf ∧ x = .bool (tr (RepOk (id, view, chg, top, vs, cg, (k, f, v, q, op, cs), log))) := by
  have n2 : cg.length ≤ 9223372036854775807 := ok.2.2.2.2.2.1.1
  have n4 : log.length ≤ 9223372036854775807 := ok.2.2.2.2.2.2.2.1
  obtain ⟨_, g, A1, le1, w1, rfl⟩ := areVotes_spec h hw vs a1 c1 h1 ok.2.2.2.2.1
  refine acall_q fun Q HQ => ?_
  refine acall_vc (fun _ => false) (fun _ => []) (fun _ => irL cg [.int .i64 id, .int .i64 view, .bool chg, .int .i64 top, .slice a1 vs.length c1, .slice a2 cg.length c2, .int .i64 k, .int .i64 f, .int .i64 v, .int .i64 q, .string op, .slice a3 cs.length c3, .slice a4 log.length c4] a2 c2 g) mixed Try.func124 rfl rfl rfl (Nat.le_of_ble_eq_true rfl) ?_ ?_
  · refine vc_mp (by kernel_rfl : (True ∧ (True ∧ (True ∧ True) ∧ True) ∧ (True ∧ (∀ (i : Nat × AHeap), (Prod.fst i ≤ List.length cg ∧ AHeap.Le g (Prod.snd i) ∧ AHeap.wf (Prod.snd i) ∧ ∀ (j : Nat), j < Prod.fst i → CgAt cg j) → bs (decide ((↑(Prod.fst i) : Int) < (↑(List.length cg) : Int))) (∃ (l : Nat), ∃ (r : Nat), a2 = some (Addr.mk l r (some (3 : Nat))) ∧ (0 : Int) ≤ (↑(Prod.fst i) : Int) ∧ (↑(Prod.fst i) : Int) < (↑(List.length cg) : Int) ∧ ∃ (x : Int), ∃ (x_1 : Int), ∃ (a : Option Addr), ∃ (n : Nat), ∃ (c : Nat), AHeap.ld (Prod.snd i) l (r + Int.toNat (↑(Prod.fst i) : Int)) (0 : Nat) (3 : Nat) = some [Value.int IntKind.i64 x, Value.int IntKind.i64 x_1, Value.slice a n c] ∧ ∃ (x_2 : Bool), ∃ (h' : AHeap), ACall Try.prog (110 : Nat) [Value.agg (Array.mk [Value.int IntKind.i64 x, Value.int IntKind.i64 x_1, Value.slice a n c])] (Prod.snd i) (Value.bool x_2) h' ∧ bs (!x_2) (Value.bool false = Value.bool false ∧ AHeap.Le g h' ∧ AHeap.wf h' ∧ ∃ (j : Nat), j < List.length cg ∧ ¬CgAt cg j) (∃ (x_3 : Int), ∃ (h'_1 : AHeap), ACall Try.prog (182 : Nat) [Value.slice a2 (List.length cg) c2, Value.agg (Array.mk [Value.int IntKind.i64 x, Value.int IntKind.i64 x_1, Value.slice a n c])] h' (Value.int IntKind.i64 x_3) h'_1 ∧ bs (decide (x_3 < (↑(Prod.fst i) : Int))) (Value.bool false = Value.bool false ∧ AHeap.Le g h'_1 ∧ AHeap.wf h'_1 ∧ ∃ (j : Nat), j < List.length cg ∧ ¬CgAt cg j) (∃ (j : Nat × AHeap), Value.complex FloatKind.f32 (0 : Nat) (0 : Nat) = Value.complex FloatKind.f32 (0 : Nat) (0 : Nat) ∧ Value.slice a2 (List.length cg) c2 = Value.slice a2 (List.length cg) c2 ∧ Value.int IntKind.i64 (↑(List.length cg) : Int) = Value.int IntKind.i64 (↑(List.length cg) : Int) ∧ Value.int IntKind.i64 (IntKind.wrap IntKind.i64 ((↑(Prod.fst i) : Int) + (1 : Int))) = Value.int IntKind.i64 (↑(Prod.fst j) : Int) ∧ [Value.int IntKind.i64 id, Value.int IntKind.i64 view, Value.bool chg, Value.int IntKind.i64 top, Value.slice a1 (List.length vs) c1, Value.slice a2 (List.length cg) c2, Value.int IntKind.i64 k, Value.int IntKind.i64 f, Value.int IntKind.i64 v, Value.int IntKind.i64 q, Value.string op, Value.slice a3 (List.length cs) c3, Value.slice a4 (List.length log) c4] = [Value.int IntKind.i64 id, Value.int IntKind.i64 view, Value.bool chg, Value.int IntKind.i64 top, Value.slice a1 (List.length vs) c1, Value.slice a2 (List.length cg) c2, Value.int IntKind.i64 k, Value.int IntKind.i64 f, Value.int IntKind.i64 v, Value.int IntKind.i64 q, Value.string op, Value.slice a3 (List.length cs) c3, Value.slice a4 (List.length log) c4] ∧ Prod.snd j = h'_1 ∧ (Prod.fst j ≤ List.length cg ∧ AHeap.Le g (Prod.snd j) ∧ AHeap.wf (Prod.snd j) ∧ ∀ (j_1 : Nat), j_1 < Prod.fst j → CgAt cg j_1) ∧ List.length cg - Prod.fst j < List.length cg - Prod.fst i ∧ (∀ (k : AHeap), (AHeap.Le g k ∧ AHeap.wf k ∧ ∀ (j : Nat), j < List.length cg → CgAt cg j) → AHeap.Le g k ∧ AHeap.wf k ∧ ∀ (j : Nat), j < List.length cg → CgAt cg j) ∧ ∀ (v : Value) (h : AHeap), (v = Value.bool false ∧ AHeap.Le g h ∧ AHeap.wf h ∧ ∃ (j : Nat), j < List.length cg ∧ ¬CgAt cg j) → v = Value.bool false ∧ AHeap.Le g h ∧ AHeap.wf h ∧ ∃ (j : Nat), j < List.length cg ∧ ¬CgAt cg j))) (∃ (j : AHeap), Value.complex FloatKind.f32 (0 : Nat) (0 : Nat) = Value.complex FloatKind.f32 (0 : Nat) (0 : Nat) ∧ [Value.int IntKind.i64 id, Value.int IntKind.i64 view, Value.bool chg, Value.int IntKind.i64 top, Value.slice a1 (List.length vs) c1, Value.slice a2 (List.length cg) c2, Value.int IntKind.i64 k, Value.int IntKind.i64 f, Value.int IntKind.i64 v, Value.int IntKind.i64 q, Value.string op, Value.slice a3 (List.length cs) c3, Value.slice a4 (List.length log) c4] = [Value.int IntKind.i64 id, Value.int IntKind.i64 view, Value.bool chg, Value.int IntKind.i64 top, Value.slice a1 (List.length vs) c1, Value.slice a2 (List.length cg) c2, Value.int IntKind.i64 k, Value.int IntKind.i64 f, Value.int IntKind.i64 v, Value.int IntKind.i64 q, Value.string op, Value.slice a3 (List.length cs) c3, Value.slice a4 (List.length log) c4] ∧ j = Prod.snd i ∧ AHeap.Le g j ∧ AHeap.wf j ∧ ∀ (j : Nat), j < List.length cg → CgAt cg j)) ∧ True ∧ (True ∧ True) ∧ (True ∧ True ∧ (True ∧ True) ∧ True) ∧ True) ∧ True ∧ True) = _) ?_
    simp only [true_and, and_true]
    rintro ⟨i, u⟩ ⟨hi, le, wf, hall⟩
    dsimp only at *
    refine bs_d (fun hlt => ?_) (fun hge => ⟨u, rfl, le, wf, fun j hj => hall j (by omega)⟩)
    obtain ⟨⟨f', v', p⟩, hat⟩ : ∃ y : Int × Int × List proofSh.T, cg[i]? = some y := ⟨_, List.getElem?_eq_getElem (by omega)⟩
    obtain ⟨l, r, row, ha, _, hrd, hld⟩ := ((h2.mono le1).mono le).elem hat
    obtain ⟨v1, rfl, s1⟩ := rd_change.1 hrd
    obtain ⟨a5, c5, rfl⟩ := s1.isSlice
    dsimp only at hld s1
    have okp := ok.2.2.2.2.2.1.2 (f', v', p) (List.mem_of_getElem? hat)
    obtain ⟨_, g2, A2, le2, w2, m, rfl, hm⟩ := changeIndex_spec u wf a2 c2 cg f' v' a5 p.length c5 ((h2.mono le1).mono le) n2
    have self : ChAt cg f' v' i := ⟨_, hat, rfl, rfl⟩
    refine ⟨l, r, ha, Int.natCast_nonneg _, hlt, _, _, _, _, _, hld, _, _, isChange_spec u f' v' p a5 c5 s1 okp.2.2, bs_nb (fun e => ⟨le, wf, i, by omega, fun H => of_trn e (H.out hat).1⟩) (fun e1 => ?_)⟩
    refine ⟨_, _, A2, bs_d (fun e => ⟨le.trans le2, w2, i, by omega, fun H => (hm.low (by omega) self).1 e (H.out hat).2⟩) (fun e2 => ?_)⟩
    have hno : ∀ j, j < i → ¬ ChAt cg f' v' j := Classical.byContradiction fun hn => e2 ((hm.low (by omega) self).2 hn)
    exact ⟨(i + 1, g2), by rw [wrap_i64 (by omega)]; rfl, rfl, ⟨by dsimp only; omega, le.trans le2, w2, upto_step hall ⟨_, hat, of_tr e1, hno⟩⟩, by dsimp only; omega, fun _ h => h, fun _ _ h => h⟩
  have F : ∀ u, h.Le u → u.wf → ¬ RepOk (id, view, chg, top, vs, cg, (k, f, v, q, op, cs), log) → Q (.bool false) u := fun u le w H => HQ _ _ ⟨le, w, congrArg _ (tr_false H)⟩
  refine vc_mp (by kernel_rfl : (∃ (x : Bool), ∃ (h' : AHeap), ACall Try.prog (70 : Nat) [Value.int IntKind.i64 id] h (Value.bool x) h' ∧ bs (!x) (Q (Value.bool false) h') (∃ (x : Bool), ∃ (h'_1 : AHeap), ACall Try.prog (153 : Nat) [Value.int IntKind.i64 view, Value.int IntKind.i64 (0 : Int)] h' (Value.bool x) h'_1 ∧ bs (!x) (Q (Value.bool false) h'_1) (bs chg (bs (decide (view = (0 : Int))) (Q (Value.bool false) h'_1) (∃ (x : Bool), ∃ (h' : AHeap), ACall Try.prog (76 : Nat) [Value.int IntKind.i64 top, Value.int IntKind.i64 (0 : Int), Value.int IntKind.i64 (6 : Int)] h'_1 (Value.bool x) h' ∧ bs (!x) (Q (Value.bool false) h') (∃ (x : Bool), ∃ (h'_2 : AHeap), ACall Try.prog (180 : Nat) [Value.slice a1 (List.length vs) c1] h' (Value.bool x) h'_2 ∧ bs (!x) (Q (Value.bool false) h'_2) (bs (decide ((↑(List.length cg) : Int) > (40 : Int))) (Q (Value.bool false) h'_2) (bs (decide ((↑(List.length log) : Int) > (6 : Int))) (Q (Value.bool false) h'_2) (∃ (x : Bool), ∃ (h' : AHeap), ACall Try.prog (79 : Nat) [Value.slice a4 (List.length log) c4, Value.func (Fn.func (181 : Nat)) (Array.mk []) (Array.mk [])] h'_2 (Value.bool x) h' ∧ bs x (Q (Value.bool false) h') (∃ (i : Nat × AHeap), Value.complex FloatKind.f32 (0 : Nat) (0 : Nat) = Value.complex FloatKind.f32 (0 : Nat) (0 : Nat) ∧ Value.slice a2 (List.length cg) c2 = Value.slice a2 (List.length cg) c2 ∧ Value.int IntKind.i64 (↑(List.length cg) : Int) = Value.int IntKind.i64 (↑(List.length cg) : Int) ∧ Value.int IntKind.i64 (0 : Int) = Value.int IntKind.i64 (↑(Prod.fst i) : Int) ∧ [Value.int IntKind.i64 id, Value.int IntKind.i64 view, Value.bool chg, Value.int IntKind.i64 top, Value.slice a1 (List.length vs) c1, Value.slice a2 (List.length cg) c2, Value.int IntKind.i64 k, Value.int IntKind.i64 f, Value.int IntKind.i64 v, Value.int IntKind.i64 q, Value.string op, Value.slice a3 (List.length cs) c3, Value.slice a4 (List.length log) c4] = [Value.int IntKind.i64 id, Value.int IntKind.i64 view, Value.bool chg, Value.int IntKind.i64 top, Value.slice a1 (List.length vs) c1, Value.slice a2 (List.length cg) c2, Value.int IntKind.i64 k, Value.int IntKind.i64 f, Value.int IntKind.i64 v, Value.int IntKind.i64 q, Value.string op, Value.slice a3 (List.length cs) c3, Value.slice a4 (List.length log) c4] ∧ Prod.snd i = h' ∧ (Prod.fst i ≤ List.length cg ∧ AHeap.Le g (Prod.snd i) ∧ AHeap.wf (Prod.snd i) ∧ ∀ (j : Nat), j < Prod.fst i → CgAt cg j) ∧ (∀ (j : AHeap), (AHeap.Le g j ∧ AHeap.wf j ∧ ∀ (j : Nat), j < List.length cg → CgAt cg j) → ∃ (x : Bool), ∃ (h' : AHeap), ACall Try.prog (183 : Nat) [Value.agg (Array.mk [Value.int IntKind.i64 k, Value.int IntKind.i64 f, Value.int IntKind.i64 v, Value.int IntKind.i64 q, Value.string op, Value.slice a3 (List.length cs) c3])] j (Value.bool x) h' ∧ bs x (Q (Value.bool true) h') (∃ (x : Bool), ∃ (h'_3 : AHeap), ACall Try.prog (46 : Nat) [Value.agg (Array.mk [Value.int IntKind.i64 k, Value.int IntKind.i64 f, Value.int IntKind.i64 v, Value.int IntKind.i64 q, Value.string op, Value.slice a3 (List.length cs) c3])] h' (Value.bool x) h'_3 ∧ Q (Value.bool x) h'_3)) ∧ ∀ (v : Value) (h : AHeap), (v = Value.bool false ∧ AHeap.Le g h ∧ AHeap.wf h ∧ ∃ (j : Nat), j < List.length cg ∧ ¬CgAt cg j) → Q v h))))))) (∃ (x : Bool), ∃ (h' : AHeap), ACall Try.prog (76 : Nat) [Value.int IntKind.i64 top, Value.int IntKind.i64 (0 : Int), Value.int IntKind.i64 (6 : Int)] h'_1 (Value.bool x) h' ∧ bs (!x) (Q (Value.bool false) h') (∃ (x : Bool), ∃ (h'_2 : AHeap), ACall Try.prog (180 : Nat) [Value.slice a1 (List.length vs) c1] h' (Value.bool x) h'_2 ∧ bs (!x) (Q (Value.bool false) h'_2) (bs (decide ((↑(List.length cg) : Int) > (40 : Int))) (Q (Value.bool false) h'_2) (bs (decide ((↑(List.length log) : Int) > (6 : Int))) (Q (Value.bool false) h'_2) (∃ (x : Bool), ∃ (h' : AHeap), ACall Try.prog (79 : Nat) [Value.slice a4 (List.length log) c4, Value.func (Fn.func (181 : Nat)) (Array.mk []) (Array.mk [])] h'_2 (Value.bool x) h' ∧ bs x (Q (Value.bool false) h') (∃ (i : Nat × AHeap), Value.complex FloatKind.f32 (0 : Nat) (0 : Nat) = Value.complex FloatKind.f32 (0 : Nat) (0 : Nat) ∧ Value.slice a2 (List.length cg) c2 = Value.slice a2 (List.length cg) c2 ∧ Value.int IntKind.i64 (↑(List.length cg) : Int) = Value.int IntKind.i64 (↑(List.length cg) : Int) ∧ Value.int IntKind.i64 (0 : Int) = Value.int IntKind.i64 (↑(Prod.fst i) : Int) ∧ [Value.int IntKind.i64 id, Value.int IntKind.i64 view, Value.bool chg, Value.int IntKind.i64 top, Value.slice a1 (List.length vs) c1, Value.slice a2 (List.length cg) c2, Value.int IntKind.i64 k, Value.int IntKind.i64 f, Value.int IntKind.i64 v, Value.int IntKind.i64 q, Value.string op, Value.slice a3 (List.length cs) c3, Value.slice a4 (List.length log) c4] = [Value.int IntKind.i64 id, Value.int IntKind.i64 view, Value.bool chg, Value.int IntKind.i64 top, Value.slice a1 (List.length vs) c1, Value.slice a2 (List.length cg) c2, Value.int IntKind.i64 k, Value.int IntKind.i64 f, Value.int IntKind.i64 v, Value.int IntKind.i64 q, Value.string op, Value.slice a3 (List.length cs) c3, Value.slice a4 (List.length log) c4] ∧ Prod.snd i = h' ∧ (Prod.fst i ≤ List.length cg ∧ AHeap.Le g (Prod.snd i) ∧ AHeap.wf (Prod.snd i) ∧ ∀ (j : Nat), j < Prod.fst i → CgAt cg j) ∧ (∀ (j : AHeap), (AHeap.Le g j ∧ AHeap.wf j ∧ ∀ (j : Nat), j < List.length cg → CgAt cg j) → ∃ (x : Bool), ∃ (h' : AHeap), ACall Try.prog (183 : Nat) [Value.agg (Array.mk [Value.int IntKind.i64 k, Value.int IntKind.i64 f, Value.int IntKind.i64 v, Value.int IntKind.i64 q, Value.string op, Value.slice a3 (List.length cs) c3])] j (Value.bool x) h' ∧ bs x (Q (Value.bool true) h') (∃ (x : Bool), ∃ (h'_3 : AHeap), ACall Try.prog (46 : Nat) [Value.agg (Array.mk [Value.int IntKind.i64 k, Value.int IntKind.i64 f, Value.int IntKind.i64 v, Value.int IntKind.i64 q, Value.string op, Value.slice a3 (List.length cs) c3])] h' (Value.bool x) h'_3 ∧ Q (Value.bool x) h'_3)) ∧ ∀ (v : Value) (h : AHeap), (v = Value.bool false ∧ AHeap.Le g h ∧ AHeap.wf h ∧ ∃ (j : Nat), j < List.length cg ∧ ¬CgAt cg j) → Q v h))))))))) = _) ?_
  refine ⟨_, _, isReplica_spec _ _, bs_nb (fun e => F _ (.refl _) hw fun H => inF e H.1) (fun e1 => ⟨_, _, isView_spec _ _ _, bs_nb (fun e => F _ (.refl _) hw fun H => of_trn e H.2.1) (fun e2 => ?_)⟩)⟩
  have e2' := of_tr e2
  refine bs_of (fun hc => bs_d (fun hv => F _ (.refl _) hw fun H => H.2.2.1 ⟨hc, hv⟩) (fun hv => ?_)) (fun hc => ?_)
  all_goals
    have hcv : ¬ (chg = true ∧ view = 0) := by first | (intro H; omega) | (intro H; rw [hc] at H; cases H.1)
    refine ⟨_, _, within_spec _ _ _ _, bs_nb (fun e => F _ (.refl _) hw fun H => inF e H.2.2.2.1) (fun e3 => ?_)⟩
    refine ⟨_, _, A1, bs_nb (fun e => F _ le1 w1 fun H => of_trn e H.2.2.2.2.1) (fun e4 => ?_)⟩
    refine bs_d (fun e => F _ le1 w1 fun H => by have := H.2.2.2.2.2.1.1; dsimp only at this; omega) (fun e5 => ?_)
    refine bs_d (fun e => F _ le1 w1 fun H => by have : log.length ≤ 6 := H.2.2.2.2.2.2.2.1; omega) (fun e8 => ?_)
    refine ⟨_, _, containsLog_spec g a4 c4 log (h4.mono le1) n4, bs_b (fun e => F _ le1 w1 fun H => of_tr e H.2.2.2.2.2.2.2.2) (fun e9 => ?_)⟩
    have hl : ∀ t ∈ log, ByteArray.size t ≤ 120 := Classical.not_not.1 (of_trn e9)
    refine ⟨(0, g), rfl, rfl, rfl, rfl, rfl, rfl, ⟨Nat.zero_le _, .refl _, w1, fun j hj => absurd hj (Nat.not_lt_zero _)⟩, fun u ⟨lu, wu, hall⟩ => ?_, fun _ u ⟨x1, lu, wu, j, hj, hn⟩ => HQ _ _ ⟨le1.trans lu, wu, x1.trans (congrArg _ (tr_false fun H => hn (H.2.2.2.2.2.1.2 j hj)))⟩⟩
    have hcg : CgsOk cg := ⟨by omega, hall⟩
    have hlog : LogOk log := ⟨by omega, hl⟩
    refine ⟨_, _, isZeroSay_spec u k f v q op cs a3 c3, bs_b (fun e6 => HQ _ _ ⟨le1.trans lu, wu, congrArg _ (tr_true ⟨inT e1, e2', hcv, inT e3, of_tr e4, hcg, .inl (of_tr e6), hlog⟩)⟩) (fun e6 => ?_)⟩
    refine ⟨_, _, implNewRight_spec u k f v q op cs a3 c3 ((h3.mono le1).mono lu) ok.2.2.2.2.2.2.1.2.2.2.2.2, HQ _ _ ⟨le1.trans lu, wu, congrArg _ (tr_congr ⟨fun H => ⟨inT e1, e2', hcv, inT e3, of_tr e4, hcg, .inr H, hlog⟩, fun H => H.2.2.2.2.2.2.1.resolve_left (of_trn e6)⟩)⟩⟩
abbrev repV (r : replicaSh.T) (v1 v2 v3 v4 : Value) : Value := .agg #[.int .i64 r.1, .int .i64 r.2.1, .bool r.2.2.1, .int .i64 r.2.2.2.1, v1, v2, .int .i64 r.2.2.2.2.2.2.1.1, .int .i64 r.2.2.2.2.2.2.1.2.1, .int .i64 r.2.2.2.2.2.2.1.2.2.1, .int .i64 r.2.2.2.2.2.2.1.2.2.2.1, .string r.2.2.2.2.2.2.1.2.2.2.2.1, v3, v4]
theorem xsReplicaRight (h : AHeap) (hw : h.wf) (r : replicaSh.T) (v1 v2 v3 v4 : Value) (h1 : Sl h voteSh r.2.2.2.2.1 v1) (h2 : Sl h changeSh r.2.2.2.2.2.1 v2) (h3 : Sl h changeSh r.2.2.2.2.2.2.1.2.2.2.2.2 v3) (h4 : Sl h Sh.str r.2.2.2.2.2.2.2 v4) (ok : replicaSh.ok r) (_ : replicaSh.small r) :
    ∃ v h', ACall Try.prog 50 [repV r v1 v2 v3 v4] h v h' ∧ h.Le h' ∧ h'.wf ∧ v = .bool (tr (RepOk r)) := by
  obtain ⟨(id : Int), (view : Int), (chg : Bool), (top : Int), (vs : List voteSh.T), (cg : List changeSh.T), ⟨(k : Int), (f : Int), (v : Int), (q : Int), (op : ByteArray), (cs : List changeSh.T)⟩, (log : List Sh.str.T)⟩ := r
  obtain ⟨a1, c1, rfl⟩ := h1.isSlice
  obtain ⟨a2, c2, rfl⟩ := h2.isSlice
  obtain ⟨a3, c3, rfl⟩ := h3.isSlice
  obtain ⟨a4, c4, rfl⟩ := h4.isSlice
  exact ⟨_, _, replicaRight_spec h id view top k f v q chg vs cg op cs log a1 c1 a2 c2 a3 c3 a4 c4 h1 h2 h3 h4 ok, .refl _, hw, rfl⟩
theorem xiReplicaRight (h : AHeap) (hw : h.wf) (r : replicaSh.T) (v1 v2 v3 v4 : Value) (h1 : Sl h voteSh r.2.2.2.2.1 v1) (h2 : Sl h changeSh r.2.2.2.2.2.1 v2) (h3 : Sl h changeSh r.2.2.2.2.2.2.1.2.2.2.2.2 v3) (h4 : Sl h Sh.str r.2.2.2.2.2.2.2 v4) (ok : replicaSh.ok r) (_ : replicaSh.small r) :
    ∃ v h', ACall Try.prog 52 [repV r v1 v2 v3 v4] h v h' ∧ h.Le h' ∧ h'.wf ∧ v = .bool (tr (RepOk r)) := by
  obtain ⟨(id : Int), (view : Int), (chg : Bool), (top : Int), (vs : List voteSh.T), (cg : List changeSh.T), ⟨(k : Int), (f : Int), (v : Int), (q : Int), (op : ByteArray), (cs : List changeSh.T)⟩, (log : List Sh.str.T)⟩ := r
  obtain ⟨a1, c1, rfl⟩ := h1.isSlice
  obtain ⟨a2, c2, rfl⟩ := h2.isSlice
  obtain ⟨a3, c3, rfl⟩ := h3.isSlice
  obtain ⟨a4, c4, rfl⟩ := h4.isSlice
  obtain ⟨_, g, A, le, w, rfl⟩ := isReplicaRight_spec h hw id view top k f v q chg vs cg op cs log a1 c1 a2 c2 a3 c3 a4 c4 h1 h2 h3 h4 ok
  refine acall_q fun Q HQ => ?_
  refine acall_vc (fun _ => false) (fun _ => []) (fun _ => .none) mixed Try.func52 rfl rfl rfl (Nat.le_of_ble_eq_true rfl) (by refine vc_mp (by kernel_rfl : (True ∧ True ∧ True) = _) ?_; simp only [and_self]) ?_
  refine vc_mp (by kernel_rfl : (∃ (x : Bool), ∃ (h' : AHeap), ACall Try.prog (124 : Nat) [Value.agg (Array.mk [Value.int IntKind.i64 id, Value.int IntKind.i64 view, Value.bool chg, Value.int IntKind.i64 top, Value.slice a1 (List.length vs) c1, Value.slice a2 (List.length cg) c2, Value.int IntKind.i64 k, Value.int IntKind.i64 f, Value.int IntKind.i64 v, Value.int IntKind.i64 q, Value.string op, Value.slice a3 (List.length cs) c3, Value.slice a4 (List.length log) c4])] h (Value.bool x) h' ∧ Q (Value.bool x) h') = _) ?_
  exact ⟨_, _, A, HQ _ _ ⟨le, w, rfl⟩⟩
end Go.Proofs.Ytanienlcebkijaa
