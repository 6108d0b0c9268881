/- Contracts: lists of votes that are right. -/
import Derived.Test.YtanienlcebkijaaV10U1
namespace Go.Dat
open Go.Abs
def VtAt (xs : List voteSh.T) (i : Nat) : Prop := ∃ x : voteSh.T, xs[i]? = some x ∧ VotOk x.1 x.2.1 x.2.2.1 x.2.2.2.1 x.2.2.2.2 ∧ ∀ j, j < i → ¬ VoteAt xs x j
theorem VtAt.out {xs : List voteSh.T} {i : Nat} {k v q f : Int} {op : ByteArray} (H : VtAt xs i) (e : xs[i]? = some (k, v, q, op, f)) : VotOk k v q op f ∧ ∀ j, j < i → ¬ VoteAt xs (k, v, q, op, f) j := by
  obtain ⟨x, e', h1, h2⟩ := H
  rw [e] at e'
  cases e'
  exact ⟨h1, h2⟩
def VotsOk (xs : List voteSh.T) : Prop := xs.length ≤ 400 ∧ ∀ i, i < xs.length → VtAt xs i
theorem IdxRes.low {P : Nat → Prop} {n : Nat} {r : Int} (H : IdxRes P n r) {i : Nat} (hi : i < n) (hP : P i) : (r < i ↔ ¬ ∀ j, j < i → ¬ P j) := by
  rcases H with ⟨_, h⟩ | ⟨m, hm, rfl, h1, h2⟩
  · exact absurd hP (h i hi)
  · constructor
    · intro hlt hn
      exact hn m (by omega) h1
    · intro hn
      refine Classical.byContradiction fun hge => hn fun j hj => h2 j (by omega)
theorem rows_take' {h : AHeap} {l r e n c i c' : Nat} {rows : List (List Value)} (hr : h.rowsOf (.slice (some ⟨l, r, some e⟩) n c) = some rows) (hi : i ≤ n) : h.rowsOf (.slice (some ⟨l, r, some e⟩) i c') = some (rows.take i) := by
  unfold AHeap.rowsOf at hr ⊢
  dsimp only at hr ⊢
  cases hg : h.get l with
  | none => rw [hg] at hr; cases hr
  | some o =>
    rw [hg] at hr
    dsimp only at hr ⊢
    cases h1 : o.esz == e with
    | false => rw [h1] at hr; cases hr
    | true =>
      rw [h1] at hr
      simp only [Bool.true_and] at hr ⊢
      by_cases h2 : r + n ≤ o.rows.length
      · rw [decide_eq_true h2] at hr
        rw [decide_eq_true (by omega : r + i ≤ o.rows.length)]
        cases hr
        show some _ = some _
        rw [List.take_take, Nat.min_eq_left hi]
      · rw [decide_eq_false h2] at hr; cases hr
theorem Sl.take {h : AHeap} {s : Sh} {xs : List s.T} {l r n c i c' : Nat} (x : Sl h s xs (.slice (some ⟨l, r, some s.cells⟩) n c)) (hi : i ≤ n) : Sl h s (xs.take i) (.slice (some ⟨l, r, some s.cells⟩) i c') := by
  obtain ⟨a', n', c'', rows, e, h1, h2, h3, h4⟩ := x
  cases e
  have up : ∀ {α : Type} {ys : List α} {j : Nat} {y : α}, (ys.take i)[j]? = some y → ys[j]? = some y := fun {_ ys j y} h => by
    rw [List.getElem?_take] at h
    split at h
    · exact h
    · cases h
  exact ⟨_, _, _, rows.take i, rfl, .inr ⟨_, _, rfl⟩, rows_take' h2 hi, by rw [List.length_take]; omega, fun j y row hy hr => h4 j y row (up hy) (up hr)⟩
theorem VoteAt.pre {xs : List voteSh.T} {y : voteSh.T} {i j : Nat} (hj : j < i) : VoteAt (xs.take i) y j ↔ VoteAt xs y j := by
  unfold VoteAt
  rw [List.getElem?_take, if_pos hj]
theorem votes_pre {xs : List voteSh.T} {y : voteSh.T} {i : Nat} : (∀ j, j < i → ¬ VoteAt (xs.take i) y j) ↔ ∀ j, j < i → ¬ VoteAt xs y j := by
  exact ⟨fun H j hj h => H j hj ((VoteAt.pre hj).2 h), fun H j hj h => H j hj ((VoteAt.pre hj).1 h)⟩
end Go.Dat
namespace Go.Proofs.Ytanienlcebkijaa
open Go.Abs Go.Dat
set_option maxRecDepth 100000
set_option maxHeartbeats 8000000
def avL (xs : List voteSh.T) (a : Option Addr) (c : Nat) (h : AHeap) : LSpec where
  ι := Nat × AHeap
  κ := AHeap
  I := fun i => xs.length ≤ 400 ∧ i.1 ≤ xs.length ∧ h.Le i.2 ∧ i.2.wf ∧ ∀ j, j < i.1 → VtAt xs j
  μ := fun i => xs.length - i.1
  head := fun i => ⟨[(0, .slice a xs.length c), (8, .slice a xs.length c), (9, .int .i64 xs.length), (10, .int .i64 i.1)], [], i.2⟩
  post := fun j => ⟨[], [], j⟩
  R := fun _ j => h.Le j ∧ j.wf ∧ ∀ j, j < xs.length → VtAt xs j
  ret := fun _ v h' => v = .bool false ∧ h.Le h' ∧ h'.wf ∧ ∃ j, j < xs.length ∧ ¬ VtAt xs j
theorem areVotes_spec (h : AHeap) (hw : h.wf) (xs : List voteSh.T) (a : Option Addr) (c : Nat) (h1 : Sl h voteSh xs (.slice a xs.length c)) (ok : (Sh.sl voteSh).ok xs) :
    ∃ v h', ACall Try.prog 180 [.slice a xs.length c] h v h' ∧ h.Le h' ∧ h'.wf ∧ v = .bool (tr (VotsOk xs)) := by
  have n1 : xs.length ≤ 9223372036854775807 := ok.1
  refine acall_q fun Q HQ => ?_
  refine acall_vc (fun _ => false) (fun _ => []) (fun _ => avL xs a c h) mixed Try.func180 rfl rfl rfl (Nat.le_of_ble_eq_true rfl) ?_ ?_
  · refine vc_mp (by kernel_rfl : (True ∧ (True ∧ (True ∧ True) ∧ True) ∧ (True ∧ (∀ (i : Nat × AHeap), (List.length xs ≤ (400 : Nat) ∧ Prod.fst i ≤ List.length xs ∧ AHeap.Le h (Prod.snd i) ∧ AHeap.wf (Prod.snd i) ∧ ∀ (j : Nat), j < Prod.fst i → VtAt xs j) → bs (decide ((↑(Prod.fst i) : Int) < (↑(List.length xs) : Int))) (∃ (l : Nat), ∃ (r : Nat), a = some (Addr.mk l r (some (5 : Nat))) ∧ (0 : Int) ≤ (↑(Prod.fst i) : Int) ∧ (↑(Prod.fst i) : Int) < (↑(List.length xs) : Int) ∧ ∃ (x : Int), ∃ (x_1 : Int), ∃ (x_2 : Int), ∃ (x_3 : ByteArray), ∃ (x_4 : Int), AHeap.ld (Prod.snd i) l (r + Int.toNat (↑(Prod.fst i) : Int)) (0 : Nat) (5 : Nat) = some [Value.int IntKind.i64 x, Value.int IntKind.i64 x_1, Value.int IntKind.i64 x_2, Value.string x_3, Value.int IntKind.i64 x_4] ∧ ∃ (x_5 : Bool), ∃ (h' : AHeap), ACall Try.prog (205 : Nat) [Value.agg (Array.mk [Value.int IntKind.i64 x, Value.int IntKind.i64 x_1, Value.int IntKind.i64 x_2, Value.string x_3, Value.int IntKind.i64 x_4])] (Prod.snd i) (Value.bool x_5) h' ∧ bs (!x_5) (Value.bool false = Value.bool false ∧ AHeap.Le h h' ∧ AHeap.wf h' ∧ ∃ (j : Nat), j < List.length xs ∧ ¬VtAt xs j) (∃ (x_6 : Int), ∃ (h'_1 : AHeap), ACall Try.prog (206 : Nat) [Value.slice a (List.length xs) c, Value.agg (Array.mk [Value.int IntKind.i64 x, Value.int IntKind.i64 x_1, Value.int IntKind.i64 x_2, Value.string x_3, Value.int IntKind.i64 x_4])] h' (Value.int IntKind.i64 x_6) h'_1 ∧ bs (decide (x_6 < (↑(Prod.fst i) : Int))) (Value.bool false = Value.bool false ∧ AHeap.Le h h'_1 ∧ AHeap.wf h'_1 ∧ ∃ (j : Nat), j < List.length xs ∧ ¬VtAt xs j) (∃ (j : Nat × AHeap), Value.slice a (List.length xs) c = Value.slice a (List.length xs) c ∧ Value.slice a (List.length xs) c = Value.slice a (List.length xs) c ∧ Value.int IntKind.i64 (↑(List.length xs) : Int) = Value.int IntKind.i64 (↑(List.length xs) : Int) ∧ Value.int IntKind.i64 (IntKind.wrap IntKind.i64 ((↑(Prod.fst i) : Int) + (1 : Int))) = Value.int IntKind.i64 (↑(Prod.fst j) : Int) ∧ Prod.snd j = h'_1 ∧ (List.length xs ≤ (400 : Nat) ∧ Prod.fst j ≤ List.length xs ∧ AHeap.Le h (Prod.snd j) ∧ AHeap.wf (Prod.snd j) ∧ ∀ (j_1 : Nat), j_1 < Prod.fst j → VtAt xs j_1) ∧ List.length xs - Prod.fst j < List.length xs - Prod.fst i ∧ (∀ (k : AHeap), (AHeap.Le h k ∧ AHeap.wf k ∧ ∀ (j : Nat), j < List.length xs → VtAt xs j) → AHeap.Le h k ∧ AHeap.wf k ∧ ∀ (j : Nat), j < List.length xs → VtAt xs j) ∧ ∀ (v : Value) (h_1 : AHeap), (v = Value.bool false ∧ AHeap.Le h h_1 ∧ AHeap.wf h_1 ∧ ∃ (j : Nat), j < List.length xs ∧ ¬VtAt xs j) → v = Value.bool false ∧ AHeap.Le h h_1 ∧ AHeap.wf h_1 ∧ ∃ (j : Nat), j < List.length xs ∧ ¬VtAt xs j))) (∃ (j : AHeap), j = Prod.snd i ∧ AHeap.Le h j ∧ AHeap.wf j ∧ ∀ (j : Nat), j < List.length xs → VtAt xs j)) ∧ True ∧ (True ∧ True) ∧ (True ∧ True ∧ (True ∧ True) ∧ True) ∧ True) ∧ True ∧ True) = _) ?_
    simp only [true_and, and_true]
    rintro ⟨i, g⟩ ⟨hb, hi, le, wf, hall⟩
    dsimp only at *
    refine bs_d (fun hlt => ?_) (fun hge => ⟨g, rfl, le, wf, fun j hj => hall j (by omega)⟩)
    obtain ⟨⟨k, v, q, op, f⟩, hat⟩ : ∃ y : Int × Int × Int × ByteArray × Int, xs[i]? = some y := ⟨_, List.getElem?_eq_getElem (by omega)⟩
    obtain ⟨l, r, row, ha, _, hrd, hld⟩ := (h1.mono le).elem hat
    obtain rfl := rd_vote.1 hrd
    dsimp only at hld
    obtain ⟨_, g2, A2, le2, w2, m, rfl, hm⟩ := voteIndex_spec g wf a c xs k v q f op (h1.mono le) n1
    have self : VoteAt xs (k, v, q, op, f) i := ⟨_, hat, rfl, rfl, rfl, rfl⟩
    refine ⟨l, r, ha, Int.natCast_nonneg _, hlt, _, _, _, _, _, hld, _, _, isVote_spec g k v q f op, bs_nb (fun e => ⟨le, wf, i, by omega, fun H => of_trn e (H.out hat).1⟩) (fun e1 => ?_)⟩
    refine ⟨_, _, A2, bs_d (fun e => ⟨le.trans le2, w2, i, by omega, fun H => (hm.low (by omega) self).1 e (H.out hat).2⟩) (fun e2 => ?_)⟩
    have hno : ∀ j, j < i → ¬ VoteAt xs (k, v, q, op, f) j := Classical.byContradiction fun hn => e2 ((hm.low (by omega) self).2 hn)
    exact ⟨(i + 1, g2), by rw [wrap_i64 (by omega)]; rfl, rfl, ⟨hb, by dsimp only; omega, le.trans le2, w2, upto_step hall ⟨_, hat, of_tr e1, hno⟩⟩, by dsimp only; omega, fun _ h => h, fun _ _ h => h⟩
  refine vc_mp (by kernel_rfl : (bs (decide ((↑(List.length xs) : Int) > (400 : Int))) (Q (Value.bool false) h) (∃ (i : Nat × AHeap), Value.slice a (List.length xs) c = Value.slice a (List.length xs) c ∧ Value.slice a (List.length xs) c = Value.slice a (List.length xs) c ∧ Value.int IntKind.i64 (↑(List.length xs) : Int) = Value.int IntKind.i64 (↑(List.length xs) : Int) ∧ Value.int IntKind.i64 (0 : Int) = Value.int IntKind.i64 (↑(Prod.fst i) : Int) ∧ Prod.snd i = h ∧ (List.length xs ≤ (400 : Nat) ∧ Prod.fst i ≤ List.length xs ∧ AHeap.Le h (Prod.snd i) ∧ AHeap.wf (Prod.snd i) ∧ ∀ (j : Nat), j < Prod.fst i → VtAt xs j) ∧ (∀ (j : AHeap), (AHeap.Le h j ∧ AHeap.wf j ∧ ∀ (j : Nat), j < List.length xs → VtAt xs j) → Q (Value.bool true) j) ∧ ∀ (v : Value) (h_1 : AHeap), (v = Value.bool false ∧ AHeap.Le h h_1 ∧ AHeap.wf h_1 ∧ ∃ (j : Nat), j < List.length xs ∧ ¬VtAt xs j) → Q v h_1)) = _) ?_
  refine bs_d (fun e => HQ _ _ ⟨.refl _, hw, congrArg _ (tr_false fun H => by have := H.1; omega)⟩) (fun e => ?_)
  exact ⟨(0, h), rfl, rfl, rfl, rfl, rfl, ⟨by omega, Nat.zero_le _, .refl _, hw, fun j hj => absurd hj (Nat.not_lt_zero _)⟩, fun g hg => HQ _ _ ⟨hg.1, hg.2.1, congrArg _ (tr_true ⟨by omega, hg.2.2⟩)⟩, fun v g ⟨e1, e2, e3, j, hj, hn⟩ => HQ _ _ ⟨e2, e3, e1.trans (congrArg _ (tr_false fun H => hn (H.2 j hj)))⟩⟩
theorem l11Same_spec (h : AHeap) (k v q f : Int) (op : ByteArray) (k' v' q' f' : Int) (op' : ByteArray) :
    ACall Try.prog 203 [.agg #[.int .i64 k', .int .i64 v', .int .i64 q', .string op', .int .i64 f'], .agg #[.int .i64 k, .int .i64 v, .int .i64 q, .string op, .int .i64 f]] h (.bool (tr (SameV (k', v', q', op', f') (k, v, q, op, f)))) h := by
  refine acall_out (acall_vc (fun _ => false) (fun _ => []) (fun _ => .none) mixed Try.func203 rfl rfl rfl (Nat.le_of_ble_eq_true rfl) (by refine vc_mp (by kernel_rfl : (True ∧ True ∧ True) = _) ?_; simp only [and_self]) ?_)
  refine vc_mp (by kernel_rfl : (bs (decide (k' = k)) (bs (decide (v' = v)) (bs (decide (q' = q)) (Value.bool (decide (f' = f)) = Value.bool (tr (SameV (k', v', q', op', f') (k, v, q, op, f))) ∧ h = h) (Value.bool false = Value.bool (tr (SameV (k', v', q', op', f') (k, v, q, op, f))) ∧ h = h)) (Value.bool false = Value.bool (tr (SameV (k', v', q', op', f') (k, v, q, op, f))) ∧ h = h)) (Value.bool false = Value.bool (tr (SameV (k', v', q', op', f') (k, v, q, op, f))) ∧ h = h)) = _) ?_
  refine bs_d (fun e1 => bs_d (fun e2 => bs_d (fun e3 => ⟨congrArg _ ?_, rfl⟩) (fun e => ⟨congrArg _ (tr_false fun H => e H.2.2.1), rfl⟩)) (fun e => ⟨congrArg _ (tr_false fun H => e H.2.1), rfl⟩)) (fun e => ⟨congrArg _ (tr_false fun H => e H.1), rfl⟩)
  rw [tr_dec]
  exact tr_congr ⟨fun H => ⟨e1, e2, e3, H⟩, fun H => H.2.2.2⟩
def hasL (xs : List voteSh.T) (y : voteSh.T) (a : Option Addr) (c : Nat) (h : AHeap) : LSpec where
  ι := Nat
  κ := Unit
  I := fun i => i ≤ xs.length ∧ ∀ j, j < i → ¬ VoteAt xs y j
  μ := fun i => xs.length - i
  head := fun i => ⟨[(0, .slice a xs.length c), (3, .complex .f32 0 0), (5, .int .i64 i)], [[.int .i64 y.1, .int .i64 y.2.1, .int .i64 y.2.2.1, .string y.2.2.2.1, .int .i64 y.2.2.2.2]], h⟩
  post := fun _ => ⟨[], [], h⟩
  R := fun _ _ => ∀ j, j < xs.length → ¬ VoteAt xs y j
  ret := fun _ v h' => v = .bool true ∧ h' = h ∧ ¬ ∀ j, j < xs.length → ¬ VoteAt xs y j
theorem l11Has_spec (h : AHeap) (xs : List voteSh.T) (a : Option Addr) (c : Nat) (k v q f : Int) (op : ByteArray) (h1 : Sl h voteSh xs (.slice a xs.length c)) (hn : xs.length ≤ 9223372036854775807) :
    ACall Try.prog 176 [.slice a xs.length c, .agg #[.int .i64 k, .int .i64 v, .int .i64 q, .string op, .int .i64 f]] h (.bool (tr (¬ ∀ j, j < xs.length → ¬ VoteAt xs (k, v, q, op, f) j))) h := by
  refine acall_out (acall_vc (fun _ => false) (fun r => match r with | 4 => [(0, 0, []), (1, 0, []), (2, 0, []), (3, 1, []), (4, 1, []), (5, 3, [])] | _ => []) (fun _ => hasL xs (k, v, q, op, f) a c h) mixed Try.func176 rfl rfl rfl (Nat.le_of_ble_eq_true rfl) ?_ ?_)
  · refine vc_mp (by kernel_rfl : (True ∧ (True ∧ (∀ (i : Nat), (i ≤ List.length xs ∧ ∀ (j : Nat), j < i → ¬VoteAt xs (k, v, q, op, f) j) → bs (decide ((↑i : Int) < (↑(List.length xs) : Int))) (∃ (l : Nat), ∃ (r : Nat), a = some (Addr.mk l r (some (5 : Nat))) ∧ (0 : Int) ≤ (↑i : Int) ∧ (↑i : Int) < (↑(List.length xs) : Int) ∧ ∃ (x : Int), ∃ (x_1 : Int), ∃ (x_2 : Int), ∃ (x_3 : ByteArray), ∃ (x_4 : Int), AHeap.ld h l (r + Int.toNat (↑i : Int)) (0 : Nat) (5 : Nat) = some [Value.int IntKind.i64 x, Value.int IntKind.i64 x_1, Value.int IntKind.i64 x_2, Value.string x_3, Value.int IntKind.i64 x_4] ∧ ∃ (x_5 : Bool), ∃ (h' : AHeap), ACall Try.prog (203 : Nat) [Value.agg (Array.mk [Value.int IntKind.i64 x, Value.int IntKind.i64 x_1, Value.int IntKind.i64 x_2, Value.string x_3, Value.int IntKind.i64 x_4]), Value.agg (Array.mk [Value.int IntKind.i64 k, Value.int IntKind.i64 v, Value.int IntKind.i64 q, Value.string op, Value.int IntKind.i64 f])] h (Value.bool x_5) h' ∧ bs x_5 (Value.bool true = Value.bool true ∧ h' = h ∧ ¬∀ (j : Nat), j < List.length xs → ¬VoteAt xs (k, v, q, op, f) j) (∃ (j : Nat), Value.slice a (List.length xs) c = Value.slice a (List.length xs) c ∧ Value.complex FloatKind.f32 (0 : Nat) (0 : Nat) = Value.complex FloatKind.f32 (0 : Nat) (0 : Nat) ∧ Value.int IntKind.i64 (IntKind.wrap IntKind.i64 ((↑i : Int) + (1 : Int))) = Value.int IntKind.i64 (↑j : Int) ∧ [Value.int IntKind.i64 k, Value.int IntKind.i64 v, Value.int IntKind.i64 q, Value.string op, Value.int IntKind.i64 f] = [Value.int IntKind.i64 k, Value.int IntKind.i64 v, Value.int IntKind.i64 q, Value.string op, Value.int IntKind.i64 f] ∧ h = h' ∧ (j ≤ List.length xs ∧ ∀ (j_1 : Nat), j_1 < j → ¬VoteAt xs (k, v, q, op, f) j_1) ∧ List.length xs - j < List.length xs - i ∧ (∀ (k_1 : Unit), (∀ (j : Nat), j < List.length xs → ¬VoteAt xs (k, v, q, op, f) j) → ∀ (j : Nat), j < List.length xs → ¬VoteAt xs (k, v, q, op, f) j) ∧ ∀ (v_1 : Value) (h_1 : AHeap), (v_1 = Value.bool true ∧ h_1 = h ∧ ¬∀ (j : Nat), j < List.length xs → ¬VoteAt xs (k, v, q, op, f) j) → v_1 = Value.bool true ∧ h_1 = h ∧ ¬∀ (j : Nat), j < List.length xs → ¬VoteAt xs (k, v, q, op, f) j)) (∃ (j : Unit), h = h ∧ ∀ (j : Nat), j < List.length xs → ¬VoteAt xs (k, v, q, op, f) j)) ∧ (True ∧ True ∧ True) ∧ (True ∧ (True ∧ True) ∧ True) ∧ True) ∧ True ∧ True) = _) ?_
    simp only [true_and, and_true]
    rintro (i : Nat) ⟨hi, hall⟩
    refine bs_d (fun hlt => ?_) (fun hge => ⟨(), fun j hj => hall j (by omega)⟩)
    have hio : i < xs.length := by omega
    obtain ⟨⟨k', v', q', op', f'⟩, hat⟩ : ∃ y : Int × Int × Int × ByteArray × Int, xs[i]? = some y := ⟨_, List.getElem?_eq_getElem hio⟩
    obtain ⟨l, r, row, ha, _, hrd, hld⟩ := h1.elem hat
    obtain rfl := rd_vote.1 hrd
    dsimp only at hld
    refine ⟨l, r, ha, Int.natCast_nonneg _, hlt, _, _, _, _, _, hld, _, _, l11Same_spec h k v q f op k' v' q' f' op', bs_b (fun e => ⟨rfl, fun H => H i hio ((VoteAt.iff hat).2 (of_tr e))⟩) (fun e => ?_)⟩
    exact ⟨i + 1, by rw [wrap_i64 (by omega)]; rfl, rfl, ⟨by omega, upto_step hall (fun H => of_trn e ((VoteAt.iff hat).1 H))⟩, by omega, fun _ h => h, fun _ _ h => h⟩
  refine vc_mp (by kernel_rfl : (∃ (i : Nat), Value.slice a (List.length xs) c = Value.slice a (List.length xs) c ∧ Value.complex FloatKind.f32 (0 : Nat) (0 : Nat) = Value.complex FloatKind.f32 (0 : Nat) (0 : Nat) ∧ Value.int IntKind.i64 (0 : Int) = Value.int IntKind.i64 (↑i : Int) ∧ [Value.int IntKind.i64 k, Value.int IntKind.i64 v, Value.int IntKind.i64 q, Value.string op, Value.int IntKind.i64 f] = [Value.int IntKind.i64 k, Value.int IntKind.i64 v, Value.int IntKind.i64 q, Value.string op, Value.int IntKind.i64 f] ∧ h = h ∧ (i ≤ List.length xs ∧ ∀ (j : Nat), j < i → ¬VoteAt xs (k, v, q, op, f) j) ∧ (∀ (j : Unit), (∀ (j : Nat), j < List.length xs → ¬VoteAt xs (k, v, q, op, f) j) → Value.bool false = Value.bool (tr ¬∀ (j : Nat), j < List.length xs → ¬VoteAt xs (k, v, q, op, f) j) ∧ h = h) ∧ ∀ (v_1 : Value) (h_1 : AHeap), (v_1 = Value.bool true ∧ h_1 = h ∧ ¬∀ (j : Nat), j < List.length xs → ¬VoteAt xs (k, v, q, op, f) j) → v_1 = Value.bool (tr ¬∀ (j : Nat), j < List.length xs → ¬VoteAt xs (k, v, q, op, f) j) ∧ h_1 = h) = _) ?_
  exact ⟨(0 : Nat), rfl, rfl, rfl, rfl, rfl, ⟨Nat.zero_le _, fun j hj => absurd hj (Nat.not_lt_zero _)⟩, fun _ hall => ⟨congrArg _ (tr_false fun H => H hall), rfl⟩, fun _ _ ⟨e1, e2, e3⟩ => ⟨e1.trans (congrArg _ (tr_true e3)), e2⟩⟩
def vrL (xs : List voteSh.T) (a : Option Addr) (c : Nat) (h : AHeap) : LSpec where
  ι := Nat
  κ := Unit
  I := fun i => xs.length ≤ 400 ∧ i ≤ xs.length ∧ ∀ j, j < i → VtAt xs j
  μ := fun i => xs.length - i
  head := fun i => ⟨[(0, .slice a xs.length c), (3, .int .i64 i)], [], h⟩
  post := fun _ => ⟨[], [], h⟩
  R := fun _ _ => ∀ j, j < xs.length → VtAt xs j
  ret := fun _ v h' => v = .bool false ∧ h' = h ∧ ∃ j, j < xs.length ∧ ¬ VtAt xs j
theorem votesRight_spec (h : AHeap) (xs : List voteSh.T) (a : Option Addr) (c : Nat) (h1 : Sl h voteSh xs (.slice a xs.length c)) (ok : (Sh.sl voteSh).ok xs) :
    ACall Try.prog 117 [.slice a xs.length c] h (.bool (tr (VotsOk xs))) h := by
  have n1 : xs.length ≤ 9223372036854775807 := ok.1
  refine acall_out (acall_vc (fun _ => false) (fun r => match r with | 6 => [(0, 0, []), (1, 0, []), (2, 0, []), (3, 1, []), (4, 3, []), (5, 0, []), (6, 0, []), (7, 0, []), (8, 0, []), (9, 0, []), (10, 0, []), (11, 0, []), (12, 0, []), (13, 1, []), (14, 3, []), (15, 0, [])] | _ => []) (fun _ => vrL xs a c h) mixed Try.func117 rfl rfl rfl (Nat.le_of_ble_eq_true rfl) ?_ ?_)
  · refine vc_mp (by kernel_rfl : (True ∧ (True ∧ (True ∧ True) ∧ True) ∧ (True ∧ (∀ (i : Nat), (List.length xs ≤ (400 : Nat) ∧ i ≤ List.length xs ∧ ∀ (j : Nat), j < i → VtAt xs j) → bs (decide ((↑i : Int) < (↑(List.length xs) : Int))) (∃ (l : Nat), ∃ (r : Nat), a = some (Addr.mk l r (some (5 : Nat))) ∧ (0 : Int) ≤ (↑i : Int) ∧ (↑i : Int) < (↑(List.length xs) : Int) ∧ ∃ (x : Int), ∃ (x_1 : Int), ∃ (x_2 : Int), ∃ (x_3 : ByteArray), ∃ (x_4 : Int), AHeap.ld h l (r + Int.toNat (↑i : Int)) (0 : Nat) (5 : Nat) = some [Value.int IntKind.i64 x, Value.int IntKind.i64 x_1, Value.int IntKind.i64 x_2, Value.string x_3, Value.int IntKind.i64 x_4] ∧ ∃ (x_5 : Bool), ∃ (h' : AHeap), ACall Try.prog (175 : Nat) [Value.agg (Array.mk [Value.int IntKind.i64 x, Value.int IntKind.i64 x_1, Value.int IntKind.i64 x_2, Value.string x_3, Value.int IntKind.i64 x_4])] h (Value.bool x_5) h' ∧ bs (!x_5) (Value.bool false = Value.bool false ∧ h' = h ∧ ∃ (j : Nat), j < List.length xs ∧ ¬VtAt xs j) ((0 : Int) ≤ (0 : Int) ∧ (0 : Int) ≤ (↑i : Int) ∧ ((↑i : Int) ≤ (↑(List.length xs) : Int) ∨ c ≠ (0 : Nat) ∧ (↑i : Int) < (↑c : Int)) ∧ (∀ (x : Addr), a = some x → Addr.spot x = some (5 : Nat)) ∧ ∃ (l : Nat), ∃ (r : Nat), a = some (Addr.mk l r (some (5 : Nat))) ∧ (0 : Int) ≤ (↑i : Int) ∧ (↑i : Int) < (↑(List.length xs) : Int) ∧ ∃ (x : Int), ∃ (x_6 : Int), ∃ (x_7 : Int), ∃ (x_8 : ByteArray), ∃ (x_9 : Int), AHeap.ld h' l (r + Int.toNat (↑i : Int)) (0 : Nat) (5 : Nat) = some [Value.int IntKind.i64 x, Value.int IntKind.i64 x_6, Value.int IntKind.i64 x_7, Value.string x_8, Value.int IntKind.i64 x_9] ∧ ∃ (x_10 : Bool), ∃ (h'_1 : AHeap), ACall Try.prog (176 : Nat) [Value.slice (Option.map (fun (x : Addr) => Addr.mk (Addr.block x) (Addr.off x + Int.toNat (0 : Int)) (Addr.spot x)) a) (Int.toNat (↑i : Int) - Int.toNat (0 : Int)) (bif decide (c = (0 : Nat)) then (0 : Nat) else c - Int.toNat (0 : Int)), Value.agg (Array.mk [Value.int IntKind.i64 x, Value.int IntKind.i64 x_6, Value.int IntKind.i64 x_7, Value.string x_8, Value.int IntKind.i64 x_9])] h' (Value.bool x_10) h'_1 ∧ bs x_10 (Value.bool false = Value.bool false ∧ h'_1 = h ∧ ∃ (j : Nat), j < List.length xs ∧ ¬VtAt xs j) (∃ (j : Nat), Value.slice a (List.length xs) c = Value.slice a (List.length xs) c ∧ Value.int IntKind.i64 (IntKind.wrap IntKind.i64 ((↑i : Int) + (1 : Int))) = Value.int IntKind.i64 (↑j : Int) ∧ h = h'_1 ∧ (List.length xs ≤ (400 : Nat) ∧ j ≤ List.length xs ∧ ∀ (j_1 : Nat), j_1 < j → VtAt xs j_1) ∧ List.length xs - j < List.length xs - i ∧ (∀ (k : Unit), (∀ (j : Nat), j < List.length xs → VtAt xs j) → ∀ (j : Nat), j < List.length xs → VtAt xs j) ∧ ∀ (v : Value) (h_1 : AHeap), (v = Value.bool false ∧ h_1 = h ∧ ∃ (j : Nat), j < List.length xs ∧ ¬VtAt xs j) → v = Value.bool false ∧ h_1 = h ∧ ∃ (j : Nat), j < List.length xs ∧ ¬VtAt xs j))) (∃ (j : Unit), h = h ∧ ∀ (j : Nat), j < List.length xs → VtAt xs j)) ∧ (True ∧ True ∧ True) ∧ (True ∧ (True ∧ True) ∧ True) ∧ True) ∧ True ∧ True) = _) ?_
    simp only [true_and, and_true]
    rintro (i : Nat) ⟨hb, hi, hall⟩
    refine bs_d (fun hlt => ?_) (fun hge => ⟨(), fun j hj => hall j (by omega)⟩)
    obtain ⟨⟨k, v, q, op, f⟩, hat⟩ : ∃ y : Int × Int × Int × ByteArray × Int, xs[i]? = some y := ⟨_, List.getElem?_eq_getElem (by omega)⟩
    obtain ⟨l, r, row, ha, _, hrd, hld⟩ := h1.elem hat
    obtain rfl := rd_vote.1 hrd
    dsimp only at hld
    obtain rfl := ha
    refine ⟨l, r, rfl, Int.natCast_nonneg _, hlt, _, _, _, _, _, hld, _, _, l11Vote_spec h k v q f op, bs_nb (fun e => ⟨rfl, i, by omega, fun H => of_trn e (H.out hat).1⟩) (fun e1 => ?_)⟩
    refine ⟨Int.le_refl _, Int.natCast_nonneg _, .inl (by omega), fun x hx => by cases hx; rfl, l, r, rfl, Int.natCast_nonneg _, hlt, _, _, _, _, _, hld, ?_⟩
    have hlen : (xs.take i).length = i := by rw [List.length_take]; omega
    have A := l11Has_spec h (xs.take i) (some ⟨l, r, some voteSh.cells⟩) (bif decide (c = 0) then 0 else c - Int.toNat 0) k v q f op (by rw [hlen]; exact h1.take (by omega)) (by omega)
    rw [hlen] at A
    refine ⟨_, _, A, bs_b (fun e => ⟨rfl, i, by omega, fun H => of_tr e (votes_pre.2 (H.out hat).2)⟩) (fun e => ?_)⟩
    have hno : ∀ j, j < i → ¬ VoteAt xs (k, v, q, op, f) j := votes_pre.1 (Classical.byContradiction fun hn => of_trn e hn)
    exact ⟨i + 1, by rw [wrap_i64 (by omega)]; rfl, rfl, ⟨hb, by omega, upto_step hall ⟨_, hat, of_tr e1, hno⟩⟩, by omega, fun _ h => h, fun _ _ h => h⟩
  refine vc_mp (by kernel_rfl : (bs (decide ((↑(List.length xs) : Int) > (400 : Int))) (Value.bool false = Value.bool (tr (VotsOk xs)) ∧ h = h) (∃ (i : Nat), Value.slice a (List.length xs) c = Value.slice a (List.length xs) c ∧ Value.int IntKind.i64 (0 : Int) = Value.int IntKind.i64 (↑i : Int) ∧ h = h ∧ (List.length xs ≤ (400 : Nat) ∧ i ≤ List.length xs ∧ ∀ (j : Nat), j < i → VtAt xs j) ∧ (∀ (j : Unit), (∀ (j : Nat), j < List.length xs → VtAt xs j) → Value.bool true = Value.bool (tr (VotsOk xs)) ∧ h = h) ∧ ∀ (v : Value) (h_1 : AHeap), (v = Value.bool false ∧ h_1 = h ∧ ∃ (j : Nat), j < List.length xs ∧ ¬VtAt xs j) → v = Value.bool (tr (VotsOk xs)) ∧ h_1 = h)) = _) ?_
  refine bs_d (fun e => ⟨congrArg _ (tr_false fun H => by have := H.1; omega), rfl⟩) (fun e => ?_)
  exact ⟨(0 : Nat), rfl, rfl, rfl, ⟨by omega, Nat.zero_le _, fun j hj => absurd hj (Nat.not_lt_zero _)⟩, fun _ hg => ⟨congrArg _ (tr_true ⟨by omega, hg⟩), rfl⟩, fun v g ⟨e1, e2, j, hj, hn⟩ => ⟨e1.trans (congrArg _ (tr_false fun H => hn (H.2 j hj))), e2⟩⟩
end Go.Proofs.Ytanienlcebkijaa
