/- V7, H3, H4, H5. -/
import Derived.Test.YtanienlcebkijaaV15U5
import Derived.Test.YtanienlcebkijaaV15S1
import Derived.Test.YtanienlcebkijaaV15C9
section
namespace Go.Dat
open Go.Abs
theorem Sh.flat_rd {h g : AHeap} : ∀ {s : Sh}, s.flat = true → ∀ {x : s.T} {cs : List Value}, s.rd h x cs → s.rd g x cs := fun hf _ _ r => (Sh.flat_rn hf r).ro.rd
theorem SoB.appR {s : Sh} (hf : s.flat = true) {h0 h : AHeap} {a : Option Addr} {n c : Nat} {xs : List s.T} {ids : List Nat} (B : SoB s h0 h a n c xs ids) {ys : List s.T} {a2 : Option Addr} {m c2 : Nat} (hy : Sl h0 s ys (.slice a2 m c2)) :
    ∃ rows, rowsV h (.slice a2 m c2) = some rows ∧ chkR s.cells rows ∧ rows.length = m ∧ ∃ a' c' h' ids', h.app (.slice a n c) rows s.cells = some (.slice a' (n + m) c', h') ∧ SoB s h0 h' a' (n + m) c' (xs ++ ys) ids' ∧ h.n ≤ h'.n ∧ (∀ z o, z ∉ ids → h.get z = some o → h'.get z = some o) ∧ ∀ z ∈ ids', z ∈ ids ∨ z = h.n := by
  obtain ⟨rows, h2, hl, hall, hrd⟩ := hy.rows
  have hm := hy.len
  have nb := B.len
  refine ⟨rows, B.le.rowsOf h2, hall, hl, ?_⟩
  cases rows with
  | nil =>
    have e0 : m = 0 := by rw [← hl]; rfl
    have e1 : ys = [] := List.eq_nil_of_length_eq_zero (by omega)
    subst e1; subst e0
    exact ⟨a, c, h, ids, rfl, by rw [List.append_nil]; exact B, Nat.le_refl _, fun _ _ _ e => e, fun _ e => .inl e⟩
  | cons r rs =>
    have sz : (xs ++ ys).length = n + m := by rw [List.length_append]; omega
    obtain ⟨rfl, rfl, rfl, rfl⟩ | ⟨l, rows0, idss, rfl, hg, hr, hi, rfl, hc, hx⟩ := B.at_
    · have e0 : xs = [] := List.eq_nil_of_length_eq_zero nb
      subst e0
      refine ⟨_, 0, _, [h.n], by rw [← hl, Nat.zero_add]; rfl, ?_, Nat.le_succ _, fun z o _ e => (AHeap.Le.push B.wf _).get z o e, fun z e => .inr (List.mem_singleton.1 e)⟩
      exact SoB.flat hf (B.le.trans (.push B.wf ⟨r :: rs, s.cells, true⟩)) (B.wf.push _) B.wf0 B.le.n sz AHeap.get_push_eq (by rw [hl, Nat.zero_add]) (.inl rfl) hrd
    · have hro : h.rowsOf (.slice (some ⟨l, 0, some s.cells⟩) n c) = some rows0 := by rw [get_rowsOf hg (by omega), List.drop_zero, List.take_of_length_le (by omega)]
      have hlt : l < h.n := B.wf.lt hg
      have h0l : h0.n ≤ l := (B.fr.bd l List.mem_cons_self).1
      have hrd2 : ∀ (i : Nat) (y : s.T) (row : List Value), (xs ++ ys)[i]? = some y → (rows0 ++ r :: rs)[i]? = some row → s.rd h0 y row := by
        intro i y row e1 e2
        by_cases c1 : i < n
        · rw [List.getElem?_append_left (by omega)] at e1 e2
          exact Sh.flat_rd hf (hx i y row _ e1 e2 (List.getElem?_eq_getElem (by omega))).ro.rd
        · rw [List.getElem?_append_right (by omega)] at e1 e2
          rw [nb] at e1; rw [hr] at e2
          exact hrd _ y row e1 e2
      have len2 : (rows0 ++ r :: rs).length = n + m := by rw [List.length_append]; omega
      unfold AHeap.app
      dsimp only
      rw [hro]
      dsimp only
      rw [beq_self_eq_true, cond_true]
      cases hcc : (c != 0 && decide (c ≤ n + (r :: rs).length)) with
      | true =>
        rw [cond_true]
        exact ⟨_, 0, _, [h.n], by rw [hl], SoB.flat hf (B.le.trans (.push B.wf ⟨rows0 ++ r :: rs, s.cells, true⟩)) (B.wf.push _) B.wf0 B.le.n sz AHeap.get_push_eq len2 (.inl rfl) hrd2, Nat.le_succ _, fun z o _ e => (AHeap.Le.push B.wf _).get z o e, fun z e => .inr (List.mem_singleton.1 e)⟩
      | false =>
        rw [cond_false, hg]
        dsimp only
        have hno : (c != 0 && decide (0 + n + (r :: rs).length ≤ rows0.length)) = false := by
          rw [Bool.and_eq_false_iff]; right; rw [decide_eq_false_iff_not]; rw [hl, hr]
          have : 0 < m := by rw [← hl]; simp
          omega
        rw [cond_true, hno, cond_false]
        have w2 : (h.put l none).wf := B.wf.put hlt _
        exact ⟨_, 0, _, [h.n], by rw [hl], SoB.flat hf ((B.le.put (B.wf0 l h0l) none).trans (.push w2 ⟨rows0 ++ r :: rs, s.cells, true⟩)) (w2.push _) B.wf0 B.le.n sz (by show ((h.put l none).push _).get (h.put l none).n = _; exact AHeap.get_push_eq) len2 (.inl rfl) hrd2, Nat.le_succ _, fun z o hz e => (AHeap.Le.push w2 _).get z o (by rw [AHeap.get_put_ne (fun e2 => hz (by rw [e2]; exact List.mem_cons_self))]; exact e), fun z e => .inr (List.mem_singleton.1 e)⟩
theorem rows_sub {h : AHeap} {l r e n c i m c' : Nat} {rows : List (List Value)} (hr : h.rowsOf (.slice (some ⟨l, r, some e⟩) n c) = some rows) (hi : i + m ≤ n) : h.rowsOf (.slice (some ⟨l, r + i, some e⟩) m c') = some ((rows.drop i).take m) := by
  unfold AHeap.rowsOf at hr ⊢
  dsimp only at hr ⊢
  cases hg : h.get l with
  | none => rw [hg] at hr; cases hr
  | some o =>
    rw [hg] at hr
    dsimp only at hr ⊢
    cases h1 : o.esz == e with
    | false => rw [h1] at hr; cases hr
    | true =>
      rw [h1] at hr
      simp only [Bool.true_and] at hr ⊢
      by_cases h2 : r + n ≤ o.rows.length
      · rw [decide_eq_true h2] at hr
        rw [decide_eq_true (by omega : r + i + m ≤ o.rows.length)]
        cases hr
        show some _ = some _
        rw [List.drop_take, List.drop_drop, List.take_take, Nat.min_eq_left (by omega)]
      · rw [decide_eq_false h2] at hr; cases hr
theorem Sl.sub {h : AHeap} {s : Sh} {xs : List s.T} {a : Option Addr} {n c : Nat} (x : Sl h s xs (.slice a n c)) {i m : Nat} (hi : i + m ≤ n) : Sl h s ((xs.drop i).take m) (.slice (a.map fun x => ⟨x.block, x.off + i, x.spot⟩) m (bif decide (c = 0) then 0 else c - i)) := by
  obtain ⟨a', n', c'', rows, e, h1, h2, h3, h4⟩ := x
  cases e
  rcases h1 with ⟨rfl, rfl, rfl⟩ | ⟨l, r, rfl⟩
  · have hm : m = 0 := by omega
    subst hm
    exact ⟨none, 0, 0, [], rfl, .inl ⟨rfl, rfl, rfl⟩, rfl, by simp, fun i y row hy => by simp at hy⟩
  · refine ⟨_, _, _, _, rfl, .inr ⟨_, _, rfl⟩, rows_sub h2 hi, by rw [List.length_take, List.length_drop]; omega, fun j y row hy hr => ?_⟩
    rw [List.getElem?_take] at hy hr
    split at hy
    · rename_i hj
      rw [if_pos hj, List.getElem?_drop] at hr
      rw [List.getElem?_drop] at hy
      exact h4 _ y row hy hr
    · cases hy
end Go.Dat
end
section
namespace Go.Dat
open Go.Abs
def CmdOk (cl nu ki : Int) (topic group text : ByteArray) (n : Int) : Prop :=
  (1 ≤ cl ∧ cl ≤ 9) ∧ (1 ≤ nu ∧ nu ≤ 1000000000) ∧ NameOk topic ∧
    (((ki = 1 ∨ ki = 2) ∧ group = ⟨#[]⟩ ∧ text = ⟨#[]⟩ ∧ n = 0) ∨ (ki = 3 ∧ MsgOk text ∧ group = ⟨#[]⟩ ∧ n = 0) ∨ ((ki = 4 ∨ ki = 5 ∨ ki = 6) ∧ NameOk group ∧ text = ⟨#[]⟩ ∧ 0 ≤ n ∧ n ≤ 1000000000) ∨ (ki = 7 ∧ group = ⟨#[]⟩ ∧ text = ⟨#[]⟩ ∧ 0 ≤ n ∧ n ≤ 20))
theorem tr_iff {p : Prop} : tr p = true ↔ p := ⟨of_tr, fun h => (tr_true h).symm⟩
theorem tr_iffn {p : Prop} : tr p = false ↔ ¬ p := ⟨of_trn, fun h => (tr_false h).symm⟩
end Go.Dat
namespace Go.Proofs.Ytanienlcebkijaa
open Go.Abs Go.Dat
set_option maxRecDepth 100000
set_option maxHeartbeats 8000000
theorem isCommand_spec (h : AHeap) (cl nu ki : Int) (topic group text : ByteArray) (n : Int) (o1 : topic.size ≤ 9223372036854775807) (o2 : group.size ≤ 9223372036854775807) :
    ACall Try.prog 131 [.agg #[.int .i64 cl, .int .i64 nu, .int .i64 ki, .string topic, .string group, .string text, .int .i64 n]] h (.bool (tr (CmdOk cl nu ki topic group text n))) h := by
  refine acall_out (acall_vc (fun _ => false) (fun _ => []) (fun _ => .none) mixed Try.func131 rfl rfl rfl (Nat.le_of_ble_eq_true rfl) (by refine vc_mp (by kernel_rfl : (True ∧ (True ∧ (True ∧ True) ∧ True) ∧ (True ∧ (True ∧ True ∧ True) ∧ (True ∧ True) ∧ True ∧ (True ∧ True) ∧ (True ∧ True ∧ True ∧ True ∧ True) ∧ (True ∧ True) ∧ True ∧ (True ∧ True) ∧ True) ∧ True ∧ True) = _) ?_; simp only [and_self]) ?_)
  refine vc_mp (by kernel_rfl : (∃ (x : Bool), ∃ (h' : AHeap), ACall Try.prog (76 : Nat) [Value.int IntKind.i64 cl, Value.int IntKind.i64 (1 : Int), Value.int IntKind.i64 (9 : Int)] h (Value.bool x) h' ∧ bs (!x) (Value.bool false = Value.bool (tr (CmdOk cl nu ki topic group text n)) ∧ h' = h) (∃ (x : Bool), ∃ (h'_1 : AHeap), ACall Try.prog (76 : Nat) [Value.int IntKind.i64 nu, Value.int IntKind.i64 (1 : Int), Value.int IntKind.i64 (1000000000 : Int)] h' (Value.bool x) h'_1 ∧ bs (!x) (Value.bool false = Value.bool (tr (CmdOk cl nu ki topic group text n)) ∧ h'_1 = h) (∃ (x : Bool), ∃ (h' : AHeap), ACall Try.prog (186 : Nat) [Value.string topic] h'_1 (Value.bool x) h' ∧ bs (!x) (Value.bool false = Value.bool (tr (CmdOk cl nu ki topic group text n)) ∧ h' = h) (bs (decide (ki = (1 : Int))) (bs (decide (group = ByteArray.mk (Array.mk []))) (bs (decide (text = ByteArray.mk (Array.mk []))) (Value.bool (decide (n = (0 : Int))) = Value.bool (tr (CmdOk cl nu ki topic group text n)) ∧ h' = h) (Value.bool false = Value.bool (tr (CmdOk cl nu ki topic group text n)) ∧ h' = h)) (Value.bool false = Value.bool (tr (CmdOk cl nu ki topic group text n)) ∧ h' = h)) (bs (decide (ki = (2 : Int))) (bs (decide (group = ByteArray.mk (Array.mk []))) (bs (decide (text = ByteArray.mk (Array.mk []))) (Value.bool (decide (n = (0 : Int))) = Value.bool (tr (CmdOk cl nu ki topic group text n)) ∧ h' = h) (Value.bool false = Value.bool (tr (CmdOk cl nu ki topic group text n)) ∧ h' = h)) (Value.bool false = Value.bool (tr (CmdOk cl nu ki topic group text n)) ∧ h' = h)) (bs (decide (ki = (3 : Int))) (∃ (x : Bool), ∃ (h'_2 : AHeap), ACall Try.prog (187 : Nat) [Value.string text] h' (Value.bool x) h'_2 ∧ bs x (bs (decide (group = ByteArray.mk (Array.mk []))) (Value.bool (decide (n = (0 : Int))) = Value.bool (tr (CmdOk cl nu ki topic group text n)) ∧ h'_2 = h) (Value.bool false = Value.bool (tr (CmdOk cl nu ki topic group text n)) ∧ h'_2 = h)) (Value.bool false = Value.bool (tr (CmdOk cl nu ki topic group text n)) ∧ h'_2 = h)) (bs (decide (ki = (4 : Int))) (∃ (x : Bool), ∃ (h'_2 : AHeap), ACall Try.prog (186 : Nat) [Value.string group] h' (Value.bool x) h'_2 ∧ bs x (bs (decide (text = ByteArray.mk (Array.mk []))) (∃ (x : Bool), ∃ (h' : AHeap), ACall Try.prog (144 : Nat) [Value.int IntKind.i64 n] h'_2 (Value.bool x) h' ∧ Value.bool x = Value.bool (tr (CmdOk cl nu ki topic group text n)) ∧ h' = h) (Value.bool false = Value.bool (tr (CmdOk cl nu ki topic group text n)) ∧ h'_2 = h)) (Value.bool false = Value.bool (tr (CmdOk cl nu ki topic group text n)) ∧ h'_2 = h)) (bs (decide (ki = (5 : Int))) (∃ (x : Bool), ∃ (h'_2 : AHeap), ACall Try.prog (186 : Nat) [Value.string group] h' (Value.bool x) h'_2 ∧ bs x (bs (decide (text = ByteArray.mk (Array.mk []))) (∃ (x : Bool), ∃ (h' : AHeap), ACall Try.prog (144 : Nat) [Value.int IntKind.i64 n] h'_2 (Value.bool x) h' ∧ Value.bool x = Value.bool (tr (CmdOk cl nu ki topic group text n)) ∧ h' = h) (Value.bool false = Value.bool (tr (CmdOk cl nu ki topic group text n)) ∧ h'_2 = h)) (Value.bool false = Value.bool (tr (CmdOk cl nu ki topic group text n)) ∧ h'_2 = h)) (bs (decide (ki = (6 : Int))) (∃ (x : Bool), ∃ (h'_2 : AHeap), ACall Try.prog (186 : Nat) [Value.string group] h' (Value.bool x) h'_2 ∧ bs x (bs (decide (text = ByteArray.mk (Array.mk []))) (∃ (x : Bool), ∃ (h' : AHeap), ACall Try.prog (144 : Nat) [Value.int IntKind.i64 n] h'_2 (Value.bool x) h' ∧ Value.bool x = Value.bool (tr (CmdOk cl nu ki topic group text n)) ∧ h' = h) (Value.bool false = Value.bool (tr (CmdOk cl nu ki topic group text n)) ∧ h'_2 = h)) (Value.bool false = Value.bool (tr (CmdOk cl nu ki topic group text n)) ∧ h'_2 = h)) (bs (decide (ki = (7 : Int))) (bs (decide (group = ByteArray.mk (Array.mk []))) (bs (decide (text = ByteArray.mk (Array.mk []))) (∃ (x : Bool), ∃ (h'_2 : AHeap), ACall Try.prog (76 : Nat) [Value.int IntKind.i64 n, Value.int IntKind.i64 (0 : Int), Value.int IntKind.i64 (20 : Int)] h' (Value.bool x) h'_2 ∧ Value.bool x = Value.bool (tr (CmdOk cl nu ki topic group text n)) ∧ h'_2 = h) (Value.bool false = Value.bool (tr (CmdOk cl nu ki topic group text n)) ∧ h' = h)) (Value.bool false = Value.bool (tr (CmdOk cl nu ki topic group text n)) ∧ h' = h)) (Value.bool false = Value.bool (tr (CmdOk cl nu ki topic group text n)) ∧ h' = h))))))))))) = _) ?_
  refine ⟨_, _, within_spec _ _ _ _, bs_nb (fun e => ⟨congrArg _ (tr_false fun H => by simp [H.1] at e), rfl⟩) (fun e1 => ⟨_, _, within_spec _ _ _ _, bs_nb (fun e => ⟨congrArg _ (tr_false fun H => by simp [H.2.1] at e), rfl⟩) (fun e2 => ⟨_, _, isName_spec h topic o1, bs_nb (fun e => ⟨congrArg _ (tr_false fun H => of_trn e H.2.2.1), rfl⟩) (fun e3 => ?_)⟩)⟩)⟩
  have key : tr (CmdOk cl nu ki topic group text n) = tr (((ki = 1 ∨ ki = 2) ∧ group = ⟨#[]⟩ ∧ text = ⟨#[]⟩ ∧ n = 0) ∨ (ki = 3 ∧ MsgOk text ∧ group = ⟨#[]⟩ ∧ n = 0) ∨ ((ki = 4 ∨ ki = 5 ∨ ki = 6) ∧ NameOk group ∧ text = ⟨#[]⟩ ∧ 0 ≤ n ∧ n ≤ 1000000000) ∨ (ki = 7 ∧ group = ⟨#[]⟩ ∧ text = ⟨#[]⟩ ∧ 0 ≤ n ∧ n ≤ 20)) := by
    rw [Bool.eq_iff_iff, tr_iff, tr_iff]
    exact ⟨fun H => H.2.2.2, fun H => ⟨by simpa using e1, by simpa using e2, of_tr e3, H⟩⟩
  rw [key]
  clear key e1 e2 e3
  repeat' first
    | refine bs_d (fun _ => ?_) (fun _ => ?_)
    | refine ⟨_, _, isMessage_spec h text, ?_⟩
    | refine ⟨_, _, isName_spec h group o2, ?_⟩
    | refine ⟨_, _, isTime_spec n h, ?_⟩
    | refine ⟨_, _, within_spec n 0 20 h, ?_⟩
    | refine bs_of (fun _ => ?_) (fun _ => ?_)
  all_goals
    refine ⟨congrArg _ ?_, rfl⟩
    rw [Bool.eq_iff_iff, tr_iff]
    try simp only [tr_iff, tr_iffn] at *
    simp_all
theorem commandRight_spec (h : AHeap) (cl nu ki : Int) (topic group text : ByteArray) (n : Int) (o1 : topic.size ≤ 9223372036854775807) (o2 : group.size ≤ 9223372036854775807) :
    ACall Try.prog 188 [.agg #[.int .i64 cl, .int .i64 nu, .int .i64 ki, .string topic, .string group, .string text, .int .i64 n]] h (.bool (tr (CmdOk cl nu ki topic group text n))) h := by
  refine acall_out (acall_vc (fun _ => false) (fun _ => []) (fun _ => .none) mixed Try.func188 rfl rfl rfl (Nat.le_of_ble_eq_true rfl) (by refine vc_mp (by kernel_rfl : (True ∧ (True ∧ (True ∧ True) ∧ True) ∧ (True ∧ (True ∧ True ∧ True) ∧ (True ∧ True) ∧ True ∧ (True ∧ True) ∧ (True ∧ True ∧ True ∧ True ∧ True) ∧ (True ∧ True) ∧ True ∧ (True ∧ True) ∧ True) ∧ True ∧ True) = _) ?_; simp only [and_self]) ?_)
  refine vc_mp (by kernel_rfl : (∃ (x : Bool), ∃ (h' : AHeap), ACall Try.prog (77 : Nat) [Value.int IntKind.i64 cl, Value.int IntKind.i64 (1 : Int), Value.int IntKind.i64 (9 : Int)] h (Value.bool x) h' ∧ bs (!x) (Value.bool false = Value.bool (tr (CmdOk cl nu ki topic group text n)) ∧ h' = h) (∃ (x : Bool), ∃ (h'_1 : AHeap), ACall Try.prog (77 : Nat) [Value.int IntKind.i64 nu, Value.int IntKind.i64 (1 : Int), Value.int IntKind.i64 (1000000000 : Int)] h' (Value.bool x) h'_1 ∧ bs (!x) (Value.bool false = Value.bool (tr (CmdOk cl nu ki topic group text n)) ∧ h'_1 = h) (∃ (x : Bool), ∃ (h' : AHeap), ACall Try.prog (210 : Nat) [Value.string topic] h'_1 (Value.bool x) h' ∧ bs (!x) (Value.bool false = Value.bool (tr (CmdOk cl nu ki topic group text n)) ∧ h' = h) (bs (decide (ki = (1 : Int))) (bs (decide (group = ByteArray.mk (Array.mk []))) (bs (decide (text = ByteArray.mk (Array.mk []))) (Value.bool (decide (n = (0 : Int))) = Value.bool (tr (CmdOk cl nu ki topic group text n)) ∧ h' = h) (Value.bool false = Value.bool (tr (CmdOk cl nu ki topic group text n)) ∧ h' = h)) (Value.bool false = Value.bool (tr (CmdOk cl nu ki topic group text n)) ∧ h' = h)) (bs (decide (ki = (2 : Int))) (bs (decide (group = ByteArray.mk (Array.mk []))) (bs (decide (text = ByteArray.mk (Array.mk []))) (Value.bool (decide (n = (0 : Int))) = Value.bool (tr (CmdOk cl nu ki topic group text n)) ∧ h' = h) (Value.bool false = Value.bool (tr (CmdOk cl nu ki topic group text n)) ∧ h' = h)) (Value.bool false = Value.bool (tr (CmdOk cl nu ki topic group text n)) ∧ h' = h)) (bs (decide (ki = (3 : Int))) (bs (decide (group = ByteArray.mk (Array.mk []))) (∃ (x : Bool), ∃ (h'_2 : AHeap), ACall Try.prog (211 : Nat) [Value.string text] h' (Value.bool x) h'_2 ∧ bs x (Value.bool (decide (n = (0 : Int))) = Value.bool (tr (CmdOk cl nu ki topic group text n)) ∧ h'_2 = h) (Value.bool false = Value.bool (tr (CmdOk cl nu ki topic group text n)) ∧ h'_2 = h)) (Value.bool false = Value.bool (tr (CmdOk cl nu ki topic group text n)) ∧ h' = h)) (bs (decide (ki = (4 : Int))) (∃ (x : Bool), ∃ (h'_2 : AHeap), ACall Try.prog (210 : Nat) [Value.string group] h' (Value.bool x) h'_2 ∧ bs x (bs (decide (text = ByteArray.mk (Array.mk []))) (∃ (x : Bool), ∃ (h' : AHeap), ACall Try.prog (77 : Nat) [Value.int IntKind.i64 n, Value.int IntKind.i64 (0 : Int), Value.int IntKind.i64 (1000000000 : Int)] h'_2 (Value.bool x) h' ∧ Value.bool x = Value.bool (tr (CmdOk cl nu ki topic group text n)) ∧ h' = h) (Value.bool false = Value.bool (tr (CmdOk cl nu ki topic group text n)) ∧ h'_2 = h)) (Value.bool false = Value.bool (tr (CmdOk cl nu ki topic group text n)) ∧ h'_2 = h)) (bs (decide (ki = (5 : Int))) (∃ (x : Bool), ∃ (h'_2 : AHeap), ACall Try.prog (210 : Nat) [Value.string group] h' (Value.bool x) h'_2 ∧ bs x (bs (decide (text = ByteArray.mk (Array.mk []))) (∃ (x : Bool), ∃ (h' : AHeap), ACall Try.prog (77 : Nat) [Value.int IntKind.i64 n, Value.int IntKind.i64 (0 : Int), Value.int IntKind.i64 (1000000000 : Int)] h'_2 (Value.bool x) h' ∧ Value.bool x = Value.bool (tr (CmdOk cl nu ki topic group text n)) ∧ h' = h) (Value.bool false = Value.bool (tr (CmdOk cl nu ki topic group text n)) ∧ h'_2 = h)) (Value.bool false = Value.bool (tr (CmdOk cl nu ki topic group text n)) ∧ h'_2 = h)) (bs (decide (ki = (6 : Int))) (∃ (x : Bool), ∃ (h'_2 : AHeap), ACall Try.prog (210 : Nat) [Value.string group] h' (Value.bool x) h'_2 ∧ bs x (bs (decide (text = ByteArray.mk (Array.mk []))) (∃ (x : Bool), ∃ (h' : AHeap), ACall Try.prog (77 : Nat) [Value.int IntKind.i64 n, Value.int IntKind.i64 (0 : Int), Value.int IntKind.i64 (1000000000 : Int)] h'_2 (Value.bool x) h' ∧ Value.bool x = Value.bool (tr (CmdOk cl nu ki topic group text n)) ∧ h' = h) (Value.bool false = Value.bool (tr (CmdOk cl nu ki topic group text n)) ∧ h'_2 = h)) (Value.bool false = Value.bool (tr (CmdOk cl nu ki topic group text n)) ∧ h'_2 = h)) (bs (decide (ki = (7 : Int))) (bs (decide (group = ByteArray.mk (Array.mk []))) (bs (decide (text = ByteArray.mk (Array.mk []))) (∃ (x : Bool), ∃ (h'_2 : AHeap), ACall Try.prog (77 : Nat) [Value.int IntKind.i64 n, Value.int IntKind.i64 (0 : Int), Value.int IntKind.i64 (20 : Int)] h' (Value.bool x) h'_2 ∧ Value.bool x = Value.bool (tr (CmdOk cl nu ki topic group text n)) ∧ h'_2 = h) (Value.bool false = Value.bool (tr (CmdOk cl nu ki topic group text n)) ∧ h' = h)) (Value.bool false = Value.bool (tr (CmdOk cl nu ki topic group text n)) ∧ h' = h)) (Value.bool false = Value.bool (tr (CmdOk cl nu ki topic group text n)) ∧ h' = h))))))))))) = _) ?_
  refine ⟨_, _, l03Is_spec _ _ _ _, bs_nb (fun e => ⟨congrArg _ (tr_false fun H => by simp [H.1] at e), rfl⟩) (fun e1 => ⟨_, _, l03Is_spec _ _ _ _, bs_nb (fun e => ⟨congrArg _ (tr_false fun H => by simp [H.2.1] at e), rfl⟩) (fun e2 => ⟨_, _, nameRight_spec h topic o1, bs_nb (fun e => ⟨congrArg _ (tr_false fun H => of_trn e H.2.2.1), rfl⟩) (fun e3 => ?_)⟩)⟩)⟩
  have key : tr (CmdOk cl nu ki topic group text n) = tr (((ki = 1 ∨ ki = 2) ∧ group = ⟨#[]⟩ ∧ text = ⟨#[]⟩ ∧ n = 0) ∨ (ki = 3 ∧ MsgOk text ∧ group = ⟨#[]⟩ ∧ n = 0) ∨ ((ki = 4 ∨ ki = 5 ∨ ki = 6) ∧ NameOk group ∧ text = ⟨#[]⟩ ∧ 0 ≤ n ∧ n ≤ 1000000000) ∨ (ki = 7 ∧ group = ⟨#[]⟩ ∧ text = ⟨#[]⟩ ∧ 0 ≤ n ∧ n ≤ 20)) := by
    rw [Bool.eq_iff_iff, tr_iff, tr_iff]
    exact ⟨fun H => H.2.2.2, fun H => ⟨by simpa using e1, by simpa using e2, of_tr e3, H⟩⟩
  rw [key]
  clear key e1 e2 e3
  repeat' first
    | refine bs_d (fun _ => ?_) (fun _ => ?_)
    | refine ⟨_, _, l07Text_spec h text, ?_⟩
    | refine ⟨_, _, nameRight_spec h group o2, ?_⟩
    | refine ⟨_, _, l03Is_spec n 0 1000000000 h, ?_⟩
    | refine ⟨_, _, l03Is_spec n 0 20 h, ?_⟩
    | refine bs_of (fun _ => ?_) (fun _ => ?_)
  all_goals
    refine ⟨congrArg _ ?_, rfl⟩
    rw [Bool.eq_iff_iff, tr_iff]
    try simp only [tr_iff, tr_iffn] at *
    simp_all
end Go.Proofs.Ytanienlcebkijaa
end
section
namespace Go.Dat
open Go.Abs
def cmdB (cl nu ki : Int) (topic group text : ByteArray) (n : Int) : ByteArray := vb (foldN cl) ++ vb (foldN nu) ++ vb (foldN ki) ++ vt topic ++ vt group ++ vt text ++ vb (foldN n)
theorem vb_size10 {n : Int} (h : -9223372036854775808 ≤ n ∧ n ≤ 9223372036854775807) : (vb (foldN n)).size ≤ 10 := vb_size 9 _ (by have := foldN_lt h; omega)
theorem vt_size {t : ByteArray} (h : t.size ≤ 20000) : (vt t).size ≤ 20010 := by
  have := vb_size10 (n := t.size) (by omega)
  unfold vt; rw [ByteArray.size_append]; omega
end Go.Dat
namespace Go.Proofs.Ytanienlcebkijaa
open Go.Abs Go.Dat
set_option maxRecDepth 100000
set_option maxHeartbeats 8000000
theorem l06Bytes_spec (h : AHeap) (hw : h.wf) (cl nu ki : Int) (topic group text : ByteArray) (n : Int) (b1 : -9223372036854775808 ≤ cl ∧ cl ≤ 9223372036854775807) (b2 : -9223372036854775808 ≤ nu ∧ nu ≤ 9223372036854775807) (b3 : -9223372036854775808 ≤ ki ∧ ki ≤ 9223372036854775807) (b4 : -9223372036854775808 ≤ n ∧ n ≤ 9223372036854775807)
    (o1 : topic.size ≤ 20000) (o2 : group.size ≤ 20000) (o3 : text.size ≤ 20000) :
    ∃ v h', ACall Try.prog 189 [.agg #[.int .i64 cl, .int .i64 nu, .int .i64 ki, .string topic, .string group, .string text, .int .i64 n]] h v h' ∧ h.Le h' ∧ h'.wf ∧ v = .string (cmdB cl nu ki topic group text n) := by
  refine acall_q fun Q HQ => ?_
  refine acall_vc (fun _ => false) (fun _ => [(0, 0, []), (3, 0, []), (7, 0, []), (11, 0, []), (15, 0, []), (19, 0, []), (23, 0, []), (1, 1, []), (4, 1, []), (8, 1, []), (12, 1, []), (16, 1, []), (20, 1, []), (24, 1, []), (2, 3, [4, 8, 12, 16, 20, 24]), (5, 3, [8, 12, 16, 20, 24]), (6, 0, []), (9, 3, [12, 16, 20, 24]), (10, 0, []), (13, 3, [16, 20, 24]), (14, 0, []), (17, 3, [20, 24]), (18, 0, []), (21, 3, [24]), (22, 0, []), (25, 3, []), (26, 0, []), (27, 0, [])]) (fun _ => .none) mixed Try.func189 rfl rfl rfl (Nat.le_of_ble_eq_true rfl) (by refine vc_mp (by kernel_rfl : (True ∧ True ∧ True) = _) ?_; simp only [and_self]) ?_
  have sz : ∀ a b : ByteArray, (Append.append a b).size = a.size + b.size := fun a b => ByteArray.size_append
  have s1 := vb_size10 b1
  have s2 := vb_size10 b2
  have s3 := vb_size10 b3
  have s4 := vt_size o1
  have s5 := vt_size o2
  have s6 := vt_size o3
  have s7 := vb_size10 b4
  obtain ⟨_, g1, A1, l1, w1, rfl⟩ := specPutNum h hw cl b1
  obtain ⟨_, g2, A2, l2, w2, rfl⟩ := specPutNum g1 w1 nu b2
  obtain ⟨_, g3, A3, l3, w3, rfl⟩ := specPutNum g2 w2 ki b3
  obtain ⟨_, g4, A4, l4, w4, rfl⟩ := specPutText g3 w3 topic o1
  obtain ⟨_, g5, A5, l5, w5, rfl⟩ := specPutText g4 w4 group o2
  obtain ⟨_, g6, A6, l6, w6, rfl⟩ := specPutText g5 w5 text o3
  obtain ⟨_, g7, A7, l7, w7, rfl⟩ := specPutNum g6 w6 n b4
  refine vc_mp (by kernel_rfl : (∃ (x : ByteArray), ∃ (h' : AHeap), ACall Try.prog (165 : Nat) [Value.int IntKind.i64 cl] h (Value.string x) h' ∧ Value.int IntKind.i64 n = Value.int IntKind.i64 n ∧ Value.string text = Value.string text ∧ Value.string group = Value.string group ∧ Value.string topic = Value.string topic ∧ Value.int IntKind.i64 ki = Value.int IntKind.i64 ki ∧ Value.int IntKind.i64 nu = Value.int IntKind.i64 nu ∧ ∃ (x_1 : ByteArray), ∃ (h'_1 : AHeap), ACall Try.prog (165 : Nat) [Value.int IntKind.i64 nu] h' (Value.string x_1) h'_1 ∧ Value.int IntKind.i64 n = Value.int IntKind.i64 n ∧ Value.string text = Value.string text ∧ Value.string group = Value.string group ∧ Value.string topic = Value.string topic ∧ Value.int IntKind.i64 ki = Value.int IntKind.i64 ki ∧ ByteArray.size x + ByteArray.size x_1 ≤ (9223372036854775807 : Nat) ∧ ∃ (x_2 : ByteArray), ∃ (h' : AHeap), ACall Try.prog (165 : Nat) [Value.int IntKind.i64 ki] h'_1 (Value.string x_2) h' ∧ Value.int IntKind.i64 n = Value.int IntKind.i64 n ∧ Value.string text = Value.string text ∧ Value.string group = Value.string group ∧ Value.string topic = Value.string topic ∧ ByteArray.size (Append.append x x_1) + ByteArray.size x_2 ≤ (9223372036854775807 : Nat) ∧ ∃ (x_3 : ByteArray), ∃ (h'_2 : AHeap), ACall Try.prog (166 : Nat) [Value.string topic] h' (Value.string x_3) h'_2 ∧ Value.int IntKind.i64 n = Value.int IntKind.i64 n ∧ Value.string text = Value.string text ∧ Value.string group = Value.string group ∧ ByteArray.size (Append.append (Append.append x x_1) x_2) + ByteArray.size x_3 ≤ (9223372036854775807 : Nat) ∧ ∃ (x_4 : ByteArray), ∃ (h' : AHeap), ACall Try.prog (166 : Nat) [Value.string group] h'_2 (Value.string x_4) h' ∧ Value.int IntKind.i64 n = Value.int IntKind.i64 n ∧ Value.string text = Value.string text ∧ ByteArray.size (Append.append (Append.append (Append.append x x_1) x_2) x_3) + ByteArray.size x_4 ≤ (9223372036854775807 : Nat) ∧ ∃ (x_5 : ByteArray), ∃ (h'_3 : AHeap), ACall Try.prog (166 : Nat) [Value.string text] h' (Value.string x_5) h'_3 ∧ Value.int IntKind.i64 n = Value.int IntKind.i64 n ∧ ByteArray.size (Append.append (Append.append (Append.append (Append.append x x_1) x_2) x_3) x_4) + ByteArray.size x_5 ≤ (9223372036854775807 : Nat) ∧ ∃ (x_6 : ByteArray), ∃ (h' : AHeap), ACall Try.prog (165 : Nat) [Value.int IntKind.i64 n] h'_3 (Value.string x_6) h' ∧ ByteArray.size (Append.append (Append.append (Append.append (Append.append (Append.append x x_1) x_2) x_3) x_4) x_5) + ByteArray.size x_6 ≤ (9223372036854775807 : Nat) ∧ Q (Value.string (Append.append (Append.append (Append.append (Append.append (Append.append (Append.append x x_1) x_2) x_3) x_4) x_5) x_6)) h') = _) ?_
  refine ⟨_, _, A1, rfl, rfl, rfl, rfl, rfl, rfl, _, _, A2, rfl, rfl, rfl, rfl, rfl, by omega, _, _, A3, rfl, rfl, rfl, rfl, by simp only [sz]; omega, _, _, A4, rfl, rfl, rfl, by simp only [sz]; omega, _, _, A5, rfl, rfl, by simp only [sz]; omega, _, _, A6, rfl, by simp only [sz]; omega, _, _, A7, by simp only [sz]; omega, HQ _ _ ⟨l1.trans (l2.trans (l3.trans (l4.trans (l5.trans (l6.trans l7))))), w7, rfl⟩⟩
theorem commandBytes_spec (h : AHeap) (hw : h.wf) (cl nu ki : Int) (topic group text : ByteArray) (n : Int) (b1 : -9223372036854775808 ≤ cl ∧ cl ≤ 9223372036854775807) (b2 : -9223372036854775808 ≤ nu ∧ nu ≤ 9223372036854775807) (b3 : -9223372036854775808 ≤ ki ∧ ki ≤ 9223372036854775807) (b4 : -9223372036854775808 ≤ n ∧ n ≤ 9223372036854775807)
    (o1 : topic.size ≤ 20000) (o2 : group.size ≤ 20000) (o3 : text.size ≤ 20000) :
    ∃ v h', ACall Try.prog 132 [.agg #[.int .i64 cl, .int .i64 nu, .int .i64 ki, .string topic, .string group, .string text, .int .i64 n]] h v h' ∧ h.Le h' ∧ h'.wf ∧ v = .string (cmdB cl nu ki topic group text n) := by
  refine acall_q fun Q HQ => ?_
  refine acall_vc (fun _ => false) (fun _ => [(0, 0, []), (2, 0, []), (4, 0, []), (8, 0, []), (12, 0, []), (16, 0, []), (20, 0, []), (1, 1, []), (3, 1, []), (5, 1, []), (9, 1, []), (13, 1, []), (17, 1, []), (21, 1, []), (6, 3, [9, 13, 17, 21]), (7, 3, [9, 13, 17, 21]), (10, 3, [13, 17, 21]), (11, 0, []), (14, 3, [17, 21]), (15, 0, []), (18, 3, [21]), (19, 0, []), (22, 3, []), (23, 0, []), (24, 0, [])]) (fun _ => .none) mixed Try.func132 rfl rfl rfl (Nat.le_of_ble_eq_true rfl) (by refine vc_mp (by kernel_rfl : (True ∧ True ∧ True) = _) ?_; simp only [and_self]) ?_
  have sz : ∀ a b : ByteArray, (Append.append a b).size = a.size + b.size := fun a b => ByteArray.size_append
  have s1 := vb_size10 b1
  have s2 := vb_size10 b2
  have s3 := vb_size10 b3
  have s4 := vt_size o1
  have s5 := vt_size o2
  have s6 := vt_size o3
  have s7 := vb_size10 b4
  have hx : Sl (h.push ⟨[[.int .i64 cl], [.int .i64 nu], [.int .i64 ki]], 1, true⟩) Sh.int [cl, nu, ki] (.slice (some ⟨h.n, 0, some 1⟩) 3 4) := by
    refine ⟨_, 3, 4, [[.int .i64 cl], [.int .i64 nu], [.int .i64 ki]], rfl, .inr ⟨_, _, rfl⟩, ?_, rfl, fun i x row h1 h2 => ?_⟩
    · rw [get_rowsOf AHeap.get_push_eq (by simp)]; rfl
    · match i, h1, h2 with
      | 0, h1, h2 => simp at h1 h2; subst h1; subst h2; rfl
      | 1, h1, h2 => simp at h1 h2; subst h1; subst h2; rfl
      | 2, h1, h2 => simp at h1 h2; subst h1; subst h2; rfl
      | i + 3, h1, h2 => simp at h1
  have okx : (Sh.sl Sh.int).ok [cl, nu, ki] := ⟨by simp, fun x hx => by
    simp only [List.mem_cons, List.not_mem_nil, or_false] at hx
    rcases hx with rfl | rfl | rfl
    · exact b1
    · exact b2
    · exact b3⟩
  have w0 := hw.push ⟨[[.int .i64 cl], [.int .i64 nu], [.int .i64 ki]], 1, true⟩
  have l0 := AHeap.Le.push hw ⟨[[.int .i64 cl], [.int .i64 nu], [.int .i64 ki]], 1, true⟩
  obtain ⟨_, g3, A3, l3, w3, rfl⟩ := putNums_spec _ w0 _ 3 4 [cl, nu, ki] hx okx (by omega)
  obtain ⟨_, g4, A4, l4, w4, rfl⟩ := putText_spec g3 w3 topic (by omega)
  obtain ⟨_, g5, A5, l5, w5, rfl⟩ := putText_spec g4 w4 group (by omega)
  obtain ⟨_, g6, A6, l6, w6, rfl⟩ := putText_spec g5 w5 text (by omega)
  obtain ⟨_, g7, A7, l7, w7, rfl⟩ := putNum_spec g6 w6 n b4
  have s0 := vns_size [cl, nu, ki] okx.2
  have s00 : (vns [cl, nu, ki]).size ≤ 30 := s0
  have fin : Append.append (Append.append (Append.append (Append.append (vns [cl, nu, ki]) (vt topic)) (vt group)) (vt text)) (vb (foldN n)) = cmdB cl nu ki topic group text n := by
    show vns [cl, nu, ki] ++ vt topic ++ vt group ++ vt text ++ vb (foldN n) = _
    have e : vns [cl, nu, ki] = vb (foldN cl) ++ vb (foldN nu) ++ vb (foldN ki) := by
      show vb (foldN cl) ++ (vb (foldN nu) ++ (vb (foldN ki) ++ ⟨#[]⟩)) = _
      rw [ba_append_nil, ba_assoc]
    rw [e]; rfl
  refine vc_mp (by kernel_rfl : (Value.int IntKind.i64 n = Value.int IntKind.i64 n ∧ Value.string text = Value.string text ∧ Value.string group = Value.string group ∧ Value.string topic = Value.string topic ∧ ∃ (x : ByteArray), ∃ (h' : AHeap), ACall Try.prog (157 : Nat) [Value.slice (some (Addr.mk (AHeap.n h) (0 : Nat) (some (1 : Nat)))) (3 : Nat) (4 : Nat)] (AHeap.push h (AObj.mk [[Value.int IntKind.i64 cl], [Value.int IntKind.i64 nu], [Value.int IntKind.i64 ki]] (1 : Nat) true)) (Value.string x) h' ∧ Value.int IntKind.i64 n = Value.int IntKind.i64 n ∧ Value.string text = Value.string text ∧ Value.string group = Value.string group ∧ Value.string topic = Value.string topic ∧ ∃ (x_1 : ByteArray), ∃ (h'_1 : AHeap), ACall Try.prog (158 : Nat) [Value.string topic] h' (Value.string x_1) h'_1 ∧ Value.int IntKind.i64 n = Value.int IntKind.i64 n ∧ Value.string text = Value.string text ∧ Value.string group = Value.string group ∧ ByteArray.size x + ByteArray.size x_1 ≤ (9223372036854775807 : Nat) ∧ ∃ (x_2 : ByteArray), ∃ (h' : AHeap), ACall Try.prog (158 : Nat) [Value.string group] h'_1 (Value.string x_2) h' ∧ Value.int IntKind.i64 n = Value.int IntKind.i64 n ∧ Value.string text = Value.string text ∧ ByteArray.size (Append.append x x_1) + ByteArray.size x_2 ≤ (9223372036854775807 : Nat) ∧ ∃ (x_3 : ByteArray), ∃ (h'_2 : AHeap), ACall Try.prog (158 : Nat) [Value.string text] h' (Value.string x_3) h'_2 ∧ Value.int IntKind.i64 n = Value.int IntKind.i64 n ∧ ByteArray.size (Append.append (Append.append x x_1) x_2) + ByteArray.size x_3 ≤ (9223372036854775807 : Nat) ∧ ∃ (x_4 : ByteArray), ∃ (h' : AHeap), ACall Try.prog (159 : Nat) [Value.int IntKind.i64 n] h'_2 (Value.string x_4) h' ∧ ByteArray.size (Append.append (Append.append (Append.append x x_1) x_2) x_3) + ByteArray.size x_4 ≤ (9223372036854775807 : Nat) ∧ Q (Value.string (Append.append (Append.append (Append.append (Append.append x x_1) x_2) x_3) x_4)) h') = _) ?_
  refine ⟨rfl, rfl, rfl, rfl, _, _, A3, rfl, rfl, rfl, rfl, _, _, A4, rfl, rfl, rfl, by omega, _, _, A5, rfl, rfl, by simp only [sz]; omega, _, _, A6, rfl, by simp only [sz]; omega, _, _, A7, by simp only [sz]; omega, ?_⟩
  rw [fin]
  exact HQ _ _ ⟨l0.trans (l3.trans (l4.trans (l5.trans (l6.trans l7)))), w7, rfl⟩
theorem cmdOk_sizes {cl nu ki : Int} {topic group text : ByteArray} {n : Int} (H : CmdOk cl nu ki topic group text n) : topic.size ≤ 20000 ∧ group.size ≤ 20000 ∧ text.size ≤ 20000 := by
  have z : (⟨#[]⟩ : ByteArray).size = 0 := rfl
  have h1 := H.2.2.1.2.1
  rcases H.2.2.2 with ⟨_, rfl, rfl, _⟩ | ⟨_, h2, rfl, _⟩ | ⟨_, h2, rfl, _⟩ | ⟨_, rfl, rfl, _⟩
  · omega
  · have := h2.2; omega
  · have := h2.2.1; omega
  · omega
open Classical in
noncomputable def cmdT (cl nu ki : Int) (topic group text : ByteArray) (n : Int) : ByteArray := if CmdOk cl nu ki topic group text n then cmdB cl nu ki topic group text n else ⟨#[]⟩
theorem cmdB_pos {cl nu ki : Int} {topic group text : ByteArray} {n : Int} : cmdB cl nu ki topic group text n ≠ ⟨#[]⟩ := by
  intro h
  have h2 := congrArg ByteArray.size h
  unfold cmdB at h2
  simp only [ByteArray.size_append] at h2
  have : 0 < (vb (foldN n)).size := by
    by_cases hu : foldN n < 128
    · rw [vb_lo hu, oneB_size]; omega
    · rw [vb_hi hu, ByteArray.size_append, oneB_size]; omega
  have z : (⟨#[]⟩ : ByteArray).size = 0 := rfl
  omega
theorem specCommandBytes (h : AHeap) (hw : h.wf) (cl nu ki : Int) (topic group text : ByteArray) (n : Int) (b1 : -9223372036854775808 ≤ cl ∧ cl ≤ 9223372036854775807) (b2 : -9223372036854775808 ≤ nu ∧ nu ≤ 9223372036854775807) (b3 : -9223372036854775808 ≤ ki ∧ ki ≤ 9223372036854775807) (b4 : -9223372036854775808 ≤ n ∧ n ≤ 9223372036854775807)
    (o1 : topic.size ≤ 9223372036854775807) (o2 : group.size ≤ 9223372036854775807) :
    ∃ v h', ACall Try.prog 133 [.agg #[.int .i64 cl, .int .i64 nu, .int .i64 ki, .string topic, .string group, .string text, .int .i64 n]] h v h' ∧ h.Le h' ∧ h'.wf ∧ v = .string (cmdT cl nu ki topic group text n) := by
  refine acall_q fun Q HQ => ?_
  refine acall_vc (fun _ => false) (fun _ => []) (fun _ => .none) mixed Try.func133 rfl rfl rfl (Nat.le_of_ble_eq_true rfl) (by refine vc_mp (by kernel_rfl : (True ∧ (True ∧ (True ∧ True) ∧ True) ∧ True ∧ True) = _) ?_; simp only [and_self]) ?_
  refine vc_mp (by kernel_rfl : (∃ (x : Bool), ∃ (h' : AHeap), ACall Try.prog (188 : Nat) [Value.agg (Array.mk [Value.int IntKind.i64 cl, Value.int IntKind.i64 nu, Value.int IntKind.i64 ki, Value.string topic, Value.string group, Value.string text, Value.int IntKind.i64 n])] h (Value.bool x) h' ∧ bs (!x) (Q (Value.string (ByteArray.mk (Array.mk []))) h') (∃ (x : ByteArray), ∃ (h'_1 : AHeap), ACall Try.prog (189 : Nat) [Value.agg (Array.mk [Value.int IntKind.i64 cl, Value.int IntKind.i64 nu, Value.int IntKind.i64 ki, Value.string topic, Value.string group, Value.string text, Value.int IntKind.i64 n])] h' (Value.string x) h'_1 ∧ Q (Value.string x) h'_1)) = _) ?_
  refine ⟨_, _, commandRight_spec h cl nu ki topic group text n o1 o2, bs_nb (fun e => HQ _ _ ⟨.refl _, hw, ?_⟩) (fun e => ?_)⟩
  · unfold cmdT; rw [if_neg (of_trn e)]
  · obtain ⟨z1, z2, z3⟩ := cmdOk_sizes (of_tr e)
    obtain ⟨_, g, hA, le, wf, rfl⟩ := l06Bytes_spec h hw cl nu ki topic group text n b1 b2 b3 b4 z1 z2 z3
    exact ⟨_, _, hA, HQ _ _ ⟨le, wf, by unfold cmdT; rw [if_pos (of_tr e)]⟩⟩
end Go.Proofs.Ytanienlcebkijaa
end
section
namespace Go.Dat
open Go.Abs
def outX (t : Int × Int × Bool × ByteArray × Int) : clientOutSh.T := ((t.1, t.2.1, t.2.2.1, [], ⟨#[]⟩), t.2.2.2.1, t.2.2.2.2)
def outV (t : Int × Int × Bool × ByteArray × Int) : Value := .agg #[.int .i64 t.1, .int .i64 t.2.1, .bool t.2.2.1, .slice none 0 0, .string ⟨#[]⟩, .string t.2.2.2.1, .int .i64 t.2.2.2.2]
open Classical in
noncomputable def askT (id number : Int) (asked : Bool) (hs : List heardSh.T) (told : ByteArray) (ki : Int) (topic group text : ByteArray) (n : Int) : Int × Int × Bool × ByteArray × Int :=
  if ¬ ClientOk id number asked hs told then (0, 0, false, ⟨#[]⟩, 1) else if asked = true then (0, 0, false, ⟨#[]⟩, 10) else if number = 1000000000 then (0, 0, false, ⟨#[]⟩, 9)
  else if ¬ CmdOk id (number + 1) ki topic group text n then (0, 0, false, ⟨#[]⟩, 1) else (id, number + 1, true, cmdB id (number + 1) ki topic group text n, 0)
end Go.Dat
namespace Go.Proofs.Ytanienlcebkijaa
open Go.Abs Go.Dat
set_option maxRecDepth 100000
set_option maxHeartbeats 8000000
theorem l15Ill_spec (h : AHeap) (code : Int) : ACall Try.prog 83 [.int .i64 code] h (.agg #[.int .i64 0, .int .i64 0, .bool false, .slice none 0 0, .string ⟨#[]⟩, .string ⟨#[]⟩, .int .i64 code]) h := by
  refine acall_out (acall_vc (fun _ => false) (fun _ => []) (fun _ => .none) mixed Try.func83 rfl rfl rfl (Nat.le_of_ble_eq_true rfl) (by refine vc_mp (by kernel_rfl : (True ∧ True ∧ True) = _) ?_; simp only [and_self]) ?_)
  refine vc_mp (by kernel_rfl : (Value.agg (Array.mk [Value.int IntKind.i64 (Int.ofNat (0 : Nat)), Value.int IntKind.i64 (Int.ofNat (0 : Nat)), Value.bool false, Value.slice none (0 : Nat) (0 : Nat), Value.string (ByteArray.mk (Array.mk [])), Value.string (ByteArray.mk (Array.mk [])), Value.int IntKind.i64 code]) = Value.agg (Array.mk [Value.int IntKind.i64 (0 : Int), Value.int IntKind.i64 (0 : Int), Value.bool false, Value.slice none (0 : Nat) (0 : Nat), Value.string (ByteArray.mk (Array.mk [])), Value.string (ByteArray.mk (Array.mk [])), Value.int IntKind.i64 code]) ∧ h = h) = _) ?_
  exact ⟨rfl, rfl⟩
theorem specClientAsk (h : AHeap) (hw : h.wf) (id number : Int) (asked : Bool) (a : Option Addr) (c : Nat) (hs : List heardSh.T) (told : ByteArray) (hx : Sl h heardSh hs (.slice a hs.length c)) (ok : clientSh.ok (id, number, asked, hs, told))
    (cl nu ki : Int) (topic group text : ByteArray) (n : Int) (okm : commandSh.ok (cl, nu, ki, topic, group, text, n)) :
    ∃ v h', ACall Try.prog 58 [.agg #[.int .i64 id, .int .i64 number, .bool asked, .slice a hs.length c, .string told], .agg #[.int .i64 cl, .int .i64 nu, .int .i64 ki, .string topic, .string group, .string text, .int .i64 n]] h v h' ∧ h.Le h' ∧ h'.wf ∧ v = outV (askT id number asked hs told ki topic group text n) := by
  refine acall_q fun Q HQ => ?_
  refine acall_vc (fun _ => false) (fun _ => []) (fun _ => .none) mixed Try.func58 rfl rfl rfl (Nat.le_of_ble_eq_true rfl) (by refine vc_mp (by kernel_rfl : (True ∧ (True ∧ (True ∧ True) ∧ True ∧ (True ∧ True) ∧ True ∧ (True ∧ True) ∧ True) ∧ True ∧ True ∧ True ∧ (True ∧ (True ∧ True) ∧ True) ∧ True ∧ True) = _) ?_; simp only [and_self]) ?_
  have o1 : hs.length ≤ 9223372036854775807 := ok.2.2.2.1.1
  have o2 : told.size ≤ 9223372036854775807 := ok.2.2.2.2
  have o3 : topic.size ≤ 9223372036854775807 := okm.2.2.2.1
  have o4 : group.size ≤ 9223372036854775807 := okm.2.2.2.2.1
  have bi : -9223372036854775808 ≤ id ∧ id ≤ 9223372036854775807 := ok.1
  have bn : -9223372036854775808 ≤ number ∧ number ≤ 9223372036854775807 := ok.2.1
  have bk : -9223372036854775808 ≤ ki ∧ ki ≤ 9223372036854775807 := okm.2.2.1
  have b4 : -9223372036854775808 ≤ n ∧ n ≤ 9223372036854775807 := okm.2.2.2.2.2.2
  refine vc_mp (by kernel_rfl : (∃ (x : Bool), ∃ (h' : AHeap), ACall Try.prog (63 : Nat) [Value.agg (Array.mk [Value.int IntKind.i64 id, Value.int IntKind.i64 number, Value.bool asked, Value.slice a (List.length hs) c, Value.string told])] h (Value.bool x) h' ∧ bs (!x) (∃ (x : Int), ∃ (x_1 : Int), ∃ (x_2 : Bool), ∃ (a : Option Addr), ∃ (n : Nat), ∃ (c : Nat), ∃ (x_3 : ByteArray), ∃ (x_4 : ByteArray), ∃ (x_5 : Int), ∃ (h'_1 : AHeap), ACall Try.prog (83 : Nat) [Value.int IntKind.i64 (1 : Int)] h' (Value.agg (Array.mk [Value.int IntKind.i64 x, Value.int IntKind.i64 x_1, Value.bool x_2, Value.slice a n c, Value.string x_3, Value.string x_4, Value.int IntKind.i64 x_5])) h'_1 ∧ Q (Value.agg (Array.mk [Value.int IntKind.i64 x, Value.int IntKind.i64 x_1, Value.bool x_2, Value.slice a n c, Value.string x_3, Value.string x_4, Value.int IntKind.i64 x_5])) h'_1) (bs asked (∃ (x : Int), ∃ (x_1 : Int), ∃ (x_2 : Bool), ∃ (a : Option Addr), ∃ (n : Nat), ∃ (c : Nat), ∃ (x_3 : ByteArray), ∃ (x_4 : ByteArray), ∃ (x_5 : Int), ∃ (h'_1 : AHeap), ACall Try.prog (83 : Nat) [Value.int IntKind.i64 (10 : Int)] h' (Value.agg (Array.mk [Value.int IntKind.i64 x, Value.int IntKind.i64 x_1, Value.bool x_2, Value.slice a n c, Value.string x_3, Value.string x_4, Value.int IntKind.i64 x_5])) h'_1 ∧ Q (Value.agg (Array.mk [Value.int IntKind.i64 x, Value.int IntKind.i64 x_1, Value.bool x_2, Value.slice a n c, Value.string x_3, Value.string x_4, Value.int IntKind.i64 x_5])) h'_1) (bs (decide (number ≥ (1000000000 : Int))) (∃ (x : Int), ∃ (x_1 : Int), ∃ (x_2 : Bool), ∃ (a : Option Addr), ∃ (n : Nat), ∃ (c : Nat), ∃ (x_3 : ByteArray), ∃ (x_4 : ByteArray), ∃ (x_5 : Int), ∃ (h'_1 : AHeap), ACall Try.prog (83 : Nat) [Value.int IntKind.i64 (9 : Int)] h' (Value.agg (Array.mk [Value.int IntKind.i64 x, Value.int IntKind.i64 x_1, Value.bool x_2, Value.slice a n c, Value.string x_3, Value.string x_4, Value.int IntKind.i64 x_5])) h'_1 ∧ Q (Value.agg (Array.mk [Value.int IntKind.i64 x, Value.int IntKind.i64 x_1, Value.bool x_2, Value.slice a n c, Value.string x_3, Value.string x_4, Value.int IntKind.i64 x_5])) h'_1) (∃ (x : ByteArray), ∃ (h'_1 : AHeap), ACall Try.prog (133 : Nat) [Value.agg (Array.mk [Value.int IntKind.i64 id, Value.int IntKind.i64 (IntKind.wrap IntKind.i64 (number + (1 : Int))), Value.int IntKind.i64 ki, Value.string topic, Value.string group, Value.string text, Value.int IntKind.i64 n])] h' (Value.string x) h'_1 ∧ bs (decide (x = ByteArray.mk (Array.mk []))) (∃ (x : Int), ∃ (x_1 : Int), ∃ (x_2 : Bool), ∃ (a : Option Addr), ∃ (n : Nat), ∃ (c : Nat), ∃ (x_3 : ByteArray), ∃ (x_4 : ByteArray), ∃ (x_5 : Int), ∃ (h' : AHeap), ACall Try.prog (83 : Nat) [Value.int IntKind.i64 (1 : Int)] h'_1 (Value.agg (Array.mk [Value.int IntKind.i64 x, Value.int IntKind.i64 x_1, Value.bool x_2, Value.slice a n c, Value.string x_3, Value.string x_4, Value.int IntKind.i64 x_5])) h' ∧ Q (Value.agg (Array.mk [Value.int IntKind.i64 x, Value.int IntKind.i64 x_1, Value.bool x_2, Value.slice a n c, Value.string x_3, Value.string x_4, Value.int IntKind.i64 x_5])) h') (Q (Value.agg (Array.mk [Value.int IntKind.i64 id, Value.int IntKind.i64 (IntKind.wrap IntKind.i64 (number + (1 : Int))), Value.bool true, Value.slice none (0 : Nat) (0 : Nat), Value.string (ByteArray.mk (Array.mk [])), Value.string x, Value.int IntKind.i64 (Int.ofNat (0 : Nat))])) h'_1))))) = _) ?_
  refine ⟨_, _, specClientRight h id number asked a c hs told hx o1 o2, bs_nb (fun e => ?_) (fun e1 => bs_of (fun e => ?_) (fun e2 => bs_d (fun e => ?_) (fun e3 => ?_)))⟩
  · refine ⟨_, _, _, _, _, _, _, _, _, _, l15Ill_spec _ _, HQ _ _ ⟨.refl _, hw, ?_⟩⟩
    unfold askT; rw [if_pos (of_trn e)]; rfl
  · refine ⟨_, _, _, _, _, _, _, _, _, _, l15Ill_spec _ _, HQ _ _ ⟨.refl _, hw, ?_⟩⟩
    unfold askT; rw [if_neg (fun H => H (of_tr e1)), if_pos e]; rfl
  · have hn : number = 1000000000 := by have := (of_tr e1).2.1.2; omega
    refine ⟨_, _, _, _, _, _, _, _, _, _, l15Ill_spec _ _, HQ _ _ ⟨.refl _, hw, ?_⟩⟩
    unfold askT; rw [if_neg (fun H => H (of_tr e1)), if_neg (by simp [e2]), if_pos hn]; rfl
  · have ew : IntKind.i64.wrap (number + 1) = number + 1 := wrap_i64 (by omega)
    rw [ew]
    obtain ⟨_, g, hA, le, wf, rfl⟩ := specCommandBytes h hw id (number + 1) ki topic group text n bi (by omega) bk b4 o3 o4
    by_cases hc : CmdOk id (number + 1) ki topic group text n
    · have ec : cmdT id (number + 1) ki topic group text n = cmdB id (number + 1) ki topic group text n := by unfold cmdT; rw [if_pos hc]
      rw [ec] at hA
      refine ⟨_, _, hA, bs_d (fun e => absurd e cmdB_pos) (fun _ => HQ _ _ ⟨le, wf, ?_⟩)⟩
      unfold askT; rw [if_neg (fun H => H (of_tr e1)), if_neg (by simp [e2]), if_neg (by omega), if_neg (fun H => H hc)]; rfl
    · have ec : cmdT id (number + 1) ki topic group text n = ⟨#[]⟩ := by unfold cmdT; rw [if_neg hc]
      rw [ec] at hA
      refine ⟨_, _, hA, bs_d (fun _ => ⟨_, _, _, _, _, _, _, _, _, _, l15Ill_spec _ _, HQ _ _ ⟨le, wf, ?_⟩⟩) (fun e => absurd rfl e)⟩
      unfold askT; rw [if_neg (fun H => H (of_tr e1)), if_neg (by simp [e2]), if_neg (by omega), if_pos hc]; rfl
theorem implClientAsk (h : AHeap) (hw : h.wf) (id number : Int) (asked : Bool) (a : Option Addr) (c : Nat) (hs : List heardSh.T) (told : ByteArray) (hx : Sl h heardSh hs (.slice a hs.length c)) (ok : clientSh.ok (id, number, asked, hs, told))
    (cl nu ki : Int) (topic group text : ByteArray) (n : Int) (okm : commandSh.ok (cl, nu, ki, topic, group, text, n)) :
    ∃ v h', ACall Try.prog 55 [.agg #[.int .i64 id, .int .i64 number, .bool asked, .slice a hs.length c, .string told], .agg #[.int .i64 cl, .int .i64 nu, .int .i64 ki, .string topic, .string group, .string text, .int .i64 n]] h v h' ∧ h.Le h' ∧ h'.wf ∧ v = outV (askT id number asked hs told ki topic group text n) := by
  refine acall_q fun Q HQ => ?_
  refine acall_vc (fun _ => false) (fun r => match r with | 7 => [(0, 0, []), (2, 0, []), (1, 1, []), (5, 0, []), (3, 1, []), (4, 0, []), (6, 3, [3]), (7, 0, []), (8, 3, [])] | 10 => [(0, 0, []), (2, 0, []), (1, 1, []), (3, 1, []), (4, 0, []), (5, 1, []), (6, 3, [1, 3]), (7, 0, []), (8, 3, [])] | _ => []) (fun _ => .none) mixed Try.func55 rfl rfl rfl (Nat.le_of_ble_eq_true rfl) (by refine vc_mp (by kernel_rfl : (True ∧ (True ∧ (True ∧ True) ∧ True ∧ (True ∧ True) ∧ True ∧ (True ∧ True) ∧ True) ∧ True ∧ (True ∧ (True ∧ True) ∧ True) ∧ True ∧ True) = _) ?_; simp only [and_self]) ?_
  have o1 : hs.length ≤ 9223372036854775807 := ok.2.2.2.1.1
  have o2 : told.size ≤ 9223372036854775807 := ok.2.2.2.2
  have o3 : topic.size ≤ 9223372036854775807 := okm.2.2.2.1
  have o4 : group.size ≤ 9223372036854775807 := okm.2.2.2.2.1
  have bi : -9223372036854775808 ≤ id ∧ id ≤ 9223372036854775807 := ok.1
  have bn : -9223372036854775808 ≤ number ∧ number ≤ 9223372036854775807 := ok.2.1
  have bk : -9223372036854775808 ≤ ki ∧ ki ≤ 9223372036854775807 := okm.2.2.1
  have b4 : -9223372036854775808 ≤ n ∧ n ≤ 9223372036854775807 := okm.2.2.2.2.2.2
  refine vc_mp (by kernel_rfl : (∃ (x : Bool), ∃ (h' : AHeap), ACall Try.prog (85 : Nat) [Value.agg (Array.mk [Value.int IntKind.i64 id, Value.int IntKind.i64 number, Value.bool asked, Value.slice a (List.length hs) c, Value.string told])] h (Value.bool x) h' ∧ bs (!x) (Q (Value.agg (Array.mk [Value.int IntKind.i64 (Int.ofNat (0 : Nat)), Value.int IntKind.i64 (Int.ofNat (0 : Nat)), Value.bool false, Value.slice none (0 : Nat) (0 : Nat), Value.string (ByteArray.mk (Array.mk [])), Value.string (ByteArray.mk (Array.mk [])), Value.int IntKind.i64 (1 : Int)])) h') (bs asked (Q (Value.agg (Array.mk [Value.int IntKind.i64 (Int.ofNat (0 : Nat)), Value.int IntKind.i64 (Int.ofNat (0 : Nat)), Value.bool false, Value.slice none (0 : Nat) (0 : Nat), Value.string (ByteArray.mk (Array.mk [])), Value.string (ByteArray.mk (Array.mk [])), Value.int IntKind.i64 (10 : Int)])) h') (bs (decide (number = (1000000000 : Int))) (Q (Value.agg (Array.mk [Value.int IntKind.i64 (Int.ofNat (0 : Nat)), Value.int IntKind.i64 (Int.ofNat (0 : Nat)), Value.bool false, Value.slice none (0 : Nat) (0 : Nat), Value.string (ByteArray.mk (Array.mk [])), Value.string (ByteArray.mk (Array.mk [])), Value.int IntKind.i64 (9 : Int)])) h') (Value.int IntKind.i64 number = Value.int IntKind.i64 number ∧ ∃ (x : Bool), ∃ (h'_1 : AHeap), ACall Try.prog (131 : Nat) [Value.agg (Array.mk [Value.int IntKind.i64 id, Value.int IntKind.i64 (IntKind.wrap IntKind.i64 (number + (1 : Int))), Value.int IntKind.i64 ki, Value.string topic, Value.string group, Value.string text, Value.int IntKind.i64 n])] h' (Value.bool x) h'_1 ∧ bs (!x) (Q (Value.agg (Array.mk [Value.int IntKind.i64 (Int.ofNat (0 : Nat)), Value.int IntKind.i64 (Int.ofNat (0 : Nat)), Value.bool false, Value.slice none (0 : Nat) (0 : Nat), Value.string (ByteArray.mk (Array.mk [])), Value.string (ByteArray.mk (Array.mk [])), Value.int IntKind.i64 (1 : Int)])) h'_1) (∃ (x : ByteArray), ∃ (h' : AHeap), ACall Try.prog (132 : Nat) [Value.agg (Array.mk [Value.int IntKind.i64 id, Value.int IntKind.i64 (IntKind.wrap IntKind.i64 (number + (1 : Int))), Value.int IntKind.i64 ki, Value.string topic, Value.string group, Value.string text, Value.int IntKind.i64 n])] h'_1 (Value.string x) h' ∧ Value.int IntKind.i64 (IntKind.wrap IntKind.i64 (number + (1 : Int))) = Value.int IntKind.i64 (IntKind.wrap IntKind.i64 (number + (1 : Int))) ∧ Value.int IntKind.i64 id = Value.int IntKind.i64 id ∧ Q (Value.agg (Array.mk [Value.int IntKind.i64 id, Value.int IntKind.i64 (IntKind.wrap IntKind.i64 (number + (1 : Int))), Value.bool true, Value.slice none (0 : Nat) (0 : Nat), Value.string (ByteArray.mk (Array.mk [])), Value.string x, Value.int IntKind.i64 (Int.ofNat (0 : Nat))])) h'))))) = _) ?_
  refine ⟨_, _, isClient_spec h id number asked a c hs told hx o1 o2, bs_nb (fun e => ?_) (fun e1 => bs_of (fun e => ?_) (fun e2 => bs_d (fun e => ?_) (fun e3 => ?_)))⟩
  · refine HQ _ _ ⟨.refl _, hw, ?_⟩
    unfold askT; rw [if_pos (of_trn e)]; rfl
  · refine HQ _ _ ⟨.refl _, hw, ?_⟩
    unfold askT; rw [if_neg (fun H => H (of_tr e1)), if_pos e]; rfl
  · refine HQ _ _ ⟨.refl _, hw, ?_⟩
    unfold askT; rw [if_neg (fun H => H (of_tr e1)), if_neg (by simp [e2]), if_pos e]; rfl
  · have hlt := (of_tr e1).2.1.2
    have ew : IntKind.i64.wrap (number + 1) = number + 1 := wrap_i64 (by omega)
    rw [ew]
    refine ⟨rfl, _, _, isCommand_spec h id (number + 1) ki topic group text n o3 o4, bs_nb (fun e => HQ _ _ ⟨.refl _, hw, ?_⟩) (fun e4 => ?_)⟩
    · unfold askT; rw [if_neg (fun H => H (of_tr e1)), if_neg (by simp [e2]), if_neg e3, if_pos (of_trn e)]; rfl
    · obtain ⟨z1, z2, z3⟩ := cmdOk_sizes (of_tr e4)
      obtain ⟨_, g, hA, le, wf, rfl⟩ := commandBytes_spec h hw id (number + 1) ki topic group text n bi (by omega) bk b4 z1 z2 z3
      refine ⟨_, _, hA, rfl, rfl, HQ _ _ ⟨le, wf, ?_⟩⟩
      unfold askT; rw [if_neg (fun H => H (of_tr e1)), if_neg (by simp [e2]), if_neg e3, if_neg (fun H => H (of_tr e4))]; rfl
end Go.Proofs.Ytanienlcebkijaa
end
