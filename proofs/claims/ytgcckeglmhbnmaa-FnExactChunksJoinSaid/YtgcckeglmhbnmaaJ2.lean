/- The law FnExactChunksJoin tells true. -/
import Derived.Test.YtgcckeglmhbnmaaJ1
namespace Go.Dat
open Go.Abs
def Chs (xs : List Sh.str.T) : Prop := xs.length ≤ 400 ∧ (∀ (j : Nat) (t : ByteArray), xs[j]? = some t → ¬ 500 < t.size) ∧ (cat xs).size ≤ 20000
open Classical in
noncomputable def joinB (xs : List Sh.str.T) : ByteArray := if Chs xs then cat xs else ⟨#[]⟩
theorem joinB_pos {xs : List Sh.str.T} (h : Chs xs) : joinB xs = cat xs := by unfold joinB; rw [if_pos h]
theorem joinB_neg {xs : List Sh.str.T} (h : ¬ Chs xs) : joinB xs = ⟨#[]⟩ := by unfold joinB; rw [if_neg h]
theorem rows_ok (d : ByteArray) : ((bytesRows d).all fun row => decide (row.length = 1) && row.all fun v => match v with | .agg _ => false | .tuple _ => false | .complex _ _ _ => false | _ => true) = true := by
  unfold bytesRows
  rw [List.all_map, List.all_eq_true]
  intro x _
  rfl
theorem cat_take {xs : List Sh.str.T} {i : Nat} {t : ByteArray} (h : xs[i]? = some t) : cat (xs.take (i + 1)) = cat (xs.take i) ++ t := by
  obtain ⟨hi, e⟩ := List.getElem?_eq_some_iff.1 h
  rw [List.take_succ_eq_append_getElem hi, cat_append, e]
  show cat (xs.take i) ++ (t ++ ⟨#[]⟩) = _
  rw [ba_append_nil]
theorem cat_take_le {xs : List Sh.str.T} (i : Nat) : (cat (xs.take i)).size ≤ (cat xs).size := by
  have : cat xs = cat (xs.take i) ++ cat (xs.drop i) := by rw [← cat_append, List.take_append_drop]
  rw [this, ByteArray.size_append]; omega
theorem cat_sz : ∀ (xs : List Sh.str.T) (l : Int), 0 ≤ l → 0 ≤ szL Sh.str.sz xs l → ((cat xs).size : Int) ≤ l
  | [], l, h, _ => h
  | x :: xs, l, h, h2 => by
    have e : szL Sh.str.sz (x :: xs) l = if Sh.str.sz x l < 0 then -1 else szL Sh.str.sz xs (Sh.str.sz x l) := rfl
    rw [e] at h2
    split at h2
    · omega
    · rename_i hn
      have hle : Sh.str.sz x l = l - ((x : ByteArray).size : Int) := by
        by_cases hc : l - ((x : ByteArray).size : Int) < 0
        · rw [sz_strn hc] at hn; omega
        · exact sz_str hc
      rw [hle] at h2 hn
      have := cat_sz xs _ (by omega) h2
      show (((x : ByteArray) ++ cat xs).size : Int) ≤ l
      rw [ByteArray.size_append]; omega
end Go.Dat
namespace Go.Proofs.Ytgcckeglmhbnmaa
open Go.Abs Go.Dat
set_option maxRecDepth 100000
set_option maxHeartbeats 4000000

theorem chunk1_spec (h : AHeap) (t : ByteArray) : ACall Try.prog 83 [.string t] h (.bool (tr (500 < t.size))) h := by
  refine acall_out (acall_vc (fun _ => false) (fun _ => []) (fun _ => .none) mixed Try.func83 rfl rfl rfl (Nat.le_of_ble_eq_true rfl) (by refine vc_mp (by kernel_rfl : (True ∧ True ∧ True) = _) ?_; simp only [and_self]) ?_)
  refine vc_mp (by kernel_rfl : (Value.bool (decide ((↑(ByteArray.size t) : Int) > (500 : Int))) = Value.bool (tr ((500 : Nat) < ByteArray.size t)) ∧ h = h) = _) ?_
  refine ⟨congrArg _ ?_, rfl⟩
  by_cases e : (t.size : Int) > 500
  · rw [decide_eq_true e]; exact tr_true (by omega)
  · rw [decide_eq_false e]; exact tr_false (by omega)

def ixcL (a : Option Addr) (n c : Nat) (h : AHeap) (xs : List Sh.str.T) : LSpec where
  ι := Nat
  κ := Unit
  I := fun i => i ≤ n ∧ ∀ (j : Nat) (t : ByteArray), j < i → xs[j]? = some t → ¬ 500 < t.size
  μ := fun i => n - i
  head := fun i => ⟨[(0, .slice a n c), (1, .func (.func 83) #[] #[]), (7, .int .i64 n), (8, .int .i64 i)], [], h⟩
  post := fun _ => ⟨[], [], h⟩
  R := fun _ _ => ∀ (j : Nat) (t : ByteArray), xs[j]? = some t → ¬ 500 < t.size
  ret := fun _ v h' => ∃ r : Int, v = .int .i64 r ∧ h' = h ∧ 0 ≤ r ∧ ∃ (j : Nat) (t : ByteArray), xs[j]? = some t ∧ 500 < t.size

theorem indexCh_spec (h : AHeap) (a : Option Addr) (n c : Nat) (xs : List Sh.str.T) (hx : Sl h Sh.str xs (.slice a n c)) (hn : n ≤ 9223372036854775807) :
    ∃ v h', ACall Try.prog 122 [.slice a n c, .func (.func 83) #[] #[]] h v h' ∧ ∃ r : Int, v = .int .i64 r ∧ h' = h ∧ (0 ≤ r ↔ ∃ (j : Nat) (t : ByteArray), xs[j]? = some t ∧ 500 < t.size) := by
  have en := hx.len
  refine acall_vc (fun _ => true) (fun _ => []) (fun _ => ixcL a n c h xs) mixed Try.func122 rfl rfl rfl (Nat.le_of_ble_eq_true rfl) ?_ ?_
  · refine vc_mp (by kernel_rfl : (True ∧ (True ∧ (∀ (i : Nat), (i ≤ n ∧ ∀ (j : Nat) (t : ByteArray), j < i → xs[j]? = some t → ¬(500 : Nat) < ByteArray.size t) → bs (decide ((↑i : Int) < (↑n : Int))) (∃ (l : Nat), ∃ (r : Nat), a = some (Addr.mk l r (some (1 : Nat))) ∧ (0 : Int) ≤ (↑i : Int) ∧ (↑i : Int) < (↑n : Int) ∧ ∃ (x : ByteArray), AHeap.ld h l (r + Int.toNat (↑i : Int)) (0 : Nat) (1 : Nat) = some [Value.string x] ∧ ∃ (x_1 : Bool), ∃ (h' : AHeap), ACall Try.prog (83 : FuncId) [Value.string x] h (Value.bool x_1) h' ∧ bs x_1 (∃ (r : Int), Value.int IntKind.i64 (↑i : Int) = Value.int IntKind.i64 r ∧ h' = h ∧ (0 : Int) ≤ r ∧ ∃ (j : Nat), ∃ (t : ByteArray), xs[j]? = some t ∧ (500 : Nat) < ByteArray.size t) (∃ (j : Nat), Value.slice a n c = Value.slice a n c ∧ Value.func (Fn.func (83 : FuncId)) (Array.mk []) (Array.mk []) = Value.func (Fn.func (83 : FuncId)) (Array.mk []) (Array.mk []) ∧ Value.int IntKind.i64 (↑n : Int) = Value.int IntKind.i64 (↑n : Int) ∧ Value.int IntKind.i64 (IntKind.wrap IntKind.i64 ((↑i : Int) + (1 : Int))) = Value.int IntKind.i64 (↑j : Int) ∧ h = h' ∧ (j ≤ n ∧ ∀ (j_1 : Nat) (t : ByteArray), j_1 < j → xs[j_1]? = some t → ¬(500 : Nat) < ByteArray.size t) ∧ n - j < n - i ∧ (∀ (k : Unit), (∀ (j : Nat) (t : ByteArray), xs[j]? = some t → ¬(500 : Nat) < ByteArray.size t) → ∀ (j : Nat) (t : ByteArray), xs[j]? = some t → ¬(500 : Nat) < ByteArray.size t) ∧ ∀ (v : Value) (h_1 : AHeap), (∃ (r : Int), v = Value.int IntKind.i64 r ∧ h_1 = h ∧ (0 : Int) ≤ r ∧ ∃ (j : Nat), ∃ (t : ByteArray), xs[j]? = some t ∧ (500 : Nat) < ByteArray.size t) → ∃ (r : Int), v = Value.int IntKind.i64 r ∧ h_1 = h ∧ (0 : Int) ≤ r ∧ ∃ (j : Nat), ∃ (t : ByteArray), xs[j]? = some t ∧ (500 : Nat) < ByteArray.size t)) (∃ (j : Unit), h = h ∧ ∀ (j : Nat) (t : ByteArray), xs[j]? = some t → ¬(500 : Nat) < ByteArray.size t)) ∧ True ∧ (True ∧ True) ∧ (True ∧ True ∧ (True ∧ True) ∧ True) ∧ True) ∧ True ∧ True) = _) ?_
    simp only [true_and, and_true]
    rintro (i : Nat) ⟨hi, hall⟩
    refine bs_d (fun hlt => ?_) (fun hge => ?_)
    · have hio : i < xs.length := by omega
      obtain ⟨t, hat⟩ : ∃ y : ByteArray, xs[i]? = some y := ⟨_, List.getElem?_eq_getElem hio⟩
      obtain ⟨l, r, row, ha, _, hrd, hld⟩ := hx.elem hat
      obtain rfl : row = [.string t] := hrd
      refine ⟨l, r, ha, Int.natCast_nonneg _, hlt, _, hld, _, _, chunk1_spec h t, bs_of (fun e => ⟨_, rfl, rfl, Int.natCast_nonneg _, i, t, hat, of_tr e⟩) (fun e => ?_)⟩
      refine ⟨i + 1, by rw [wrap_i64 (by omega)]; rfl, rfl, ⟨by omega, fun j t' hj hj2 => ?_⟩, by omega, fun _ h => h, fun _ _ h => h⟩
      rcases Nat.lt_succ_iff_lt_or_eq.1 hj with hj | rfl
      · exact hall j t' hj hj2
      · rw [hat] at hj2; cases hj2; exact of_trn e
    · refine ⟨(), fun j t hj => hall j t ?_ hj⟩
      have := (List.getElem?_eq_some_iff.1 hj).1
      omega
  · refine vc_mp (by kernel_rfl : (∃ (i : Nat), Value.slice a n c = Value.slice a n c ∧ Value.func (Fn.func (83 : FuncId)) (Array.mk []) (Array.mk []) = Value.func (Fn.func (83 : FuncId)) (Array.mk []) (Array.mk []) ∧ Value.int IntKind.i64 (↑n : Int) = Value.int IntKind.i64 (↑n : Int) ∧ Value.int IntKind.i64 (0 : Int) = Value.int IntKind.i64 (↑i : Int) ∧ h = h ∧ (i ≤ n ∧ ∀ (j : Nat) (t : ByteArray), j < i → xs[j]? = some t → ¬(500 : Nat) < ByteArray.size t) ∧ (∀ (j : Unit), (∀ (j : Nat) (t : ByteArray), xs[j]? = some t → ¬(500 : Nat) < ByteArray.size t) → ∃ (r : Int), Value.int IntKind.i64 (-1 : Int) = Value.int IntKind.i64 r ∧ h = h ∧ ((0 : Int) ≤ r ↔ ∃ (j : Nat), ∃ (t : ByteArray), xs[j]? = some t ∧ (500 : Nat) < ByteArray.size t)) ∧ ∀ (v : Value) (h_1 : AHeap), (∃ (r : Int), v = Value.int IntKind.i64 r ∧ h_1 = h ∧ (0 : Int) ≤ r ∧ ∃ (j : Nat), ∃ (t : ByteArray), xs[j]? = some t ∧ (500 : Nat) < ByteArray.size t) → ∃ (r : Int), v = Value.int IntKind.i64 r ∧ h_1 = h ∧ ((0 : Int) ≤ r ↔ ∃ (j : Nat), ∃ (t : ByteArray), xs[j]? = some t ∧ (500 : Nat) < ByteArray.size t)) = _) ?_
    refine ⟨(0 : Nat), rfl, rfl, rfl, rfl, rfl, ⟨Nat.zero_le _, fun j _ hj => absurd hj (Nat.not_lt_zero _)⟩, fun _ e => ⟨_, rfl, rfl, ?_⟩, fun _ _ ⟨r, e1, e2, e3, e4⟩ => ⟨r, e1, e2, fun _ => e4, fun _ => e3⟩⟩
    exact ⟨fun e' => absurd e' (by omega), fun ⟨j, t, h1, h2⟩ => absurd h2 (e j t h1)⟩

theorem containsCh_spec (h : AHeap) (a : Option Addr) (n c : Nat) (xs : List Sh.str.T) (hx : Sl h Sh.str xs (.slice a n c)) (hn : n ≤ 9223372036854775807) :
    ACall Try.prog 82 [.slice a n c, .func (.func 83) #[] #[]] h (.bool (tr (∃ (j : Nat) (t : ByteArray), xs[j]? = some t ∧ 500 < t.size))) h := by
  obtain ⟨v0, h0, hA, r, ev, e0, hr⟩ := indexCh_spec h a n c xs hx hn
  rw [e0, ev] at hA
  refine acall_out (acall_vc (fun _ => true) (fun _ => []) (fun _ => .none) mixed Try.func82 rfl rfl rfl (Nat.le_of_ble_eq_true rfl) (by refine vc_mp (by kernel_rfl : (True ∧ True ∧ True) = _) ?_; simp only [and_self]) ?_)
  refine vc_mp (by kernel_rfl : (∃ (x : Int), ∃ (h' : AHeap), ACall Try.prog (122 : Nat) [Value.slice a n c, Value.func (Fn.func (83 : FuncId)) (Array.mk []) (Array.mk [])] h (Value.int IntKind.i64 x) h' ∧ Value.bool (decide (x ≥ (0 : Int))) = Value.bool (tr (∃ (j : Nat), ∃ (t : ByteArray), xs[j]? = some t ∧ (500 : Nat) < ByteArray.size t)) ∧ h' = h) = _) ?_
  refine ⟨_, _, hA, congrArg _ ?_, rfl⟩
  by_cases e : 0 ≤ r
  · rw [decide_eq_true e]; exact tr_true (hr.1 e)
  · rw [decide_eq_false e]; exact tr_false fun H => e (hr.2 H)


theorem implChunksJoin (h : AHeap) (a : Option Addr) (n c : Nat) (xs : List Sh.str.T) (hx : Sl h Sh.str xs (.slice a n c)) (hn : n ≤ 1048576) (hs : (cat xs).size ≤ 140737488355328) :
    ACall Try.prog 39 [.slice a n c] h (.string (joinB xs)) h := by
  have en := hx.len
  refine acall_out (acall_vc (fun _ => false) (fun _ => []) (fun _ => .none) mixed Try.func39 rfl rfl rfl (Nat.le_of_ble_eq_true rfl) (by refine vc_mp (by kernel_rfl : (True ∧ (True ∧ (True ∧ True) ∧ True) ∧ True ∧ (True ∧ (True ∧ True) ∧ True) ∧ True ∧ True) = _) ?_; simp only [and_self]) ?_)
  refine vc_mp (by kernel_rfl : (bs (decide ((↑n : Int) > (400 : Int))) (Value.string (ByteArray.mk (Array.mk [])) = Value.string (joinB xs) ∧ h = h) (∃ (x : Bool), ∃ (h' : AHeap), ACall Try.prog (82 : Nat) [Value.slice a n c, Value.func (Fn.func (83 : Nat)) (Array.mk []) (Array.mk [])] h (Value.bool x) h' ∧ bs x (Value.string (ByteArray.mk (Array.mk [])) = Value.string (joinB xs) ∧ h' = h) (∃ (x : ByteArray), ∃ (h'_1 : AHeap), ACall Try.prog (84 : Nat) [Value.slice a n c, Value.string (ByteArray.mk (Array.mk []))] h' (Value.string x) h'_1 ∧ bs (decide ((↑(ByteArray.size x) : Int) > (20000 : Int))) (Value.string (ByteArray.mk (Array.mk [])) = Value.string (joinB xs) ∧ h'_1 = h) (Value.string x = Value.string (joinB xs) ∧ h'_1 = h)))) = _) ?_
  have cs := containsCh_spec h a n c xs hx (by omega)
  refine bs_d (fun e => ⟨congrArg _ (joinB_neg fun H => by have := H.1; omega).symm, rfl⟩) (fun e1 => ⟨_, _, cs, bs_of (fun e => ⟨congrArg _ (joinB_neg fun H => ?_).symm, rfl⟩) (fun e2 => ⟨_, _, join_spec h a n c xs hx (by omega) hs, bs_d (fun e => ⟨congrArg _ (joinB_neg fun H => by have := H.2.2; omega).symm, rfl⟩) (fun e3 => ⟨congrArg _ (joinB_pos ⟨by omega, fun j t hj ht => of_trn e2 ⟨j, t, hj, ht⟩, by omega⟩).symm, rfl⟩)⟩)⟩)
  obtain ⟨j, t, hj, ht⟩ := of_tr e
  exact H.2.1 j t hj ht

def scL (xs : List Sh.str.T) (a : Option Addr) (n c : Nat) (h : AHeap) : LSpec where
  ι := Nat × Option Addr × Nat × AHeap
  κ := Option Addr × Nat × AHeap
  I := fun i => i.1 ≤ n ∧ (∀ (j : Nat) (t : ByteArray), j < i.1 → xs[j]? = some t → ¬ 500 < t.size) ∧ BInv h i.2.2.2 i.2.1 (cat (xs.take i.1)).size i.2.2.1 (cat (xs.take i.1))
  μ := fun i => n - i.1
  head := fun i => ⟨[(0, .slice a n c), (3, .slice i.2.1 (cat (xs.take i.1)).size i.2.2.1), (4, .int .i64 i.1)], [], i.2.2.2⟩
  post := fun j => ⟨[(3, .slice j.1 (cat xs).size j.2.1)], [], j.2.2⟩
  R := fun _ j => (∀ (j : Nat) (t : ByteArray), xs[j]? = some t → ¬ 500 < t.size) ∧ BInv h j.2.2 j.1 (cat xs).size j.2.1 (cat xs)
  ret := fun _ v h' => v = .string ⟨#[]⟩ ∧ h.Le h' ∧ h'.wf ∧ ¬ Chs xs

theorem specChunksJoin (h : AHeap) (hw : h.wf) (a : Option Addr) (n c : Nat) (xs : List Sh.str.T) (hx : Sl h Sh.str xs (.slice a n c)) (hn : n ≤ 1048576) (hs : (cat xs).size ≤ 140737488355328) :
    ∃ v h', ACall Try.prog 37 [.slice a n c] h v h' ∧ h.Le h' ∧ h'.wf ∧ v = .string (joinB xs) := by
  have en := hx.len
  refine acall_q fun Q HQ => ?_
  refine acall_vc (fun _ => true) (fun _ => []) (fun _ => scL xs a n c h) mixed Try.func37 rfl rfl rfl (Nat.le_of_ble_eq_true rfl) ?_ ?_
  · refine vc_mp (by kernel_rfl : (True ∧ True ∧ (True ∧ (True ∧ True) ∧ True) ∧ (True ∧ (∀ (i : Nat × Option Addr × Nat × AHeap), Prod.fst i ≤ n ∧ (∀ (j : Nat) (t : ByteArray), j < Prod.fst i → xs[j]? = some t → ¬(500 : Nat) < ByteArray.size t) ∧ BInv h (Prod.snd (Prod.snd (Prod.snd i))) (Prod.fst (Prod.snd i)) (ByteArray.size (cat (List.take (Prod.fst i) xs))) (Prod.fst (Prod.snd (Prod.snd i))) (cat (List.take (Prod.fst i) xs)) → bs (decide ((↑(Prod.fst i) : Int) < (↑n : Int))) (∃ (l : Nat), ∃ (r : Nat), a = some (Addr.mk l r (some (1 : Nat))) ∧ (0 : Int) ≤ (↑(Prod.fst i) : Int) ∧ (↑(Prod.fst i) : Int) < (↑n : Int) ∧ ∃ (x : ByteArray), AHeap.ld (Prod.snd (Prod.snd (Prod.snd i))) l (r + Int.toNat (↑(Prod.fst i) : Int)) (0 : Nat) (1 : Nat) = some [Value.string x] ∧ bs (decide ((↑(ByteArray.size x) : Int) > (500 : Int))) (Value.string (ByteArray.mk (Array.mk [])) = Value.string (ByteArray.mk (Array.mk [])) ∧ AHeap.Le h (Prod.snd (Prod.snd (Prod.snd i))) ∧ AHeap.wf (Prod.snd (Prod.snd (Prod.snd i))) ∧ ¬Chs xs) (∃ (l : Nat), ∃ (r : Nat), a = some (Addr.mk l r (some (1 : Nat))) ∧ (0 : Int) ≤ (↑(Prod.fst i) : Int) ∧ (↑(Prod.fst i) : Int) < (↑n : Int) ∧ ∃ (x : ByteArray), AHeap.ld (Prod.snd (Prod.snd (Prod.snd i))) l (r + Int.toNat (↑(Prod.fst i) : Int)) (0 : Nat) (1 : Nat) = some [Value.string x] ∧ ∃ (xs_1 : List (List Value)), rowsV (Prod.snd (Prod.snd (Prod.snd i))) (Value.string x) = some xs_1 ∧ (List.all xs_1 fun (row : List Value) => decide (List.length row = (1 : Nat)) && List.all row fun (v : Value) => match v with | Value.agg cells => false | Value.tuple cells => false | Value.complex k re im => false | x => true) = true ∧ (ByteArray.size (cat (List.take (Prod.fst i) xs)) + List.length xs_1) * (1 : Nat) ≤ (140737488355328 : Nat) ∧ ∃ (v : Value), ∃ (h' : AHeap), AHeap.app (Prod.snd (Prod.snd (Prod.snd i))) (Value.slice (Prod.fst (Prod.snd i)) (ByteArray.size (cat (List.take (Prod.fst i) xs))) (Prod.fst (Prod.snd (Prod.snd i)))) xs_1 (1 : Nat) = some (v, h') ∧ ∃ (j : Nat × Option Addr × Nat × AHeap), Value.slice a n c = Value.slice a n c ∧ v = Value.slice (Prod.fst (Prod.snd j)) (ByteArray.size (cat (List.take (Prod.fst j) xs))) (Prod.fst (Prod.snd (Prod.snd j))) ∧ Value.int IntKind.i64 (IntKind.wrap IntKind.i64 ((↑(Prod.fst i) : Int) + (1 : Int))) = Value.int IntKind.i64 (↑(Prod.fst j) : Int) ∧ Prod.snd (Prod.snd (Prod.snd j)) = h' ∧ (Prod.fst j ≤ n ∧ (∀ (j_1 : Nat) (t : ByteArray), j_1 < Prod.fst j → xs[j_1]? = some t → ¬(500 : Nat) < ByteArray.size t) ∧ BInv h (Prod.snd (Prod.snd (Prod.snd j))) (Prod.fst (Prod.snd j)) (ByteArray.size (cat (List.take (Prod.fst j) xs))) (Prod.fst (Prod.snd (Prod.snd j))) (cat (List.take (Prod.fst j) xs))) ∧ n - Prod.fst j < n - Prod.fst i ∧ (∀ (k : Option Addr × Nat × AHeap), (∀ (j : Nat) (t : ByteArray), xs[j]? = some t → ¬(500 : Nat) < ByteArray.size t) ∧ BInv h (Prod.snd (Prod.snd k)) (Prod.fst k) (ByteArray.size (cat xs)) (Prod.fst (Prod.snd k)) (cat xs) → (∀ (j : Nat) (t : ByteArray), xs[j]? = some t → ¬(500 : Nat) < ByteArray.size t) ∧ BInv h (Prod.snd (Prod.snd k)) (Prod.fst k) (ByteArray.size (cat xs)) (Prod.fst (Prod.snd k)) (cat xs)) ∧ ∀ (v : Value) (h_1 : AHeap), v = Value.string (ByteArray.mk (Array.mk [])) ∧ AHeap.Le h h_1 ∧ AHeap.wf h_1 ∧ ¬Chs xs → v = Value.string (ByteArray.mk (Array.mk [])) ∧ AHeap.Le h h_1 ∧ AHeap.wf h_1 ∧ ¬Chs xs)) (∃ (j : Option Addr × Nat × AHeap), Value.slice (Prod.fst (Prod.snd i)) (ByteArray.size (cat (List.take (Prod.fst i) xs))) (Prod.fst (Prod.snd (Prod.snd i))) = Value.slice (Prod.fst j) (ByteArray.size (cat xs)) (Prod.fst (Prod.snd j)) ∧ Prod.snd (Prod.snd j) = Prod.snd (Prod.snd (Prod.snd i)) ∧ (∀ (j : Nat) (t : ByteArray), xs[j]? = some t → ¬(500 : Nat) < ByteArray.size t) ∧ BInv h (Prod.snd (Prod.snd j)) (Prod.fst j) (ByteArray.size (cat xs)) (Prod.fst (Prod.snd j)) (cat xs))) ∧ (True ∧ True ∧ True) ∧ ((True ∧ (True ∧ True) ∧ True) ∧ True) ∧ True) ∧ (True ∧ (True ∧ True) ∧ True) ∧ True ∧ True) = _) ?_
    simp only [true_and, and_true]
    rintro ⟨i, a1, c1, g⟩ ⟨hi, hall, I⟩
    dsimp only at *
    refine bs_d (fun hlt => ?_) (fun hge => ?_)
    · have hio : i < xs.length := by omega
      obtain ⟨t, hat⟩ : ∃ y : ByteArray, xs[i]? = some y := ⟨_, List.getElem?_eq_getElem hio⟩
      obtain ⟨l, r, row, ha, _, hrd, hld⟩ := (hx.mono I.le).elem hat
      obtain rfl : row = [.string t] := hrd
      refine ⟨l, r, ha, Int.natCast_nonneg _, hlt, _, hld, bs_d (fun e => ⟨I.le, I.wf, fun H => H.2.1 i t hat (by omega)⟩) (fun e1 => ?_)⟩
      obtain ⟨a2, c2, g2, happ, I2⟩ := I.app t
      have ct := cat_take hat
      have le2 := cat_take_le (xs := xs) (i + 1)
      have sz2 : (cat (xs.take (i + 1))).size = (cat (xs.take i)).size + t.size := by rw [ct, ByteArray.size_append]
      rw [← ct, ← sz2] at I2
      refine ⟨l, r, ha, Int.natCast_nonneg _, hlt, _, hld, bytesRows t, rfl, rows_ok t, ?_, _, _, happ, (i + 1, a2, c2, g2), by dsimp only; rw [sz2], by rw [wrap_i64 (by omega)]; rfl, rfl, ⟨by dsimp only; omega, fun j t' hj hj2 => ?_, I2⟩, by dsimp only; omega, fun _ h => h, fun _ _ h => h⟩
      · rw [bytesRows_len]; omega
      · rcases Nat.lt_succ_iff_lt_or_eq.1 hj with hj | rfl
        · exact hall j t' hj hj2
        · rw [hat] at hj2; cases hj2; omega
    · have e : xs.take i = xs := List.take_of_length_le (by omega)
      rw [e] at I ⊢
      refine ⟨(a1, c1, g), rfl, rfl, fun j t hj => hall j t ?_ hj, I⟩
      have := (List.getElem?_eq_some_iff.1 hj).1
      omega
  refine vc_mp (by kernel_rfl : (bs (decide ((↑n : Int) > (400 : Int))) (Q (Value.string (ByteArray.mk (Array.mk []))) (AHeap.push h (AObj.mk [] (1 : Nat) true))) (∃ (i : Nat × Option Addr × Nat × AHeap), Value.slice a n c = Value.slice a n c ∧ Value.slice (some (Addr.mk (AHeap.n h) (0 : Nat) (some (1 : Nat)))) (0 : Nat) (1 : Nat) = Value.slice (Prod.fst (Prod.snd i)) (ByteArray.size (cat (List.take (Prod.fst i) xs))) (Prod.fst (Prod.snd (Prod.snd i))) ∧ Value.int IntKind.i64 (0 : Int) = Value.int IntKind.i64 (↑(Prod.fst i) : Int) ∧ Prod.snd (Prod.snd (Prod.snd i)) = AHeap.push h (AObj.mk [] (1 : Nat) true) ∧ (Prod.fst i ≤ n ∧ (∀ (j : Nat) (t : ByteArray), j < Prod.fst i → xs[j]? = some t → ¬(500 : Nat) < ByteArray.size t) ∧ BInv h (Prod.snd (Prod.snd (Prod.snd i))) (Prod.fst (Prod.snd i)) (ByteArray.size (cat (List.take (Prod.fst i) xs))) (Prod.fst (Prod.snd (Prod.snd i))) (cat (List.take (Prod.fst i) xs))) ∧ (∀ (j : Option Addr × Nat × AHeap), (∀ (j : Nat) (t : ByteArray), xs[j]? = some t → ¬(500 : Nat) < ByteArray.size t) ∧ BInv h (Prod.snd (Prod.snd j)) (Prod.fst j) (ByteArray.size (cat xs)) (Prod.fst (Prod.snd j)) (cat xs) → bs (decide ((↑(ByteArray.size (cat xs)) : Int) > (20000 : Int))) (Q (Value.string (ByteArray.mk (Array.mk []))) (Prod.snd (Prod.snd j))) (∃ (s : ByteArray), AHeap.rowsOf (Prod.snd (Prod.snd j)) (Value.slice (Prod.fst j) (ByteArray.size (cat xs)) (Prod.fst (Prod.snd j))) = some (bytesRows s) ∧ Q (Value.string s) (Prod.snd (Prod.snd j)))) ∧ ∀ (v : Value) (h_1 : AHeap), v = Value.string (ByteArray.mk (Array.mk [])) ∧ AHeap.Le h h_1 ∧ AHeap.wf h_1 ∧ ¬Chs xs → Q v h_1)) = _) ?_
  have I0 : BInv h (h.push ⟨[], 1, true⟩) (some ⟨h.n, 0, some 1⟩) (cat (xs.take 0)).size 1 (cat (xs.take 0)) := ⟨.push hw _, hw.push _, hw, rfl, .inr ⟨h.n, rfl, Nat.le_refl _, AHeap.get_push_eq, .inr rfl⟩⟩
  refine bs_d (fun e => HQ _ _ ⟨.push hw _, hw.push _, congrArg _ (joinB_neg fun H => by have := H.1; omega).symm⟩) (fun e1 => ?_)
  refine ⟨(0, _, _, _), rfl, rfl, rfl, rfl, ⟨Nat.zero_le _, fun j _ hj => absurd hj (Nat.not_lt_zero _), I0⟩, fun ⟨a1, c1, g⟩ ⟨hall, I⟩ => ?_, fun v h1 ⟨e1, le, wf, hn⟩ => HQ _ _ ⟨le, wf, e1.trans (congrArg _ (joinB_neg hn).symm)⟩⟩
  refine bs_d (fun e => HQ _ _ ⟨I.le, I.wf, congrArg _ (joinB_neg fun H => by have := H.2.2; omega).symm⟩) (fun e2 => ⟨cat xs, I.rows, HQ _ _ ⟨I.le, I.wf, congrArg _ (joinB_pos ⟨by omega, hall, by omega⟩).symm⟩⟩)

theorem lawChunksJoin (h : AHeap) (hw : h.wf) (a : Option Addr) (n c : Nat) (xs : List Sh.str.T) (hx : Sl h Sh.str xs (.slice a n c)) (ok : (Sh.sl Sh.str).ok xs) :
    ∃ v h', ACall Try.prog 8 [.slice a n c] h v h' ∧ v = .bool true := by
  refine acall_vc (fun _ => false) (fun _ => []) (fun _ => .none) mixed Try.func8 rfl rfl rfl (Nat.le_of_ble_eq_true rfl) (by refine vc_mp (by kernel_rfl : (True ∧ True ∧ True ∧ (True ∧ (True ∧ True) ∧ True) ∧ True ∧ True ∧ True ∧ (True ∧ (True ∧ True) ∧ True) ∧ (True ∧ (True ∧ True) ∧ True) ∧ True ∧ True) = _) ?_; simp only [and_self]) ?_
  have en := hx.len
  refine Eq.mp (by kernel_rfl : (Vc (∃ (x : Int), ∃ (h' : AHeap), ACall Try.prog (36 : Nat) [Value.slice a n c, Value.int IntKind.i64 (1048576 : Int)] h (Value.int IntKind.i64 x) h' ∧ bs (decide (x < (0 : Int))) (Value.bool true = Value.bool true) (∃ (a_1 : Option Addr), ∃ (n_1 : Nat), ∃ (c_1 : Nat), ∃ (h'_1 : AHeap), ACall Try.prog (38 : Nat) [Value.slice a n c] h' (Value.slice a_1 n_1 c_1) h'_1 ∧ ∃ (x : ByteArray), ∃ (h' : AHeap), ACall Try.prog (37 : Nat) [Value.slice a_1 n_1 c_1] h'_1 (Value.string x) h' ∧ ∃ (a_2 : Option Addr), ∃ (n_2 : Nat), ∃ (c_2 : Nat), ∃ (h'_2 : AHeap), ACall Try.prog (38 : Nat) [Value.slice a n c] h' (Value.slice a_2 n_2 c_2) h'_2 ∧ ∃ (x_1 : ByteArray), ∃ (h' : AHeap), ACall Try.prog (39 : Nat) [Value.slice a_2 n_2 c_2] h'_2 (Value.string x_1) h' ∧ bs (!decide (x_1 = x)) (Value.bool false = Value.bool true) (∃ (a_3 : Option Addr), ∃ (n_3 : Nat), ∃ (c_3 : Nat), ∃ (h'_3 : AHeap), ACall Try.prog (38 : Nat) [Value.slice a n c] h' (Value.slice a_3 n_3 c_3) h'_3 ∧ ∃ (x : Bool), ∃ (h' : AHeap), ACall Try.prog (17 : Nat) [Value.slice a_2 n_2 c_2, Value.slice a_3 n_3 c_3] h'_3 (Value.bool x) h' ∧ bs (!x) (Value.bool false = Value.bool true) (Value.bool true = Value.bool true))))) = _) ?_
  refine ⟨_, _, szStringS_spec h a n c xs 1048576 hx (by omega) ok, bs_d (fun _ => rfl) (fun hge => ?_)⟩
  have sm := (Sh.sl Sh.str).sz_small xs 1048576 (by omega) (by omega) (by omega)
  have hn2 : n ≤ 1048576 := by rw [← en]; exact sm.1
  have hs : (cat xs).size ≤ 140737488355328 := by
    have key : (Sh.sl Sh.str).sz xs 1048576 = (if (1048576 : Int) - (xs.length : Int) < 0 then -1 else szL Sh.str.sz xs (1048576 - (xs.length : Int))) := rfl
    rw [key] at hge
    split at hge
    · omega
    · have := cat_sz xs _ (by omega) (by omega : 0 ≤ szL Sh.str.sz xs (1048576 - (xs.length : Int)))
      omega
  obtain ⟨v1, h1, c1, le1, w1, i1, rfl, so1, f1⟩ := toStringS_spec h a n c xs hw hx sm
  obtain ⟨vs, h2, c2, le2, w2, rfl⟩ := specChunksJoin h1 w1 _ n (n + 1) xs so1.sl hn2 hs
  obtain ⟨v3, h3, c3, le3, w3, i3, rfl, so3, f3⟩ := toStringS_spec h2 a n c xs w2 (hx.mono (le1.trans le2)) sm
  have ci := implChunksJoin h3 _ n (n + 1) xs so3.sl hn2 hs
  obtain ⟨v4, h4, c4, le4, w4, i4, rfl, so4, f4⟩ := toStringS_spec h3 a n c xs w3 (hx.mono (le1.trans (le2.trans le3))) sm
  refine ⟨_, _, _, _, c1, _, _, c2, _, _, _, _, c3, _, _, ci, bs_dn (fun hne => absurd rfl hne) fun _ => ?_⟩
  refine ⟨_, _, _, _, c4, _, _, eqStringS_spec _ _ n (n + 1) _ n (n + 1) xs xs (so3.sl.mono le4) so4.sl ok.1, ?_⟩
  exact bs_nb (fun e => by rw [eqb_self] at e; cases e) (fun _ => rfl)
end Go.Proofs.Ytgcckeglmhbnmaa
