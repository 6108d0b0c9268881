/- A32, V0, V3, U1, U2, W0. -/
import Derived.Test.YtpgfjadjhliohaaGreatV19A28
import Derived.Test.YtpgfjadjhliohaaGreatV19R3
import Derived.Test.YtpgfjadjhliohaaGreatV19T2
section
namespace Go.Abs
end Go.Abs
end
section
namespace Go.Dat
open Go.Abs
theorem mid {i j : Nat} (h : i ≤ j) (hj : j ≤ 4611686018427387903) : IntKind.i64.wrap (Int.fdiv (IntKind.u64.wrap (IntKind.i64.wrap ((i : Int) + j))) (2 ^ min (Int.toNat 1) IntKind.u64.bits)) = (((i + j) / 2 : Nat) : Int) := by
  have e1 : IntKind.i64.wrap ((i : Int) + j) = ((i + j : Nat) : Int) := by rw [wrap_i64 (by omega)]; omega
  have e2 : IntKind.u64.wrap ((i + j : Nat) : Int) = ((i + j : Nat) : Int) := by
    have e : IntKind.u64.wrap ((i + j : Nat) : Int) = if (false && decide (((i + j : Nat) : Int) % 18446744073709551616 ≥ 9223372036854775808)) = true then ((i + j : Nat) : Int) % 18446744073709551616 - 18446744073709551616 else ((i + j : Nat) : Int) % 18446744073709551616 := rfl
    rw [e]; simp only [Bool.false_and, Bool.false_eq_true, if_false]; omega
  have e3 : (2 : Int) ^ min (Int.toNat 1) IntKind.u64.bits = 2 := by decide
  rw [e1, e2, e3, Int.fdiv_eq_ediv_of_nonneg _ (by decide), wrap_i64 (by omega)]
  omega
def Sh.flat : Sh → Bool
  | .pair a b => a.flat && b.flat
  | .sl _ => false
  | _ => true
theorem Sh.flat_rn {h g : AHeap} : ∀ {s : Sh}, s.flat = true → ∀ {x : s.T} {cs : List Value}, s.rd h x cs → s.rn g x cs [] := by
  intro s
  induction s with
  | int => intro _ x cs e; exact ⟨e, rfl⟩
  | bool => intro _ x cs e; exact ⟨e, rfl⟩
  | str => intro _ x cs e; exact ⟨e, rfl⟩
  | byte => intro _ x cs e; exact ⟨e, rfl⟩
  | pair a b iha ihb =>
    rintro hf x cs ⟨c1, c2, rfl, h1, h2⟩
    have hf' : a.flat = true ∧ b.flat = true := by simpa [Sh.flat] using hf
    exact ⟨c1, c2, [], [], rfl, rfl, iha hf'.1 h1, ihb hf'.2 h2⟩
  | sl e ih => intro hf; cases hf
theorem Sh.rd_leaf {h : AHeap} : ∀ {s : Sh} {x : s.T} {cs : List Value}, s.rd h x cs → ∀ v ∈ cs, oneLeaf v = true := by
  intro s
  induction s with
  | int => rintro x cs rfl v hv; rw [List.mem_singleton.1 hv]; rfl
  | bool => rintro x cs rfl v hv; rw [List.mem_singleton.1 hv]; rfl
  | str => rintro x cs rfl v hv; rw [List.mem_singleton.1 hv]; rfl
  | byte => rintro x cs rfl v hv; rw [List.mem_singleton.1 hv]; rfl
  | pair a b iha ihb =>
    rintro x cs ⟨c1, c2, rfl, h1, h2⟩ v hv
    rcases List.mem_append.1 hv with hv | hv
    · exact iha h1 v hv
    · exact ihb h2 v hv
  | sl e ih =>
    rintro x cs ⟨a, n, c, rows, rfl, _⟩ v hv
    rw [List.mem_singleton.1 hv]; rfl
theorem Sl.rows {h : AHeap} {s : Sh} {xs : List s.T} {a : Option Addr} {n c : Nat} (x : Sl h s xs (.slice a n c)) :
    ∃ rows, h.rowsOf (.slice a n c) = some rows ∧ rows.length = n ∧ (rows.all fun row => decide (row.length = s.cells) && row.all fun v => match v with | .agg _ => false | .tuple _ => false | .complex _ _ _ => false | .chan _ => false | _ => true) = true ∧
      ∀ (i : Nat) (y : s.T) (row : List Value), xs[i]? = some y → rows[i]? = some row → s.rd h y row := by
  obtain ⟨a', n', c', rows, e, h1, h2, h3, h4⟩ := x
  cases e
  have hl := rowsOf_len h1 h2
  refine ⟨rows, h2, hl, List.all_eq_true.2 fun row hr => ?_, h4⟩
  obtain ⟨i, hi⟩ := List.mem_iff_getElem?.1 hr
  have hlt := (List.getElem?_eq_some_iff.1 hi).1
  have rd := h4 i _ row (List.getElem?_eq_getElem (by omega)) hi
  rw [Bool.and_eq_true]
  exact ⟨decide_eq_true (Sh.rd_len rd), List.all_eq_true.2 fun v hv => Sh.rd_leaf rd v hv⟩
theorem flat_nil : ∀ n : Nat, (List.replicate n ([] : List Nat)).flatten = []
  | 0 => rfl
  | n + 1 => by rw [List.replicate_succ, List.flatten_cons, flat_nil n]; rfl
theorem SoB.flat {s : Sh} (hf : s.flat = true) {h0 h g : AHeap} {xs : List s.T} {n l c : Nat} {rows : List (List Value)} (le : h0.Le h) (wf : h.wf) (wf0 : h0.wf) (hn : h0.n ≤ l) (hx : xs.length = n) (hg : h.get l = some ⟨rows, s.cells, true⟩) (hr : rows.length = n) (hc : c = 0 ∨ c = n + 1)
    (hrd : ∀ (i : Nat) (y : s.T) (row : List Value), xs[i]? = some y → rows[i]? = some row → s.rd g y row) : SoB s h0 h (some ⟨l, 0, some s.cells⟩) n c xs [l] := by
  refine ⟨le, wf, wf0, hx, ⟨by simp, fun z hz => ?_⟩, .inr ⟨l, rows, List.replicate n [], rfl, hg, hr, by simp, by rw [flat_nil], hc, fun i x row js h1 h2 h3 => ?_⟩⟩
  · rw [List.mem_singleton.1 hz]; exact ⟨hn, wf.lt hg⟩
  · rw [List.eq_of_mem_replicate (List.mem_of_getElem? h3)]
    exact Sh.flat_rn hf (hrd i x row h1 h2)
theorem app_clone {s : Sh} (hf : s.flat = true) {h : AHeap} (hw : h.wf) {a : Option Addr} {n c : Nat} {xs : List s.T} (x : Sl h s xs (.slice a n c)) :
    ∃ rows, rowsV (h.push ⟨[], s.cells, true⟩) (.slice a n c) = some rows ∧ (rows.all fun row => decide (row.length = s.cells) && row.all fun v => match v with | .agg _ => false | .tuple _ => false | .complex _ _ _ => false | .chan _ => false | _ => true) = true ∧ rows.length = n ∧
      ∃ l c' h', (h.push ⟨[], s.cells, true⟩).app (.slice (some ⟨h.n, 0, some s.cells⟩) 0 1) rows s.cells = some (.slice (some ⟨l, 0, some s.cells⟩) n c', h') ∧ SoB s h h' (some ⟨l, 0, some s.cells⟩) n c' xs [l] := by
  have lp := AHeap.Le.push hw ⟨[], s.cells, true⟩
  have wp := hw.push ⟨[], s.cells, true⟩
  obtain ⟨rows, h2, hl, hall, hrd⟩ := x.rows
  have hx := x.len
  refine ⟨rows, lp.rowsOf h2, hall, hl, ?_⟩
  cases rows with
  | nil =>
    subst hl
    exact ⟨h.n, 1, _, rfl, SoB.flat hf lp wp hw (Nat.le_refl _) hx AHeap.get_push_eq rfl (.inr rfl) hrd⟩
  | cons r rs =>
    refine ⟨(h.push ⟨[], s.cells, true⟩).n, 0, _, ?_, SoB.flat hf (lp.trans (.push wp ⟨r :: rs, s.cells, true⟩)) (wp.push _) hw lp.n hx AHeap.get_push_eq hl (.inl rfl) hrd⟩
    have e0 : (h.push ⟨[], s.cells, true⟩).rowsOf (.slice (some ⟨h.n, 0, some s.cells⟩) 0 1) = some [] := by rw [get_rowsOf AHeap.get_push_eq (by simp)]; rfl
    have e1 : decide (1 ≤ 0 + (r :: rs).length) = true := decide_eq_true (by simp)
    unfold AHeap.app
    dsimp only
    rw [e0]
    dsimp only
    rw [beq_self_eq_true, cond_true, e1]
    simp only [List.nil_append, Nat.zero_add, hl]
    rfl
end Go.Dat
end
section
namespace Go.Dat
open Go.Abs
abbrev chkR (z : Nat) (rows : List (List Value)) : Prop := (rows.all fun row => decide (row.length = z) && row.all fun v => match v with | .agg _ => false | .tuple _ => false | .complex _ _ _ => false | .chan _ => false | _ => true) = true
theorem chkR.drop {z i : Nat} {rows : List (List Value)} (h : chkR z rows) : chkR z (rows.drop i) := List.all_eq_true.2 fun x hx => List.all_eq_true.1 h x (List.mem_of_mem_drop hx)
theorem chkR.take {z i : Nat} {rows : List (List Value)} (h : chkR z rows) : chkR z (rows.take i) := List.all_eq_true.2 fun x hx => List.all_eq_true.1 h x (List.mem_of_mem_take hx)
theorem ah_ext {a b : AHeap} (h1 : a.n = b.n) (h2 : ∀ x, a.get x = b.get x) : a = b := by
  obtain ⟨n, f⟩ := a
  obtain ⟨m, g⟩ := b
  obtain rfl : n = m := h1
  obtain rfl : f = g := funext h2
  rfl
theorem get_rows {h : AHeap} {l r z n c : Nat} {rows : List (List Value)} (hg : h.get l = some ⟨rows, z, true⟩) (hr : r + n ≤ rows.length) : h.rowsOf (.slice (some ⟨l, r, some z⟩) n c) = some ((rows.drop r).take n) := get_rowsOf hg hr
theorem cpy_set {h : AHeap} {l r z : Nat} {rows xs : List (List Value)} (hg : h.get l = some ⟨rows, z, true⟩) (hne : xs ≠ []) (hr : r + xs.length ≤ rows.length) : h.cpy (some ⟨l, r, some z⟩) z xs = some (h.put l (some ⟨setRows rows r xs, z, true⟩)) := by
  cases xs with
  | nil => exact absurd rfl hne
  | cons x xs =>
    unfold AHeap.cpy AHeap.wrs
    dsimp only
    rw [hg]
    simp only [beq_self_eq_true, cond_true, Bool.true_and]
    rw [decide_eq_true hr]
    rfl
end Go.Dat
namespace Go.Abs
theorem acall_to {P : Program} {f : FuncId} {args : List Value} {h g : AHeap} {v : Value} (hx : ∃ v' h', ACall P f args h v' h' ∧ v' = v ∧ h' = g) : ACall P f args h v g := by
  obtain ⟨_, _, hA, rfl, rfl⟩ := hx; exact hA
end Go.Abs
end
section
namespace Go.Dat
open Go.Abs
def IdxRes (P : Nat → Prop) (n : Nat) (r : Int) : Prop := (r = -1 ∧ ∀ i, i < n → ¬ P i) ∨ ∃ i : Nat, i < n ∧ r = i ∧ P i ∧ ∀ j, j < i → ¬ P j
def SameV (x y : voteSh.T) : Prop := (show Int from x.1) = y.1 ∧ (show Int from x.2.1) = y.2.1 ∧ (show Int from x.2.2.1) = y.2.2.1 ∧ (show Int from x.2.2.2.2) = y.2.2.2.2
def VoteAt (xs : List voteSh.T) (y : voteSh.T) (i : Nat) : Prop := ∃ x : voteSh.T, xs[i]? = some x ∧ SameV x y
theorem VoteAt.iff {xs : List voteSh.T} {y x : voteSh.T} {i : Nat} (h : xs[i]? = some x) : VoteAt xs y i ↔ SameV x y := ⟨fun ⟨x', e, H⟩ => by rw [h] at e; cases e; exact H, fun H => ⟨x, h, H⟩⟩
def VotOk (k v q : Int) (op : ByteArray) (f : Int) : Prop := (k = 2 ∨ k = 3) ∧ InR 0 7 v ∧ InR 1 6 q ∧ op.size ≤ 120 ∧ InR 0 3 f
end Go.Dat
namespace Go.Proofs.YtpgfjadjhliohaaGreat
open Go.Abs Go.Dat
set_option maxRecDepth 100000
set_option maxHeartbeats 8000000
abbrev Q7i := Sh.T Sh.int
abbrev Q7j := Sh.T Sh.str
abbrev Q7k := List (Sh.T voteSh)
def Q6e := True ∧ True ∧ True
def Q6f (a b : Bool) := Value.bool a = Value.bool b
def Q6g (a : Prop) := Q6f false (tr a)
def Q6h (a b c : Q7i) (d : Q7j) (e : Q7i) := Prod.mk a (Prod.mk b (Prod.mk c (Prod.mk d e)))
def Q6i (a : Bool) (b : Prop) (c d e : Q7i) (f : Q7j) (g h i j : Q7i) (k : Q7j) (l : Q7i) (m : AHeap) := bs a b (Q6g (SameV (Q6h c d e f g) (Q6h h i j k l)) ∧ m = m)
def Q6j (a : Int) := Value.int IntKind.i64 a
theorem voteIndex1_spec (h : AHeap) (lo : Nat) (k v q f : Int) (op : ByteArray) (k' v' q' f' : Int) (op' : ByteArray) (hd : h.ld lo 0 0 5 = some [.int .i64 k, .int .i64 v, .int .i64 q, .string op, .int .i64 f]) :
    ACall Tryz.prog 154 [.agg #[.int .i64 k', .int .i64 v', .int .i64 q', .string op', .int .i64 f'], .pointer (some ⟨lo, 0, some 0⟩)] h (.bool (tr (SameV (k', v', q', op', f') (k, v, q, op, f)))) h := by
  refine acall_out (acall_vc (fun _ => false) (fun _ => []) (fun _ => .none) mixed Tryz.func154 rfl rfl rfl (Nat.le_of_ble_eq_true rfl) (by (refine vc_mp (by kernel_rfl : (Q6e) = _) ?_; delta Q6e); simp only [and_self]) ?_)
  (refine vc_mp (by kernel_rfl : (∃ (x : Int), AHeap.ld h lo 0 0 1 = some [Q6j x] ∧ Q6i (decide (k' = x)) (∃ (x : Int), AHeap.ld h lo 0 1 1 = some [Q6j x] ∧ Q6i (decide (v' = x)) (∃ (x : Int), AHeap.ld h lo 0 2 1 = some [Q6j x] ∧ Q6i (decide (q' = x)) (∃ (x : Int), AHeap.ld h lo 0 4 1 = some [Q6j x] ∧ Q6f (decide (f' = x)) (tr (SameV (Q6h k' v' q' op' f') (Q6h k v q op f))) ∧ h = h) k' v' q' op' f' k v q op f h) k' v' q' op' f' k v q op f h) k' v' q' op' f' k v q op f h) = _) ?_; delta Q6f Q6g Q6h Q6i Q6j)
  refine ⟨_, ld_cells (k := 0) (m := 1) hd (by simp), bs_d (fun e1 => ?_) (fun e => ⟨congrArg _ (tr_false fun H => e H.1), rfl⟩)⟩
  refine ⟨_, ld_cells (k := 1) (m := 1) hd (by simp), bs_d (fun e2 => ?_) (fun e => ⟨congrArg _ (tr_false fun H => e H.2.1), rfl⟩)⟩
  refine ⟨_, ld_cells (k := 2) (m := 1) hd (by simp), bs_d (fun e3 => ?_) (fun e => ⟨congrArg _ (tr_false fun H => e H.2.2.1), rfl⟩)⟩
  refine ⟨_, ld_cells (k := 4) (m := 1) hd (by simp), congrArg _ ?_, rfl⟩
  rw [tr_dec]
  exact tr_congr ⟨fun H => ⟨e1, e2, e3, H⟩, fun H => H.2.2.2⟩
def cloV (lo : Nat) : Value := .func (.func 154) #[] #[.pointer (some ⟨lo, 0, some 0⟩)]
def ixvL (a : Option Addr) (n c lo : Nat) (h : AHeap) (xs : List voteSh.T) (y : voteSh.T) : LSpec where
  ι := Nat
  κ := Unit
  I := fun i => i ≤ n ∧ ∀ j, j < i → ¬ VoteAt xs y j
  μ := fun i => n - i
  head := fun i => ⟨[(0, .slice a n c), (1, cloV lo), (7, .int .i64 n), (8, .int .i64 i)], [], h⟩
  post := fun _ => ⟨[], [], h⟩
  R := fun _ _ => ∀ j, j < n → ¬ VoteAt xs y j
  ret := fun _ v h' => h' = h ∧ ∃ r : Int, v = .int .i64 r ∧ IdxRes (VoteAt xs y) n r
def Q6k := True ∧ True
def Q6l (a b c d e : Prop) := a ∧ b ∧ c ∧ d ∧ e
def Q6m (a : Nat) (b : Q7k) (c d e : Q7i) (f : Q7j) (g : Q7i) := a < List.length b → Not (VoteAt b (Q6h c d e f g) a)
def Q6n (a : Q7k) := (↑(List.length a) : Int)
def Q6o (a : Option Addr) (b c d : Nat) (e : Q7k) (f : Prop) := a = some (Addr.mk b c (some 5)) ∧ 0 ≤ (↑d : Int) ∧ (↑d : Int) < Q6n e ∧ f
def Q6p (a b c : Int) (d : ByteArray) (e : Int) := [Q6j a, Q6j b, Q6j c, Value.string d, Q6j e]
def Q6q (a : AHeap) (b c d : Nat) (e f g : Int) (h : ByteArray) (i : Int) (j : Prop) := AHeap.ld a b (c + Int.toNat (↑d : Int)) 0 5 = some (Q6p e f g h i) ∧ j
def Q6r (a : Q7k) (b c d : Q7i) (e : Q7j) (f : Q7i) (g : Int) := IdxRes (VoteAt a (Q6h b c d e f)) (List.length a) g
def Q6s (a : Q7k) (b : Nat) := List.length a - b
def Q6t (a : Nat) (b : Q7k) (c : Prop) := a ≤ List.length b ∧ c
def Q6u (a b : Nat) (c : Q7k) (d e f : Q7i) (g : Q7j) (h : Q7i) := a < b → Not (VoteAt c (Q6h d e f g h) a)
def Q6v (a : Value) (b : Nat) := a = Q6j (↑b : Int)
def Q6w (a : Int) := Q6j (IntKind.wrap IntKind.i64 a)
def Q6x (a : FuncId) (b : List Value) := Value.func (Fn.func a) (Array.mk List.nil) (Array.mk b)
def Q6y (a : List Value) := Q6x 154 a
def Q6z (a : Nat) := Value.pointer (some (Addr.mk a 0 (some 0)))
def Q70 (a : Option Addr) (b : Q7k) (c : Nat) := Value.slice a (List.length b) c = Value.slice a (List.length b) c
def Q71 (a : FuncId) (b : List Value) (c : AHeap) (d : Bool) (e : AHeap) := ACall Tryz.prog a b c (Value.bool d) e
def Q72 (a b c : Int) (d : ByteArray) (e : Int) := Value.agg (Array.mk (Q6p a b c d e))
def Q73 := Q6j 0
theorem indexVote_spec (h : AHeap) (a : Option Addr) (c lo : Nat) (xs : List voteSh.T) (k v q f : Int) (op : ByteArray) (hx : Sl h voteSh xs (.slice a xs.length c)) (hn : xs.length ≤ 9223372036854775807) (hd : h.ld lo 0 0 5 = some [.int .i64 k, .int .i64 v, .int .i64 q, .string op, .int .i64 f]) :
    ∃ r h', ACall Tryz.prog 150 [.slice a xs.length c, cloV lo] h r h' ∧ h' = h ∧ ∃ i : Int, r = .int .i64 i ∧ IdxRes (VoteAt xs (k, v, q, op, f)) xs.length i := by
  refine acall_q fun Q HQ => ?_
  refine acall_vc (fun _ => false) (fun _ => []) (fun _ => ixvL a xs.length c lo h xs (k, v, q, op, f)) mixed Tryz.func150 rfl rfl rfl (Nat.le_of_ble_eq_true rfl) ?_ ?_
  · (refine vc_mp (by kernel_rfl : (True ∧ Q6l True (∀ (i : Nat), Q6t i xs (∀ (j : Nat), Q6u j i xs k v q op f) → bs (decide ((↑i : Int) < Q6n xs)) (∃ (l r : Nat), Q6o a l r i xs (∃ (x x_1 x_2 : Int) (x_3 : ByteArray) (x_4 : Int), Q6q h l r i x x_1 x_2 x_3 x_4 (∃ (x_5 : Bool) (h' : AHeap), Q71 154 [Q72 x x_1 x_2 x_3 x_4, Q6z lo] h x_5 h' ∧ bs x_5 (h' = h ∧ (∃ (r : Int), Q6j (↑i : Int) = Q6j r ∧ Q6r xs k v q op f r)) (∃ (j : Nat), Q6l (Q70 a xs c) (Q6y [Q6z lo] = Q6y [Q6z lo]) (Q6j (Q6n xs) = Q6j (Q6n xs)) (Q6v (Q6w ((↑i : Int) + 1)) j) (Q6l (h = h') (Q6t j xs (∀ (j_1 : Nat), Q6u j_1 j xs k v q op f)) (Q6s xs j < Q6s xs i) (∀ (k_1 : Unit), (∀ (j : Nat), Q6m j xs k v q op f) → (∀ (j : Nat), Q6m j xs k v q op f)) (∀ (v_1 : Value) (h_1 : AHeap), h_1 = h ∧ (∃ (r : Int), v_1 = Q6j r ∧ Q6r xs k v q op f r) → h_1 = h ∧ (∃ (r : Int), v_1 = Q6j r ∧ Q6r xs k v q op f r))))))) (∃ (j : Unit), h = h ∧ (∀ (j : Nat), Q6m j xs k v q op f))) True Q6k ((True ∧ True ∧ Q6k ∧ True) ∧ True) ∧ Q6k) = _) ?_; delta Q6h Q6j Q6k Q6l Q6m Q6n Q6o Q6p Q6q Q6r Q6s Q6t Q6u Q6v Q6w Q6x Q6y Q6z Q70 Q71 Q72)
    simp only [true_and, and_true]
    rintro (i : Nat) ⟨hi, hall⟩
    refine bs_d (fun hlt => ?_) (fun hge => ⟨(), fun j hj => hall j (by omega)⟩)
    have hio : i < xs.length := by omega
    obtain ⟨⟨k', v', q', op', f'⟩, hat⟩ : ∃ y : Int × Int × Int × ByteArray × Int, xs[i]? = some y := ⟨_, List.getElem?_eq_getElem hio⟩
    obtain ⟨l, r, row, ha, _, hrd, hld⟩ := hx.elem hat
    obtain rfl := rd_vote.1 hrd
    dsimp only at hld
    refine ⟨l, r, ha, Int.natCast_nonneg _, hlt, _, _, _, _, _, hld, _, _, voteIndex1_spec h lo k v q f op k' v' q' f' op' hd, bs_b (fun e => ?_) (fun e => ?_)⟩
    · exact ⟨rfl, _, rfl, .inr ⟨i, hio, rfl, (VoteAt.iff hat).2 (of_tr e), hall⟩⟩
    · exact ⟨i + 1, by rw [wrap_i64 (by omega)]; rfl, rfl, ⟨by omega, upto_step hall (fun H => of_trn e ((VoteAt.iff hat).1 H))⟩, by omega, fun _ h => h, fun _ _ h => h⟩
  (refine vc_mp (by kernel_rfl : (∃ (i : Nat), Q6l (Q70 a xs c) (Q6y [Q6z lo] = Q6y [Q6z lo]) (Q6j (Q6n xs) = Q6j (Q6n xs)) (Q6v Q73 i) (h = h ∧ Q6t i xs (∀ (j : Nat), Q6u j i xs k v q op f) ∧ (∀ (j : Unit), (∀ (j : Nat), Q6m j xs k v q op f) → Q (Q6j (-1)) h) ∧ (∀ (v_1 : Value) (h_1 : AHeap), h_1 = h ∧ (∃ (r : Int), v_1 = Q6j r ∧ Q6r xs k v q op f r) → Q v_1 h_1))) = _) ?_; delta Q6h Q6j Q6l Q6m Q6n Q6r Q6t Q6u Q6v Q6x Q6y Q6z Q70 Q73)
  exact ⟨(0 : Nat), rfl, rfl, rfl, rfl, rfl, ⟨Nat.zero_le _, fun j hj => absurd hj (Nat.not_lt_zero _)⟩, fun _ hall => HQ _ _ ⟨rfl, _, rfl, .inl ⟨rfl, hall⟩⟩, fun _ _ H => HQ _ _ H⟩
theorem voteIndex_spec (h : AHeap) (hw : h.wf) (a : Option Addr) (c : Nat) (xs : List voteSh.T) (k v q f : Int) (op : ByteArray) (hx : Sl h voteSh xs (.slice a xs.length c)) (hn : xs.length ≤ 9223372036854775807) :
    ∃ r h', ACall Tryz.prog 125 [.slice a xs.length c, .agg #[.int .i64 k, .int .i64 v, .int .i64 q, .string op, .int .i64 f]] h r h' ∧ h.Le h' ∧ h'.wf ∧ ∃ i : Int, r = .int .i64 i ∧ IdxRes (VoteAt xs (k, v, q, op, f)) xs.length i := by
  refine acall_q fun Q HQ => ?_
  refine acall_vc (fun t => t == 3) (fun _ => []) (fun _ => .none) mixed Tryz.func125 rfl rfl rfl (Nat.le_of_ble_eq_true rfl) (by (refine vc_mp (by kernel_rfl : (Q6e) = _) ?_; delta Q6e); simp only [and_self]) ?_
  (refine vc_mp (by kernel_rfl : (∃ (x : Int) (h' : AHeap), ACall Tryz.prog 150 [Value.slice a (List.length xs) c, Q6x 154 [Q6z (AHeap.n h)]] (AHeap.push h (AObj.mk [Q6p k v q op f] 5 true)) (Q6j x) h' ∧ Q (Q6j x) h') = _) ?_; delta Q6j Q6p Q6x Q6z)
  have wp := hw.push ⟨[[.int .i64 k, .int .i64 v, .int .i64 q, .string op, .int .i64 f]], 5, true⟩
  have lp := AHeap.Le.push hw ⟨[[.int .i64 k, .int .i64 v, .int .i64 q, .string op, .int .i64 f]], 5, true⟩
  obtain ⟨_, _, A, rfl, i, rfl, hi⟩ := indexVote_spec _ a c h.n xs k v q f op (hx.mono lp) hn (by rw [AHeap.ld, AHeap.get_push_eq]; rfl)
  exact ⟨_, _, A, HQ _ _ ⟨lp, wp, i, rfl, hi⟩⟩
def Q74 (a : FuncId) (b : List Value) (c : AHeap) (d : Bool) (e : AHeap) (f : Prop) (g h i : Int) (j : ByteArray) (k : Int) (l : AHeap) := Q71 a b c d e ∧ bs d f (Q6g (VotOk g h i j k) ∧ e = l)
def Q75 (a : FuncId) (b : Int) (c : AHeap) (d : Bool) (e : AHeap) (f g h : Int) (i : ByteArray) (j : Prop) := Q71 a [Q6j b] c d e ∧ Q6f d (tr (VotOk f g h i b)) ∧ j
theorem isVote_spec (h : AHeap) (k v q f : Int) (op : ByteArray) : ACall Tryz.prog 133 [.agg #[.int .i64 k, .int .i64 v, .int .i64 q, .string op, .int .i64 f]] h (.bool (tr (VotOk k v q op f))) h := by
  refine acall_out (acall_vc (fun _ => false) (fun _ => []) (fun _ => .none) mixed Tryz.func133 rfl rfl rfl (Nat.le_of_ble_eq_true rfl) (by (refine vc_mp (by kernel_rfl : (Q6e) = _) ?_; delta Q6e); simp only [and_self]) ?_)
  (refine vc_mp (by kernel_rfl : (bs (decide (k = 2)) (∃ (x : Bool) (h' : AHeap), Q74 87 [Q6j v, Q73] h x h' (∃ (x : Bool) (h'_1 : AHeap), Q74 123 [Q6j q] h' x h'_1 (∃ (x : Bool) (h' : AHeap), Q74 56 [Value.string op] h'_1 x h' (∃ (x : Bool) (h'_2 : AHeap), Q75 86 f h' x h'_2 k v q op (h'_2 = h)) k v q op f h) k v q op f h) k v q op f h) (bs (decide (k = 3)) (∃ (x : Bool) (h' : AHeap), Q74 87 [Q6j v, Q73] h x h' (∃ (x : Bool) (h'_1 : AHeap), Q74 123 [Q6j q] h' x h'_1 (∃ (x : Bool) (h' : AHeap), Q74 56 [Value.string op] h'_1 x h' (∃ (x : Bool) (h'_2 : AHeap), Q75 86 f h' x h'_2 k v q op (h'_2 = h)) k v q op f h) k v q op f h) k v q op f h) (Q6g (VotOk k v q op f) ∧ h = h))) = _) ?_; delta Q6f Q6g Q6j Q71 Q73 Q74 Q75)
  refine bs_d (fun hk => ?_) (fun hk1 => bs_d (fun hk => ?_) (fun hk2 => ⟨congrArg _ (tr_false fun H => by have := H.1; omega), rfl⟩))
  iterate 2
    have hk' : k = 2 ∨ k = 3 := by omega
    refine ⟨_, _, isView_spec _ _ _, bs_b (fun e1 => ?_) (fun e => ⟨congrArg _ (tr_false fun H => of_trn e H.2.1), rfl⟩)⟩
    refine ⟨_, _, isSeq_spec _ _, bs_b (fun e2 => ?_) (fun e => ⟨congrArg _ (tr_false fun H => of_trn e H.2.2.1), rfl⟩)⟩
    refine ⟨_, _, isOp_spec _ _, bs_b (fun e3 => ?_) (fun e => ⟨congrArg _ (tr_false fun H => of_trn e H.2.2.2.1), rfl⟩)⟩
    refine ⟨_, _, isReplica_spec _ _, congrArg _ ?_, rfl⟩
    rw [inr_tr]
    exact tr_congr ⟨fun H => ⟨hk', of_tr e1, of_tr e2, of_tr e3, H⟩, fun H => H.2.2.2.2⟩
theorem l11Vote_spec (h : AHeap) (k v q f : Int) (op : ByteArray) : ACall Tryz.prog 131 [.agg #[.int .i64 k, .int .i64 v, .int .i64 q, .string op, .int .i64 f]] h (.bool (tr (VotOk k v q op f))) h := by
  refine acall_out (acall_vc (fun _ => false) (fun _ => []) (fun _ => .none) mixed Tryz.func131 rfl rfl rfl (Nat.le_of_ble_eq_true rfl) (by (refine vc_mp (by kernel_rfl : (Q6e) = _) ?_; delta Q6e); simp only [and_self]) ?_)
  (refine vc_mp (by kernel_rfl : (bs (decide (k = 2)) (∃ (x : Bool) (h' : AHeap), Q74 77 [Q6j v] h x h' (∃ (x : Bool) (h'_1 : AHeap), Q74 117 [Q6j q] h' x h'_1 (∃ (x : Bool) (h' : AHeap), Q74 50 [Value.string op] h'_1 x h' (∃ (x : Bool) (h'_2 : AHeap), Q75 76 f h' x h'_2 k v q op (h'_2 = h)) k v q op f h) k v q op f h) k v q op f h) (bs (decide (k = 3)) (∃ (x : Bool) (h' : AHeap), Q74 77 [Q6j v] h x h' (∃ (x : Bool) (h'_1 : AHeap), Q74 117 [Q6j q] h' x h'_1 (∃ (x : Bool) (h' : AHeap), Q74 50 [Value.string op] h'_1 x h' (∃ (x : Bool) (h'_2 : AHeap), Q75 76 f h' x h'_2 k v q op (h'_2 = h)) k v q op f h) k v q op f h) k v q op f h) (Q6g (VotOk k v q op f) ∧ h = h))) = _) ?_; delta Q6f Q6g Q6j Q71 Q74 Q75)
  refine bs_d (fun hk => ?_) (fun hk1 => bs_d (fun hk => ?_) (fun hk2 => ⟨congrArg _ (tr_false fun H => by have := H.1; omega), rfl⟩))
  iterate 2
    have hk' : k = 2 ∨ k = 3 := by omega
    refine ⟨_, _, l10View_spec _ _, bs_b (fun e1 => ?_) (fun e => ⟨congrArg _ (tr_false fun H => of_trn e H.2.1), rfl⟩)⟩
    refine ⟨_, _, l10Seq_spec _ _, bs_b (fun e2 => ?_) (fun e => ⟨congrArg _ (tr_false fun H => of_trn e H.2.2.1), rfl⟩)⟩
    refine ⟨_, _, opRight_spec _ _, bs_b (fun e3 => ?_) (fun e => ⟨congrArg _ (tr_false fun H => of_trn e H.2.2.2.1), rfl⟩)⟩
    refine ⟨_, _, l09Who_spec _ _, congrArg _ ?_, rfl⟩
    rw [inr_tr]
    exact tr_congr ⟨fun H => ⟨hk', of_tr e1, of_tr e2, of_tr e3, H⟩, fun H => H.2.2.2.2⟩
end Go.Proofs.YtpgfjadjhliohaaGreat
end
section
namespace Go.Dat
open Go.Abs
def VtAt (xs : List voteSh.T) (i : Nat) : Prop := ∃ x : voteSh.T, xs[i]? = some x ∧ VotOk x.1 x.2.1 x.2.2.1 x.2.2.2.1 x.2.2.2.2 ∧ ∀ j, j < i → ¬ VoteAt xs x j
theorem VtAt.out {xs : List voteSh.T} {i : Nat} {k v q f : Int} {op : ByteArray} (H : VtAt xs i) (e : xs[i]? = some (k, v, q, op, f)) : VotOk k v q op f ∧ ∀ j, j < i → ¬ VoteAt xs (k, v, q, op, f) j := by
  obtain ⟨x, e', h1, h2⟩ := H
  rw [e] at e'
  cases e'
  exact ⟨h1, h2⟩
def VotsOk (xs : List voteSh.T) : Prop := xs.length ≤ 400 ∧ ∀ i, i < xs.length → VtAt xs i
theorem IdxRes.low {P : Nat → Prop} {n : Nat} {r : Int} (H : IdxRes P n r) {i : Nat} (hi : i < n) (hP : P i) : (r < i ↔ ¬ ∀ j, j < i → ¬ P j) := by
  rcases H with ⟨_, h⟩ | ⟨m, hm, rfl, h1, h2⟩
  · exact absurd hP (h i hi)
  · constructor
    · intro hlt hn
      exact hn m (by omega) h1
    · intro hn
      refine Classical.byContradiction fun hge => hn fun j hj => h2 j (by omega)
theorem rows_take' {h : AHeap} {l r e n c i c' : Nat} {rows : List (List Value)} (hr : h.rowsOf (.slice (some ⟨l, r, some e⟩) n c) = some rows) (hi : i ≤ n) : h.rowsOf (.slice (some ⟨l, r, some e⟩) i c') = some (rows.take i) := by
  unfold AHeap.rowsOf at hr ⊢
  dsimp only at hr ⊢
  cases hg : h.get l with
  | none => rw [hg] at hr; cases hr
  | some o =>
    rw [hg] at hr
    dsimp only at hr ⊢
    cases h1 : o.esz == e with
    | false => rw [h1] at hr; cases hr
    | true =>
      rw [h1] at hr
      simp only [Bool.true_and] at hr ⊢
      by_cases h2 : r + n ≤ o.rows.length
      · rw [decide_eq_true h2] at hr
        rw [decide_eq_true (by omega : r + i ≤ o.rows.length)]
        cases hr
        show some _ = some _
        rw [List.take_take, Nat.min_eq_left hi]
      · rw [decide_eq_false h2] at hr; cases hr
theorem Sl.take {h : AHeap} {s : Sh} {xs : List s.T} {l r n c i c' : Nat} (x : Sl h s xs (.slice (some ⟨l, r, some s.cells⟩) n c)) (hi : i ≤ n) : Sl h s (xs.take i) (.slice (some ⟨l, r, some s.cells⟩) i c') := by
  obtain ⟨a', n', c'', rows, e, h1, h2, h3, h4⟩ := x
  cases e
  have up : ∀ {α : Type} {ys : List α} {j : Nat} {y : α}, (ys.take i)[j]? = some y → ys[j]? = some y := fun {_ ys j y} h => by
    rw [List.getElem?_take] at h
    split at h
    · exact h
    · cases h
  exact ⟨_, _, _, rows.take i, rfl, .inr ⟨_, _, rfl⟩, rows_take' h2 hi, by rw [List.length_take]; omega, fun j y row hy hr => h4 j y row (up hy) (up hr)⟩
theorem VoteAt.pre {xs : List voteSh.T} {y : voteSh.T} {i j : Nat} (hj : j < i) : VoteAt (xs.take i) y j ↔ VoteAt xs y j := by
  unfold VoteAt
  rw [List.getElem?_take, if_pos hj]
theorem votes_pre {xs : List voteSh.T} {y : voteSh.T} {i : Nat} : (∀ j, j < i → ¬ VoteAt (xs.take i) y j) ↔ ∀ j, j < i → ¬ VoteAt xs y j := by
  exact ⟨fun H j hj h => H j hj ((VoteAt.pre hj).2 h), fun H j hj h => H j hj ((VoteAt.pre hj).1 h)⟩
end Go.Dat
namespace Go.Proofs.YtpgfjadjhliohaaGreat
open Go.Abs Go.Dat
set_option maxRecDepth 100000
set_option maxHeartbeats 8000000
def avL (xs : List voteSh.T) (a : Option Addr) (c : Nat) (h : AHeap) : LSpec where
  ι := Nat × AHeap
  κ := AHeap
  I := fun i => xs.length ≤ 400 ∧ i.1 ≤ xs.length ∧ h.Le i.2 ∧ i.2.wf ∧ ∀ j, j < i.1 → VtAt xs j
  μ := fun i => xs.length - i.1
  head := fun i => ⟨[(0, .slice a xs.length c), (8, .slice a xs.length c), (9, .int .i64 xs.length), (10, .int .i64 i.1)], [], i.2⟩
  post := fun j => ⟨[], [], j⟩
  R := fun _ j => h.Le j ∧ j.wf ∧ ∀ j, j < xs.length → VtAt xs j
  ret := fun _ v h' => v = .bool false ∧ h.Le h' ∧ h'.wf ∧ ∃ j, j < xs.length ∧ ¬ VtAt xs j
def Q76 (a : Prop) (b c : AHeap) (d : Prop) := a ∧ AHeap.Le b c ∧ AHeap.wf c ∧ d
def Q77 (a : Nat) (b : Q7k) := a < List.length b → VtAt b a
def Q78 (a : Nat) (b : Q7k) := a < List.length b ∧ Not (VtAt b a)
def Q79 (a : Value) := a = Value.bool false
def Q7a (a b : AHeap) (c : Prop) := AHeap.Le a b ∧ AHeap.wf b ∧ c
def Q7b (a : Q7k) (b : Nat × AHeap) (c : AHeap) (d : Prop) := Q6l (List.length a ≤ 400) (Prod.fst b ≤ List.length a) (AHeap.Le c (Prod.snd b)) (AHeap.wf (Prod.snd b)) d
def Q7c (a : Nat × AHeap) := (↑(Prod.fst a) : Int)
def Q7d := Q6f false false
def Q7e := True ∧ Q6k ∧ True
theorem areVotes_spec (h : AHeap) (hw : h.wf) (xs : List voteSh.T) (a : Option Addr) (c : Nat) (h1 : Sl h voteSh xs (.slice a xs.length c)) (ok : (Sh.sl voteSh).ok xs) :
    ∃ v h', ACall Tryz.prog 89 [.slice a xs.length c] h v h' ∧ h.Le h' ∧ h'.wf ∧ v = .bool (tr (VotsOk xs)) := by
  have n1 : xs.length ≤ 9223372036854775807 := ok.1
  refine acall_q fun Q HQ => ?_
  refine acall_vc (fun _ => false) (fun _ => []) (fun _ => avL xs a c h) mixed Tryz.func89 rfl rfl rfl (Nat.le_of_ble_eq_true rfl) ?_ ?_
  · (refine vc_mp (by kernel_rfl : (Q6l True Q7e (Q6l True (∀ (i : Nat × AHeap), Q7b xs i h (∀ (j : Nat), j < Prod.fst i → VtAt xs j) → bs (decide (Q7c i < Q6n xs)) (∃ (l r : Nat), a = some (Addr.mk l r (some 5)) ∧ 0 ≤ Q7c i ∧ Q7c i < Q6n xs ∧ (∃ (x x_1 x_2 : Int) (x_3 : ByteArray) (x_4 : Int), Q6q (Prod.snd i) l r (Prod.fst i) x x_1 x_2 x_3 x_4 (∃ (x_5 : Bool) (h' : AHeap), Q71 133 [Q72 x x_1 x_2 x_3 x_4] (Prod.snd i) x_5 h' ∧ bs (not x_5) (Q76 Q7d h h' (∃ (j : Nat), Q78 j xs)) (∃ (x_6 : Int) (h'_1 : AHeap), ACall Tryz.prog 125 [Value.slice a (List.length xs) c, Q72 x x_1 x_2 x_3 x_4] h' (Q6j x_6) h'_1 ∧ bs (decide (x_6 < Q7c i)) (Q76 Q7d h h'_1 (∃ (j : Nat), Q78 j xs)) (∃ (j : Nat × AHeap), Q6l (Q70 a xs c) (Q70 a xs c) (Q6j (Q6n xs) = Q6j (Q6n xs)) (Q6v (Q6w (Q7c i + 1)) (Prod.fst j)) (Q6l (Prod.snd j = h'_1) (Q7b xs j h (∀ (j_1 : Nat), j_1 < Prod.fst j → VtAt xs j_1)) (Q6s xs (Prod.fst j) < Q6s xs (Prod.fst i)) (∀ (k : AHeap), Q7a h k (∀ (j : Nat), Q77 j xs) → Q7a h k (∀ (j : Nat), Q77 j xs)) (∀ (v : Value) (h_1 : AHeap), Q76 (Q79 v) h h_1 (∃ (j : Nat), Q78 j xs) → Q76 (Q79 v) h h_1 (∃ (j : Nat), Q78 j xs)))))))) (∃ (j : AHeap), Q76 (j = Prod.snd i) h j (∀ (j : Nat), Q77 j xs))) True Q6k ((True ∧ True ∧ Q6k ∧ True) ∧ True)) True True) = _) ?_; delta Q6f Q6j Q6k Q6l Q6n Q6p Q6q Q6s Q6v Q6w Q70 Q71 Q72 Q76 Q77 Q78 Q79 Q7a Q7b Q7c Q7d Q7e)
    simp only [true_and, and_true]
    rintro ⟨i, g⟩ ⟨hb, hi, le, wf, hall⟩
    dsimp only at *
    refine bs_d (fun hlt => ?_) (fun hge => ⟨g, rfl, le, wf, fun j hj => hall j (by omega)⟩)
    obtain ⟨⟨k, v, q, op, f⟩, hat⟩ : ∃ y : Int × Int × Int × ByteArray × Int, xs[i]? = some y := ⟨_, List.getElem?_eq_getElem (by omega)⟩
    obtain ⟨l, r, row, ha, _, hrd, hld⟩ := (h1.mono le).elem hat
    obtain rfl := rd_vote.1 hrd
    dsimp only at hld
    obtain ⟨_, g2, A2, le2, w2, m, rfl, hm⟩ := voteIndex_spec g wf a c xs k v q f op (h1.mono le) n1
    have self : VoteAt xs (k, v, q, op, f) i := ⟨_, hat, rfl, rfl, rfl, rfl⟩
    refine ⟨l, r, ha, Int.natCast_nonneg _, hlt, _, _, _, _, _, hld, _, _, isVote_spec g k v q f op, bs_nb (fun e => ⟨le, wf, i, by omega, fun H => of_trn e (H.out hat).1⟩) (fun e1 => ?_)⟩
    refine ⟨_, _, A2, bs_d (fun e => ⟨le.trans le2, w2, i, by omega, fun H => (hm.low (by omega) self).1 e (H.out hat).2⟩) (fun e2 => ?_)⟩
    have hno : ∀ j, j < i → ¬ VoteAt xs (k, v, q, op, f) j := Classical.byContradiction fun hn => e2 ((hm.low (by omega) self).2 hn)
    exact ⟨(i + 1, g2), by rw [wrap_i64 (by omega)]; rfl, rfl, ⟨hb, by dsimp only; omega, le.trans le2, w2, upto_step hall ⟨_, hat, of_tr e1, hno⟩⟩, by dsimp only; omega, fun _ h => h, fun _ _ h => h⟩
  (refine vc_mp (by kernel_rfl : (bs (decide (Q6n xs > 400)) (Q (Value.bool false) h) (∃ (i : Nat × AHeap), Q6l (Q70 a xs c) (Q70 a xs c) (Q6j (Q6n xs) = Q6j (Q6n xs)) (Q6v Q73 (Prod.fst i)) (Prod.snd i = h ∧ Q7b xs i h (∀ (j : Nat), j < Prod.fst i → VtAt xs j) ∧ (∀ (j : AHeap), Q7a h j (∀ (j : Nat), Q77 j xs) → Q (Value.bool true) j) ∧ (∀ (v : Value) (h_1 : AHeap), Q76 (Q79 v) h h_1 (∃ (j : Nat), Q78 j xs) → Q v h_1)))) = _) ?_; delta Q6j Q6l Q6n Q6v Q70 Q73 Q76 Q77 Q78 Q79 Q7a Q7b)
  refine bs_d (fun e => HQ _ _ ⟨.refl _, hw, congrArg _ (tr_false fun H => by have := H.1; omega)⟩) (fun e => ?_)
  exact ⟨(0, h), rfl, rfl, rfl, rfl, rfl, ⟨by omega, Nat.zero_le _, .refl _, hw, fun j hj => absurd hj (Nat.not_lt_zero _)⟩, fun g hg => HQ _ _ ⟨hg.1, hg.2.1, congrArg _ (tr_true ⟨by omega, hg.2.2⟩)⟩, fun v g ⟨e1, e2, e3, j, hj, hn⟩ => HQ _ _ ⟨e2, e3, e1.trans (congrArg _ (tr_false fun H => hn (H.2 j hj)))⟩⟩
theorem l11Same_spec (h : AHeap) (k v q f : Int) (op : ByteArray) (k' v' q' f' : Int) (op' : ByteArray) :
    ACall Tryz.prog 120 [.agg #[.int .i64 k', .int .i64 v', .int .i64 q', .string op', .int .i64 f'], .agg #[.int .i64 k, .int .i64 v, .int .i64 q, .string op, .int .i64 f]] h (.bool (tr (SameV (k', v', q', op', f') (k, v, q, op, f)))) h := by
  refine acall_out (acall_vc (fun _ => false) (fun _ => []) (fun _ => .none) mixed Tryz.func120 rfl rfl rfl (Nat.le_of_ble_eq_true rfl) (by (refine vc_mp (by kernel_rfl : (Q6e) = _) ?_; delta Q6e); simp only [and_self]) ?_)
  (refine vc_mp (by kernel_rfl : (Q6i (decide (k' = k)) (Q6i (decide (v' = v)) (Q6i (decide (q' = q)) (Q6f (decide (f' = f)) (tr (SameV (Q6h k' v' q' op' f') (Q6h k v q op f))) ∧ h = h) k' v' q' op' f' k v q op f h) k' v' q' op' f' k v q op f h) k' v' q' op' f' k v q op f h) = _) ?_; delta Q6f Q6g Q6h Q6i)
  refine bs_d (fun e1 => bs_d (fun e2 => bs_d (fun e3 => ⟨congrArg _ ?_, rfl⟩) (fun e => ⟨congrArg _ (tr_false fun H => e H.2.2.1), rfl⟩)) (fun e => ⟨congrArg _ (tr_false fun H => e H.2.1), rfl⟩)) (fun e => ⟨congrArg _ (tr_false fun H => e H.1), rfl⟩)
  rw [tr_dec]
  exact tr_congr ⟨fun H => ⟨e1, e2, e3, H⟩, fun H => H.2.2.2⟩
def hasL (xs : List voteSh.T) (y : voteSh.T) (a : Option Addr) (c : Nat) (h : AHeap) : LSpec where
  ι := Nat
  κ := Unit
  I := fun i => i ≤ xs.length ∧ ∀ j, j < i → ¬ VoteAt xs y j
  μ := fun i => xs.length - i
  head := fun i => ⟨[(0, .slice a xs.length c), (3, .complex .f32 0 0), (5, .int .i64 i)], [[.int .i64 y.1, .int .i64 y.2.1, .int .i64 y.2.2.1, .string y.2.2.2.1, .int .i64 y.2.2.2.2]], h⟩
  post := fun _ => ⟨[], [], h⟩
  R := fun _ _ => ∀ j, j < xs.length → ¬ VoteAt xs y j
  ret := fun _ v h' => v = .bool true ∧ h' = h ∧ ¬ ∀ j, j < xs.length → ¬ VoteAt xs y j
def Q7f (a : Value) (b c : AHeap) (d : Prop) := a = Value.bool true ∧ b = c ∧ Not d
def Q7g := Value.complex FloatKind.f32 0 0
theorem l11Has_spec (h : AHeap) (xs : List voteSh.T) (a : Option Addr) (c : Nat) (k v q f : Int) (op : ByteArray) (h1 : Sl h voteSh xs (.slice a xs.length c)) (hn : xs.length ≤ 9223372036854775807) :
    ACall Tryz.prog 62 [.slice a xs.length c, .agg #[.int .i64 k, .int .i64 v, .int .i64 q, .string op, .int .i64 f]] h (.bool (tr (¬ ∀ j, j < xs.length → ¬ VoteAt xs (k, v, q, op, f) j))) h := by
  refine acall_out (acall_vc (fun _ => false) (fun r => match r with | 4 => [(0, 0, []), (1, 0, []), (2, 0, []), (3, 1, []), (4, 1, []), (5, 3, [])] | _ => []) (fun _ => hasL xs (k, v, q, op, f) a c h) mixed Tryz.func62 rfl rfl rfl (Nat.le_of_ble_eq_true rfl) ?_ ?_)
  · (refine vc_mp (by kernel_rfl : (True ∧ Q6l True (∀ (i : Nat), Q6t i xs (∀ (j : Nat), Q6u j i xs k v q op f) → bs (decide ((↑i : Int) < Q6n xs)) (∃ (l r : Nat), Q6o a l r i xs (∃ (x x_1 x_2 : Int) (x_3 : ByteArray) (x_4 : Int), Q6q h l r i x x_1 x_2 x_3 x_4 (∃ (x_5 : Bool) (h' : AHeap), Q71 120 [Q72 x x_1 x_2 x_3 x_4, Q72 k v q op f] h x_5 h' ∧ bs x_5 (Q6f true true ∧ h' = h ∧ Not (∀ (j : Nat), Q6m j xs k v q op f)) (∃ (j : Nat), Q6l (Q70 a xs c) (Q7g = Q7g) (Q6v (Q6w ((↑i : Int) + 1)) j) (Q6p k v q op f = Q6p k v q op f) (Q6l (h = h') (Q6t j xs (∀ (j_1 : Nat), Q6u j_1 j xs k v q op f)) (Q6s xs j < Q6s xs i) (∀ (k_1 : Unit), (∀ (j : Nat), Q6m j xs k v q op f) → (∀ (j : Nat), Q6m j xs k v q op f)) (∀ (v_1 : Value) (h_1 : AHeap), Q7f v_1 h_1 h (∀ (j : Nat), Q6m j xs k v q op f) → Q7f v_1 h_1 h (∀ (j : Nat), Q6m j xs k v q op f))))))) (∃ (j : Unit), h = h ∧ (∀ (j : Nat), Q6m j xs k v q op f))) Q6e Q7e True ∧ Q6k) = _) ?_; delta Q6e Q6f Q6h Q6j Q6k Q6l Q6m Q6n Q6o Q6p Q6q Q6s Q6t Q6u Q6v Q6w Q70 Q71 Q72 Q7e Q7f Q7g)
    simp only [true_and, and_true]
    rintro (i : Nat) ⟨hi, hall⟩
    refine bs_d (fun hlt => ?_) (fun hge => ⟨(), fun j hj => hall j (by omega)⟩)
    have hio : i < xs.length := by omega
    obtain ⟨⟨k', v', q', op', f'⟩, hat⟩ : ∃ y : Int × Int × Int × ByteArray × Int, xs[i]? = some y := ⟨_, List.getElem?_eq_getElem hio⟩
    obtain ⟨l, r, row, ha, _, hrd, hld⟩ := h1.elem hat
    obtain rfl := rd_vote.1 hrd
    dsimp only at hld
    refine ⟨l, r, ha, Int.natCast_nonneg _, hlt, _, _, _, _, _, hld, _, _, l11Same_spec h k v q f op k' v' q' f' op', bs_b (fun e => ⟨rfl, fun H => H i hio ((VoteAt.iff hat).2 (of_tr e))⟩) (fun e => ?_)⟩
    exact ⟨i + 1, by rw [wrap_i64 (by omega)]; rfl, rfl, ⟨by omega, upto_step hall (fun H => of_trn e ((VoteAt.iff hat).1 H))⟩, by omega, fun _ h => h, fun _ _ h => h⟩
  (refine vc_mp (by kernel_rfl : (∃ (i : Nat), Q6l (Q70 a xs c) (Q7g = Q7g) (Q6v Q73 i) (Q6p k v q op f = Q6p k v q op f) (h = h ∧ Q6t i xs (∀ (j : Nat), Q6u j i xs k v q op f) ∧ (∀ (j : Unit), (∀ (j : Nat), Q6m j xs k v q op f) → Q6g (Not (∀ (j : Nat), Q6m j xs k v q op f)) ∧ h = h) ∧ (∀ (v_1 : Value) (h_1 : AHeap), Q7f v_1 h_1 h (∀ (j : Nat), Q6m j xs k v q op f) → v_1 = Value.bool (tr (Not (∀ (j : Nat), Q6m j xs k v q op f))) ∧ h_1 = h))) = _) ?_; delta Q6f Q6g Q6h Q6j Q6l Q6m Q6p Q6t Q6u Q6v Q70 Q73 Q7f Q7g)
  exact ⟨(0 : Nat), rfl, rfl, rfl, rfl, rfl, ⟨Nat.zero_le _, fun j hj => absurd hj (Nat.not_lt_zero _)⟩, fun _ hall => ⟨congrArg _ (tr_false fun H => H hall), rfl⟩, fun _ _ ⟨e1, e2, e3⟩ => ⟨e1.trans (congrArg _ (tr_true e3)), e2⟩⟩
def vrL (xs : List voteSh.T) (a : Option Addr) (c : Nat) (h : AHeap) : LSpec where
  ι := Nat
  κ := Unit
  I := fun i => xs.length ≤ 400 ∧ i ≤ xs.length ∧ ∀ j, j < i → VtAt xs j
  μ := fun i => xs.length - i
  head := fun i => ⟨[(0, .slice a xs.length c), (3, .int .i64 i)], [], h⟩
  post := fun _ => ⟨[], [], h⟩
  R := fun _ _ => ∀ j, j < xs.length → VtAt xs j
  ret := fun _ v h' => v = .bool false ∧ h' = h ∧ ∃ j, j < xs.length ∧ ¬ VtAt xs j
def Q7h (a : Q7k) (b : Nat) (c : Prop) := List.length a ≤ 400 ∧ b ≤ List.length a ∧ c
theorem votesRight_spec (h : AHeap) (xs : List voteSh.T) (a : Option Addr) (c : Nat) (h1 : Sl h voteSh xs (.slice a xs.length c)) (ok : (Sh.sl voteSh).ok xs) :
    ACall Tryz.prog 79 [.slice a xs.length c] h (.bool (tr (VotsOk xs))) h := by
  have n1 : xs.length ≤ 9223372036854775807 := ok.1
  refine acall_out (acall_vc (fun _ => false) (fun r => match r with | 6 => [(0, 0, []), (1, 0, []), (2, 0, []), (3, 1, []), (4, 3, []), (5, 0, []), (6, 0, []), (7, 0, []), (8, 0, []), (9, 0, []), (10, 0, []), (11, 0, []), (12, 0, []), (13, 1, []), (14, 3, []), (15, 0, [])] | _ => []) (fun _ => vrL xs a c h) mixed Tryz.func79 rfl rfl rfl (Nat.le_of_ble_eq_true rfl) ?_ ?_)
  · (refine vc_mp (by kernel_rfl : (Q6l True Q7e (Q6l True (∀ (i : Nat), Q7h xs i (∀ (j : Nat), j < i → VtAt xs j) → bs (decide ((↑i : Int) < Q6n xs)) (∃ (l r : Nat), Q6o a l r i xs (∃ (x x_1 x_2 : Int) (x_3 : ByteArray) (x_4 : Int), Q6q h l r i x x_1 x_2 x_3 x_4 (∃ (x_5 : Bool) (h' : AHeap), Q71 131 [Q72 x x_1 x_2 x_3 x_4] h x_5 h' ∧ bs (not x_5) (Q7d ∧ h' = h ∧ (∃ (j : Nat), Q78 j xs)) (Q6l ((0 : Int) ≤ (0 : Int)) (0 ≤ (↑i : Int)) ((↑i : Int) ≤ Q6n xs ∨ c ≠ 0 ∧ (↑i : Int) < (↑c : Int)) (∀ (x : Addr), a = some x → Addr.spot x = some 5) (∃ (l r : Nat), Q6o a l r i xs (∃ (x x_6 x_7 : Int) (x_8 : ByteArray) (x_9 : Int), Q6q h' l r i x x_6 x_7 x_8 x_9 (∃ (x_10 : Bool) (h'_1 : AHeap), Q71 62 [Value.slice (Option.map (fun (x : Addr) => Addr.mk (Addr.block x) (Addr.off x + Int.toNat (0 : Int)) (Addr.spot x)) a) (Int.toNat (↑i : Int) - Int.toNat 0) (cond (decide (c = 0)) 0 (c - Int.toNat 0)), Q72 x x_6 x_7 x_8 x_9] h' x_10 h'_1 ∧ bs x_10 (Q7d ∧ h'_1 = h ∧ (∃ (j : Nat), Q78 j xs)) (∃ (j : Nat), Q6l (Q70 a xs c) (Q6v (Q6w ((↑i : Int) + 1)) j) (h = h'_1) (Q7h xs j (∀ (j_1 : Nat), j_1 < j → VtAt xs j_1)) (Q6s xs j < Q6s xs i ∧ (∀ (k : Unit), (∀ (j : Nat), Q77 j xs) → (∀ (j : Nat), Q77 j xs)) ∧ (∀ (v : Value) (h_1 : AHeap), Q79 v ∧ h_1 = h ∧ (∃ (j : Nat), Q78 j xs) → Q79 v ∧ h_1 = h ∧ (∃ (j : Nat), Q78 j xs))))))))))) (∃ (j : Unit), h = h ∧ (∀ (j : Nat), Q77 j xs))) Q6e Q7e True) True True) = _) ?_; delta Q6e Q6f Q6j Q6k Q6l Q6n Q6o Q6p Q6q Q6s Q6v Q6w Q70 Q71 Q72 Q77 Q78 Q79 Q7d Q7e Q7h)
    simp only [true_and, and_true]
    rintro (i : Nat) ⟨hb, hi, hall⟩
    refine bs_d (fun hlt => ?_) (fun hge => ⟨(), fun j hj => hall j (by omega)⟩)
    obtain ⟨⟨k, v, q, op, f⟩, hat⟩ : ∃ y : Int × Int × Int × ByteArray × Int, xs[i]? = some y := ⟨_, List.getElem?_eq_getElem (by omega)⟩
    obtain ⟨l, r, row, ha, _, hrd, hld⟩ := h1.elem hat
    obtain rfl := rd_vote.1 hrd
    dsimp only at hld
    obtain rfl := ha
    refine ⟨l, r, rfl, Int.natCast_nonneg _, hlt, _, _, _, _, _, hld, _, _, l11Vote_spec h k v q f op, bs_nb (fun e => ⟨rfl, i, by omega, fun H => of_trn e (H.out hat).1⟩) (fun e1 => ?_)⟩
    refine ⟨Int.le_refl _, Int.natCast_nonneg _, .inl (by omega), fun x hx => by cases hx; rfl, l, r, rfl, Int.natCast_nonneg _, hlt, _, _, _, _, _, hld, ?_⟩
    have hlen : (xs.take i).length = i := by rw [List.length_take]; omega
    have A := l11Has_spec h (xs.take i) (some ⟨l, r, some voteSh.cells⟩) (bif decide (c = 0) then 0 else c - Int.toNat 0) k v q f op (by rw [hlen]; exact h1.take (by omega)) (by omega)
    rw [hlen] at A
    refine ⟨_, _, A, bs_b (fun e => ⟨rfl, i, by omega, fun H => of_tr e (votes_pre.2 (H.out hat).2)⟩) (fun e => ?_)⟩
    have hno : ∀ j, j < i → ¬ VoteAt xs (k, v, q, op, f) j := votes_pre.1 (Classical.byContradiction fun hn => of_trn e hn)
    exact ⟨i + 1, by rw [wrap_i64 (by omega)]; rfl, rfl, ⟨hb, by omega, upto_step hall ⟨_, hat, of_tr e1, hno⟩⟩, by omega, fun _ h => h, fun _ _ h => h⟩
  (refine vc_mp (by kernel_rfl : (bs (decide (Q6n xs > 400)) (Q6g (VotsOk xs) ∧ h = h) (∃ (i : Nat), Q6l (Q70 a xs c) (Q6v Q73 i) (h = h) (Q7h xs i (∀ (j : Nat), j < i → VtAt xs j)) ((∀ (j : Unit), (∀ (j : Nat), Q77 j xs) → Q6f true (tr (VotsOk xs)) ∧ h = h) ∧ (∀ (v : Value) (h_1 : AHeap), Q79 v ∧ h_1 = h ∧ (∃ (j : Nat), Q78 j xs) → v = Value.bool (tr (VotsOk xs)) ∧ h_1 = h)))) = _) ?_; delta Q6f Q6g Q6j Q6l Q6n Q6v Q70 Q73 Q77 Q78 Q79 Q7h)
  refine bs_d (fun e => ⟨congrArg _ (tr_false fun H => by have := H.1; omega), rfl⟩) (fun e => ?_)
  exact ⟨(0 : Nat), rfl, rfl, rfl, ⟨by omega, Nat.zero_le _, fun j hj => absurd hj (Nat.not_lt_zero _)⟩, fun _ hg => ⟨congrArg _ (tr_true ⟨by omega, hg⟩), rfl⟩, fun v g ⟨e1, e2, j, hj, hn⟩ => ⟨e1.trans (congrArg _ (tr_false fun H => hn (H.2 j hj))), e2⟩⟩
end Go.Proofs.YtpgfjadjhliohaaGreat
end
section
namespace Go.Dat
open Go.Abs
theorem vots_mem {l : List voteSh.T} (H : VotsOk l) {k v q f : Int} {op : ByteArray} (h : (k, v, q, op, f) ∈ l) : VotOk k v q op f := by
  obtain ⟨i, hi⟩ := List.mem_iff_getElem?.1 h
  exact ((H.2 i (List.getElem?_eq_some_iff.1 hi).1).out hi).1
theorem vots_at {l : List voteSh.T} (H : VotsOk l) {i j : Nat} {k v q f : Int} {op op' : ByteArray} (hi : l[i]? = some (k, v, q, op, f)) (hj : l[j]? = some (k, v, q, op', f)) : i = j := by
  have one : ∀ {i j : Nat} {op op' : ByteArray}, l[i]? = some (k, v, q, op, f) → l[j]? = some (k, v, q, op', f) → ¬ i < j := fun {i j op op'} h1 h2 hlt =>
    ((H.2 j (List.getElem?_eq_some_iff.1 h2).1).out h2).2 i hlt ⟨_, h1, rfl, rfl, rfl, rfl⟩
  have h1 := one hi hj
  have h2 := one hj hi
  omega
theorem vots_one {l : List voteSh.T} (H : VotsOk l) {k v q f : Int} {op op' : ByteArray} (h : (k, v, q, op, f) ∈ l) (h' : (k, v, q, op', f) ∈ l) : op = op' := by
  obtain ⟨i, hi⟩ := List.mem_iff_getElem?.1 h
  obtain ⟨j, hj⟩ := List.mem_iff_getElem?.1 h'
  obtain rfl := vots_at H hi hj
  rw [hi] at hj
  cases hj; rfl
noncomputable def upP (P : Int → Prop) : Nat → List Int
  | 0 => []
  | n + 1 => upP P n ++ (bif tr (P n) then [(n : Int)] else [])
theorem mem_upP {P : Int → Prop} {x : Int} : ∀ {n : Nat}, x ∈ upP P n ↔ 0 ≤ x ∧ x < n ∧ P x
  | 0 => ⟨fun h => (by cases h), fun h => (by omega)⟩
  | n + 1 => by
    rw [upP, List.mem_append, mem_upP]
    constructor
    · rintro (h | h)
      · exact ⟨h.1, by omega, h.2.2⟩
      · cases hb : tr (P n) with
        | false => rw [hb] at h; cases h
        | true => rw [hb] at h; rw [List.mem_singleton.1 h]; exact ⟨by omega, by omega, of_tr hb⟩
    · rintro ⟨h1, h2, h3⟩
      by_cases e : x = n
      · right; rw [← e, ← tr_true h3]; exact List.mem_singleton.2 rfl
      · exact .inl ⟨h1, by omega, h3⟩
theorem upP_asc {P : Int → Prop} : ∀ {n : Nat}, (upP P n).Pairwise (· < ·)
  | 0 => .nil
  | n + 1 => by
    rw [upP, List.pairwise_append]
    refine ⟨upP_asc, ?_, fun a ha b hb => ?_⟩
    · cases tr (P n) <;> simp
    · have h1 := mem_upP.1 ha
      cases h : tr (P n) with
      | false => rw [h] at hb; cases hb
      | true => rw [h] at hb; rw [List.mem_singleton.1 hb]; omega
theorem upP_len {P : Int → Prop} : ∀ {n : Nat}, (upP P n).length ≤ n
  | 0 => Nat.le_refl _
  | n + 1 => by
    rw [upP, List.length_append]
    have := upP_len (P := P) (n := n)
    cases tr (P n) <;> simp <;> omega
theorem asc_ext : ∀ {a b : List Int}, a.Pairwise (· < ·) → b.Pairwise (· < ·) → (∀ x, x ∈ a ↔ x ∈ b) → a = b
  | [], [], _, _, _ => rfl
  | [], y :: ys, _, _, h => absurd ((h y).2 List.mem_cons_self) List.not_mem_nil
  | x :: xs, [], _, _, h => absurd ((h x).1 List.mem_cons_self) List.not_mem_nil
  | x :: xs, y :: ys, ha, hb, h => by
    obtain ⟨a1, a2⟩ := List.pairwise_cons.1 ha
    obtain ⟨b1, b2⟩ := List.pairwise_cons.1 hb
    have e : x = y := by
      rcases List.mem_cons.1 ((h x).1 List.mem_cons_self) with e | e
      · exact e
      · rcases List.mem_cons.1 ((h y).2 List.mem_cons_self) with e2 | e2
        · exact e2.symm
        · have h1 := b1 x e
          have h2 := a1 y e2
          omega
    subst e
    refine congrArg _ (asc_ext a2 b2 fun z => ⟨fun hz => ?_, fun hz => ?_⟩)
    · rcases List.mem_cons.1 ((h z).1 (List.mem_cons_of_mem _ hz)) with e | e
      · have := a1 z hz; omega
      · exact e
    · rcases List.mem_cons.1 ((h z).2 (List.mem_cons_of_mem _ hz)) with e | e
      · have := b1 z hz; omega
      · exact e
theorem nodup_len : ∀ (n : Nat) (l : List Int), l.Nodup → (∀ x ∈ l, 0 ≤ x ∧ x < n) → l.length ≤ n
  | 0, [], _, _ => Nat.le_refl _
  | 0, x :: xs, _, h => by have := h x List.mem_cons_self; omega
  | n + 1, l, hd, h => by
    have h1 := nodup_len n (l.erase (n : Int)) (hd.erase _) (fun x hx => by
      have h2 := (hd.mem_erase_iff).1 hx
      have h3 := h x h2.2
      have h4 := h2.1
      omega)
    by_cases hm : (n : Int) ∈ l
    · have h5 := List.length_erase_of_mem hm
      omega
    · have h5 := List.erase_of_not_mem hm
      rw [h5] at h1
      omega
noncomputable def votersM (l : List voteSh.T) (k v q : Int) (op : ByteArray) : List Int := upP (fun f => (k, v, q, op, f) ∈ l) 4
theorem quorum_aux : ∀ b0 b1 b2 b3 c0 c1 c2 c3 : Bool, 3 ≤ ((((([] : List Int) ++ (bif b0 then [0] else [])) ++ (bif b1 then [1] else [])) ++ (bif b2 then [2] else [])) ++ (bif b3 then [3] else [])).length →
    3 ≤ ((((([] : List Int) ++ (bif c0 then [0] else [])) ++ (bif c1 then [1] else [])) ++ (bif c2 then [2] else [])) ++ (bif c3 then [3] else [])).length → (b0 && c0 || b1 && c1 || b2 && c2 || b3 && c3) = true := by decide
theorem quorum_one {l : List voteSh.T} (H : VotsOk l) {k v q : Int} {op op' : ByteArray} (h : 3 ≤ (votersM l k v q op).length) (h' : 3 ≤ (votersM l k v q op').length) : op = op' := by
  have := quorum_aux _ _ _ _ _ _ _ _ h h'
  simp only [Bool.or_eq_true, Bool.and_eq_true] at this
  rcases this with ((h | h) | h) | h <;> exact vots_one H (of_tr h.1) (of_tr h.2)
open Classical in
noncomputable def provedM (l : List voteSh.T) (k v q : Int) : Option ByteArray := if h : ∃ op, 3 ≤ (votersM l k v q op).length then some h.choose else none
theorem provedM_some {l : List voteSh.T} (H : VotsOk l) {k v q : Int} {op : ByteArray} (h : 3 ≤ (votersM l k v q op).length) : provedM l k v q = some op := by
  have he : ∃ op, 3 ≤ (votersM l k v q op).length := ⟨op, h⟩
  unfold provedM
  rw [dif_pos he, quorum_one H he.choose_spec h]
theorem provedM_none {l : List voteSh.T} {k v q : Int} (h : ∀ op, (∃ f, (k, v, q, op, f) ∈ l) → ¬ 3 ≤ (votersM l k v q op).length) : provedM l k v q = none := by
  unfold provedM
  rw [dif_neg]
  rintro ⟨op, ho⟩
  obtain ⟨x, hx⟩ : ∃ x, x ∈ votersM l k v q op := by
    cases hv : votersM l k v q op with
    | nil => rw [hv] at ho; simp at ho
    | cons x xs => exact ⟨x, List.mem_cons_self⟩
  exact h op ⟨x, (mem_upP.1 hx).2.2⟩ ho
theorem provedM_out {l : List voteSh.T} {k v q : Int} {op : ByteArray} (h : provedM l k v q = some op) : 3 ≤ (votersM l k v q op).length := by
  unfold provedM at h
  split at h
  · rename_i he
    cases h; exact he.choose_spec
  · cases h
end Go.Dat
end
