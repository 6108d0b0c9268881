/- V5, N2, G2, E1, V6. -/
import Derived.Test.YtanienlcebkijaaV15V4
import Derived.Test.YtanienlcebkijaaV15Y6
import Derived.Test.YtanienlcebkijaaV15G1
section
namespace Go.Proofs.Ytanienlcebkijaa
open Go.Abs Go.Dat
set_option maxRecDepth 100000
set_option maxHeartbeats 8000000
theorem heardAsc {hs : List heardSh.T} (H : ∀ i, i < hs.length → HOk hs i) : ∀ (i j : Nat) (x x' : heardSh.T), i < j → hs[i]? = some x → hs[j]? = some x' → (show Int from x.1) < x'.1 := by
  intro i j
  induction j with
  | zero => intro x x' h; omega
  | succ j ih =>
    intro x x' hij hx hx'
    obtain ⟨f, t, e1, _, _, e2⟩ := H (j + 1) (List.getElem?_eq_some_iff.1 hx').1
    obtain ⟨g, u, e3, e4⟩ := e2 j rfl
    rw [hx'] at e1; cases e1
    by_cases c : i = j
    · subst c; rw [hx] at e3; cases e3; exact e4
    · exact Int.lt_trans (ih x (g, u) (by omega) hx e3) e4
def ixhL (a : Option Addr) (n c lo : Nat) (h : AHeap) (xs : List heardSh.T) (u : ByteArray) : LSpec where
  ι := Nat
  κ := Unit
  I := fun i => i ≤ n ∧ ∀ (j : Nat) (x : heardSh.T), j < i → xs[j]? = some x → ¬ (show ByteArray from x.2) = u
  μ := fun i => n - i
  head := fun i => ⟨[(0, .slice a n c), (1, .func (.func 91) #[] #[.pointer (some ⟨lo, 0, some 0⟩)]), (7, .int .i64 n), (8, .int .i64 i)], [], h⟩
  post := fun _ => ⟨[], [], h⟩
  R := fun _ _ => ∀ x ∈ xs, ¬ (show ByteArray from x.2) = u
  ret := fun _ v h' => h' = h ∧ ∃ r : Int, v = .int .i64 r ∧ 0 ≤ r ∧ ∃ x ∈ xs, (show ByteArray from x.2) = u
theorem indexHeard_spec (h : AHeap) (a : Option Addr) (c lo : Nat) (xs : List heardSh.T) (u : ByteArray) (p q : Value) (hx : Sl h heardSh xs (.slice a xs.length c)) (hn : xs.length ≤ 1048576) (hd : h.ld lo 0 0 3 = some [p, q, .string u]) :
    ∃ r h', ACall Try.prog 146 [.slice a xs.length c, .func (.func 91) #[] #[.pointer (some ⟨lo, 0, some 0⟩)]] h r h' ∧ h' = h ∧ ∃ i : Int, r = .int .i64 i ∧ (0 ≤ i ↔ ∃ x ∈ xs, (show ByteArray from x.2) = u) := by
  refine acall_q fun Q HQ => ?_
  refine acall_vc (fun _ => false) (fun _ => []) (fun _ => ixhL a xs.length c lo h xs u) mixed Try.func146 rfl rfl rfl (Nat.le_of_ble_eq_true rfl) ?_ ?_
  · refine vc_mp (by kernel_rfl : (True ∧ (True ∧ (∀ (i : Nat), (i ≤ List.length xs ∧ ∀ (j : Nat) (x : Sh.T heardSh), j < i → xs[j]? = some x → ¬Prod.snd x = u) → bs (decide ((↑i : Int) < (↑(List.length xs) : Int))) (∃ (l : Nat), ∃ (r : Nat), a = some (Addr.mk l r (some (2 : Nat))) ∧ (0 : Int) ≤ (↑i : Int) ∧ (↑i : Int) < (↑(List.length xs) : Int) ∧ ∃ (x : Int), ∃ (x_1 : ByteArray), AHeap.ld h l (r + Int.toNat (↑i : Int)) (0 : Nat) (2 : Nat) = some [Value.int IntKind.i64 x, Value.string x_1] ∧ ∃ (x_2 : Bool), ∃ (h' : AHeap), ACall Try.prog (91 : FuncId) [Value.agg (Array.mk [Value.int IntKind.i64 x, Value.string x_1]), Value.pointer (some (Addr.mk lo (0 : Nat) (some (0 : Nat))))] h (Value.bool x_2) h' ∧ bs x_2 (h' = h ∧ ∃ (r : Int), Value.int IntKind.i64 (↑i : Int) = Value.int IntKind.i64 r ∧ (0 : Int) ≤ r ∧ ∃ (x : Sh.T heardSh), x ∈ xs ∧ Prod.snd x = u) (∃ (j : Nat), Value.slice a (List.length xs) c = Value.slice a (List.length xs) c ∧ Value.func (Fn.func (91 : FuncId)) (Array.mk []) (Array.mk [Value.pointer (some (Addr.mk lo (0 : Nat) (some (0 : Nat))))]) = Value.func (Fn.func (91 : FuncId)) (Array.mk []) (Array.mk [Value.pointer (some (Addr.mk lo (0 : Nat) (some (0 : Nat))))]) ∧ Value.int IntKind.i64 (↑(List.length xs) : Int) = Value.int IntKind.i64 (↑(List.length xs) : Int) ∧ Value.int IntKind.i64 (IntKind.wrap IntKind.i64 ((↑i : Int) + (1 : Int))) = Value.int IntKind.i64 (↑j : Int) ∧ h = h' ∧ (j ≤ List.length xs ∧ ∀ (j_1 : Nat) (x : Sh.T heardSh), j_1 < j → xs[j_1]? = some x → ¬Prod.snd x = u) ∧ List.length xs - j < List.length xs - i ∧ (∀ (k : Unit), (∀ (x : Sh.T heardSh), x ∈ xs → ¬Prod.snd x = u) → ∀ (x : Sh.T heardSh), x ∈ xs → ¬Prod.snd x = u) ∧ ∀ (v : Value) (h_1 : AHeap), (h_1 = h ∧ ∃ (r : Int), v = Value.int IntKind.i64 r ∧ (0 : Int) ≤ r ∧ ∃ (x : Sh.T heardSh), x ∈ xs ∧ Prod.snd x = u) → h_1 = h ∧ ∃ (r : Int), v = Value.int IntKind.i64 r ∧ (0 : Int) ≤ r ∧ ∃ (x : Sh.T heardSh), x ∈ xs ∧ Prod.snd x = u)) (∃ (j : Unit), h = h ∧ ∀ (x : Sh.T heardSh), x ∈ xs → ¬Prod.snd x = u)) ∧ True ∧ (True ∧ True) ∧ (True ∧ True ∧ (True ∧ True) ∧ True) ∧ True) ∧ True ∧ True) = _) ?_
    simp only [true_and, and_true]
    rintro (i : Nat) ⟨hi, hall⟩
    refine bs_d (fun hlt => ?_) (fun hge => ⟨(), fun x hx' => ?_⟩)
    · obtain ⟨⟨f, t⟩, hat⟩ : ∃ y : Int × ByteArray, xs[i]? = some y := ⟨_, List.getElem?_eq_getElem (by omega)⟩
      obtain ⟨l, r, row, ha, _, hrd, hld⟩ := hx.elem hat
      obtain rfl := rd_heard.1 hrd
      dsimp only at hld
      refine ⟨l, r, ha, Int.natCast_nonneg _, hlt, _, _, hld, _, _, hear2_spec h lo f t u p q hd, bs_b (fun e => ⟨rfl, _, rfl, Int.natCast_nonneg _, (f, t), List.mem_of_getElem? hat, of_tr e⟩) (fun e => ?_)⟩
      refine ⟨i + 1, by rw [wrap_i64 (by omega)]; rfl, rfl, ⟨by omega, fun j x hj hx' => ?_⟩, by omega, fun _ h => h, fun _ _ h => h⟩
      by_cases c1 : j = i
      · subst c1; rw [hat] at hx'; cases hx'; exact of_trn e
      · exact hall j x (by omega) hx'
    · obtain ⟨j, hj⟩ := List.mem_iff_getElem?.1 hx'
      have := (List.getElem?_eq_some_iff.1 hj).1
      exact hall j x (by omega) hj
  refine vc_mp (by kernel_rfl : (∃ (i : Nat), Value.slice a (List.length xs) c = Value.slice a (List.length xs) c ∧ Value.func (Fn.func (91 : FuncId)) (Array.mk []) (Array.mk [Value.pointer (some (Addr.mk lo (0 : Nat) (some (0 : Nat))))]) = Value.func (Fn.func (91 : FuncId)) (Array.mk []) (Array.mk [Value.pointer (some (Addr.mk lo (0 : Nat) (some (0 : Nat))))]) ∧ Value.int IntKind.i64 (↑(List.length xs) : Int) = Value.int IntKind.i64 (↑(List.length xs) : Int) ∧ Value.int IntKind.i64 (0 : Int) = Value.int IntKind.i64 (↑i : Int) ∧ h = h ∧ (i ≤ List.length xs ∧ ∀ (j : Nat) (x : Sh.T heardSh), j < i → xs[j]? = some x → ¬Prod.snd x = u) ∧ (∀ (j : Unit), (∀ (x : Sh.T heardSh), x ∈ xs → ¬Prod.snd x = u) → Q (Value.int IntKind.i64 (-1 : Int)) h) ∧ ∀ (v : Value) (h_1 : AHeap), (h_1 = h ∧ ∃ (r : Int), v = Value.int IntKind.i64 r ∧ (0 : Int) ≤ r ∧ ∃ (x : Sh.T heardSh), x ∈ xs ∧ Prod.snd x = u) → Q v h_1) = _) ?_
  exact ⟨(0 : Nat), rfl, rfl, rfl, rfl, rfl, ⟨Nat.zero_le _, fun j x hj => absurd hj (Nat.not_lt_zero _)⟩, fun _ hall => HQ _ _ ⟨rfl, _, rfl, fun h => absurd h (by decide), fun ⟨x, h1, h2⟩ => absurd h2 (hall x h1)⟩, fun _ _ ⟨e, r, e1, e2, e3⟩ => HQ _ _ ⟨e, r, e1, fun _ => e3, fun _ => e2⟩⟩
theorem containsHeard_spec (h : AHeap) (a : Option Addr) (c lo : Nat) (xs : List heardSh.T) (u : ByteArray) (p q : Value) (hx : Sl h heardSh xs (.slice a xs.length c)) (hn : xs.length ≤ 1048576) (hd : h.ld lo 0 0 3 = some [p, q, .string u]) :
    ACall Try.prog 90 [.slice a xs.length c, .func (.func 91) #[] #[.pointer (some ⟨lo, 0, some 0⟩)]] h (.bool (tr (∃ x ∈ xs, (show ByteArray from x.2) = u))) h := by
  obtain ⟨_, h0, hA, e0, r, rfl, hr⟩ := indexHeard_spec h a c lo xs u p q hx hn hd
  rw [e0] at hA
  clear e0
  refine acall_out (acall_vc (fun _ => false) (fun _ => []) (fun _ => .none) mixed Try.func90 rfl rfl rfl (Nat.le_of_ble_eq_true rfl) (by refine vc_mp (by kernel_rfl : (True ∧ True ∧ True) = _) ?_; simp only [and_self]) ?_)
  refine vc_mp (by kernel_rfl : (∃ (x : Int), ∃ (h' : AHeap), ACall Try.prog (146 : Nat) [Value.slice a (List.length xs) c, Value.func (Fn.func (91 : FuncId)) (Array.mk []) (Array.mk [Value.pointer (some (Addr.mk lo (0 : Nat) (some (0 : Nat))))])] h (Value.int IntKind.i64 x) h' ∧ Value.bool (decide (x ≥ (0 : Int))) = Value.bool (tr (∃ (x : Sh.T heardSh), x ∈ xs ∧ Prod.snd x = u)) ∧ h' = h) = _) ?_
  refine ⟨_, _, hA, congrArg _ ?_, rfl⟩
  rw [tr_dec]
  exact tr_congr hr
theorem xiClientHear (h : AHeap) (hw : h.wf) (x : clientSh.T) (v1 : Value) (h1 : Sl h heardSh x.2.2.2.1 v1) (ok : clientSh.ok x) (sm : clientSh.small x) (f : Int) (_ : -9223372036854775808 ≤ f ∧ f ≤ 9223372036854775807) (r : replySh.T) (okr : replySh.ok r) (_ : replySh.small r) :
    ∃ v h', ACall Try.prog 24 [.agg #[.int .i64 x.1, .int .i64 x.2.1, .bool x.2.2.1, v1, .string x.2.2.2.2], .int .i64 f, .agg #[.int .i64 r.1, .int .i64 r.2.1, .string r.2.2]] h v h' ∧ h.Le h' ∧ h'.wf ∧
      ∃ y j, v = .agg #[.int .i64 (clientHearM x f r).1.1, .int .i64 (clientHearM x f r).1.2.1, .bool (clientHearM x f r).1.2.2.1, y, .string (clientHearM x f r).1.2.2.2.2, .string (clientHearM x f r).2.1, .int .i64 (clientHearM x f r).2.2] ∧ So h' heardSh (clientHearM x f r).1.2.2.2.1 y j ∧ Fresh h.n h'.n j := by
  obtain ⟨(id : Int), (number : Int), (asked : Bool), (hs : List heardSh.T), (told : ByteArray)⟩ := x
  obtain ⟨(rc : Int), (rn : Int), (rt : ByteArray)⟩ := r
  dsimp only at *
  obtain ⟨a, c, rfl⟩ := h1.isSlice
  have n1 : hs.length ≤ 1048576 := sm.2.2.2.1.1
  refine acall_q fun Q HQ => ?_
  obtain ⟨M, hM⟩ : ∃ M, M = clientHearM (id, number, asked, hs, told) f (rc, rn, rt) := ⟨_, rfl⟩
  rw [← hM] at HQ
  have bad : ∀ (c : Int) (g : AHeap), M = outX (0, 0, false, ⟨#[]⟩, c) → h.Le g → g.wf → Q (.agg #[.int .i64 (Int.ofNat 0), .int .i64 (Int.ofNat 0), .bool false, .slice none 0 0, .string ⟨#[]⟩, .string ⟨#[]⟩, .int .i64 c]) g := fun c g e le w => HQ _ _ ⟨le, w, _, [], by rw [e]; rfl, by rw [e]; exact Sn.nil.so, .nil⟩
  unfold clientHearM at hM
  dsimp only at hM
  refine acall_vc (fun t => t == 5 || t == 7) (fun r => match r with | 5 => [(8, 2, []), (0, 0, []), (2, 0, []), (4, 0, []), (1, 1, []), (3, 1, []), (5, 1, []), (6, 3, [8, 1, 3]), (7, 0, []), (9, 3, [])] | _ => []) (fun _ => .none) mixed Try.func24 rfl rfl rfl (Nat.le_of_ble_eq_true rfl) (by refine vc_mp (by kernel_rfl : (True ∧ (True ∧ (True ∧ True) ∧ True ∧ (True ∧ True) ∧ True) ∧ True ∧ True ∧ (True ∧ (True ∧ True) ∧ True ∧ (True ∧ True) ∧ True) ∧ True ∧ True ∧ True) = _) ?_; simp only [and_self]) ?_
  refine vc_mp (by kernel_rfl : (∃ (x : Bool), ∃ (h' : AHeap), ACall Try.prog (85 : Nat) [Value.agg (Array.mk [Value.int IntKind.i64 id, Value.int IntKind.i64 number, Value.bool asked, Value.slice a (List.length hs) c, Value.string told])] (AHeap.push h (AObj.mk [[Value.int IntKind.i64 rc, Value.int IntKind.i64 rn, Value.string rt]] (3 : Nat) true)) (Value.bool x) h' ∧ bs (!x) (Q (Value.agg (Array.mk [Value.int IntKind.i64 (Int.ofNat (0 : Nat)), Value.int IntKind.i64 (Int.ofNat (0 : Nat)), Value.bool false, Value.slice none (0 : Nat) (0 : Nat), Value.string (ByteArray.mk (Array.mk [])), Value.string (ByteArray.mk (Array.mk [])), Value.int IntKind.i64 (1 : Int)])) h') (∃ (x : Bool), ∃ (h'_1 : AHeap), ACall Try.prog (70 : Nat) [Value.int IntKind.i64 f] h' (Value.bool x) h'_1 ∧ bs (!x) (Q (Value.agg (Array.mk [Value.int IntKind.i64 (Int.ofNat (0 : Nat)), Value.int IntKind.i64 (Int.ofNat (0 : Nat)), Value.bool false, Value.slice none (0 : Nat) (0 : Nat), Value.string (ByteArray.mk (Array.mk [])), Value.string (ByteArray.mk (Array.mk [])), Value.int IntKind.i64 (1 : Int)])) h'_1) (∃ (x : ByteArray), AHeap.ld h'_1 (AHeap.n h) (0 : Nat) (2 : Nat) (1 : Nat) = some [Value.string x] ∧ bs (decide ((↑(ByteArray.size x) : Int) > (900 : Int))) (Q (Value.agg (Array.mk [Value.int IntKind.i64 (Int.ofNat (0 : Nat)), Value.int IntKind.i64 (Int.ofNat (0 : Nat)), Value.bool false, Value.slice none (0 : Nat) (0 : Nat), Value.string (ByteArray.mk (Array.mk [])), Value.string (ByteArray.mk (Array.mk [])), Value.int IntKind.i64 (1 : Int)])) h'_1) (bs (!asked) (Q (Value.agg (Array.mk [Value.int IntKind.i64 (Int.ofNat (0 : Nat)), Value.int IntKind.i64 (Int.ofNat (0 : Nat)), Value.bool false, Value.slice none (0 : Nat) (0 : Nat), Value.string (ByteArray.mk (Array.mk [])), Value.string (ByteArray.mk (Array.mk [])), Value.int IntKind.i64 (10 : Int)])) h'_1) (∃ (x : Int), AHeap.ld h'_1 (AHeap.n h) (0 : Nat) (0 : Nat) (1 : Nat) = some [Value.int IntKind.i64 x] ∧ bs (!decide (x = id)) (Q (Value.agg (Array.mk [Value.int IntKind.i64 (Int.ofNat (0 : Nat)), Value.int IntKind.i64 (Int.ofNat (0 : Nat)), Value.bool false, Value.slice none (0 : Nat) (0 : Nat), Value.string (ByteArray.mk (Array.mk [])), Value.string (ByteArray.mk (Array.mk [])), Value.int IntKind.i64 (10 : Int)])) h'_1) (∃ (x : Int), AHeap.ld h'_1 (AHeap.n h) (0 : Nat) (1 : Nat) (1 : Nat) = some [Value.int IntKind.i64 x] ∧ bs (!decide (x = number)) (Q (Value.agg (Array.mk [Value.int IntKind.i64 (Int.ofNat (0 : Nat)), Value.int IntKind.i64 (Int.ofNat (0 : Nat)), Value.bool false, Value.slice none (0 : Nat) (0 : Nat), Value.string (ByteArray.mk (Array.mk [])), Value.string (ByteArray.mk (Array.mk [])), Value.int IntKind.i64 (10 : Int)])) h'_1) (∃ (a_1 : Option Addr), ∃ (n : Nat), ∃ (c_1 : Nat), ∃ (h' : AHeap), ACall Try.prog (86 : Nat) [Value.slice a (List.length hs) c] (AHeap.push h'_1 (AObj.mk [[Value.int IntKind.i64 (Int.ofNat (0 : Nat)), Value.int IntKind.i64 (Int.ofNat (0 : Nat)), Value.bool false, Value.slice none (0 : Nat) (0 : Nat), Value.string (ByteArray.mk (Array.mk []))]] (5 : Nat) true)) (Value.slice a_1 n c_1) h' ∧ Value.int IntKind.i64 number = Value.int IntKind.i64 number ∧ Value.int IntKind.i64 id = Value.int IntKind.i64 id ∧ (AHeap.get h' (AHeap.n h'_1) = AHeap.get (AHeap.push h'_1 (AObj.mk [[Value.int IntKind.i64 (Int.ofNat (0 : Nat)), Value.int IntKind.i64 (Int.ofNat (0 : Nat)), Value.bool false, Value.slice none (0 : Nat) (0 : Nat), Value.string (ByteArray.mk (Array.mk []))]] (5 : Nat) true)) (AHeap.n h'_1) ∧ AHeap.n (AHeap.push h'_1 (AObj.mk [[Value.int IntKind.i64 (Int.ofNat (0 : Nat)), Value.int IntKind.i64 (Int.ofNat (0 : Nat)), Value.bool false, Value.slice none (0 : Nat) (0 : Nat), Value.string (ByteArray.mk (Array.mk []))]] (5 : Nat) true)) ≤ AHeap.n h') ∧ ∃ (h'_2 : AHeap), AHeap.wr h' (AHeap.n h'_1) (0 : Nat) (0 : Nat) [Value.int IntKind.i64 id, Value.int IntKind.i64 number, Value.bool true, Value.slice a_1 n c_1, Value.string (ByteArray.mk (Array.mk []))] = some h'_2 ∧ ∃ (x : Int), ∃ (x_1 : Bool), ∃ (h' : AHeap), ACall Try.prog (87 : Nat) [Value.slice a (List.length hs) c, Value.int IntKind.i64 f, Value.func (Fn.func (88 : Nat)) (Array.mk []) (Array.mk [])] h'_2 (Value.tuple (Array.mk [Value.int IntKind.i64 x, Value.bool x_1])) h' ∧ bs x_1 (Q (Value.agg (Array.mk [Value.int IntKind.i64 (Int.ofNat (0 : Nat)), Value.int IntKind.i64 (Int.ofNat (0 : Nat)), Value.bool false, Value.slice none (0 : Nat) (0 : Nat), Value.string (ByteArray.mk (Array.mk [])), Value.string (ByteArray.mk (Array.mk [])), Value.int IntKind.i64 (7 : Int)])) h') (∃ (x_2 : Bool), ∃ (h'_3 : AHeap), ACall Try.prog (90 : Nat) [Value.slice a (List.length hs) c, Value.func (Fn.func (91 : Nat)) (Array.mk []) (Array.mk [Value.pointer (some (Addr.mk (AHeap.n h) (0 : Nat) (some (0 : Nat))))])] h' (Value.bool x_2) h'_3 ∧ bs x_2 (∃ (x : ByteArray), AHeap.ld h'_3 (AHeap.n h) (0 : Nat) (2 : Nat) (1 : Nat) = some [Value.string x] ∧ Q (Value.agg (Array.mk [Value.int IntKind.i64 id, Value.int IntKind.i64 number, Value.bool false, Value.slice none (0 : Nat) (0 : Nat), Value.string x, Value.string (ByteArray.mk (Array.mk [])), Value.int IntKind.i64 (Int.ofNat (0 : Nat))])) h'_3) (∃ (a : Option Addr), ∃ (n : Nat), ∃ (c : Nat), AHeap.ld h'_3 (AHeap.n h'_1) (0 : Nat) (3 : Nat) (1 : Nat) = some [Value.slice a n c] ∧ ∃ (x_3 : ByteArray), AHeap.ld h'_3 (AHeap.n h) (0 : Nat) (2 : Nat) (1 : Nat) = some [Value.string x_3] ∧ ∃ (a_2 : Option Addr), ∃ (n_1 : Nat), ∃ (c_2 : Nat), ∃ (h' : AHeap), ACall Try.prog (92 : Nat) [Value.slice a n c, Value.int IntKind.i64 x, Value.slice (some (Addr.mk (AHeap.n h'_3) (0 : Nat) (some (2 : Nat)))) (1 : Nat) (2 : Nat)] (AHeap.push h'_3 (AObj.mk [[Value.int IntKind.i64 f, Value.string x_3]] (2 : Nat) true)) (Value.slice a_2 n_1 c_2) h' ∧ ∃ (h'_4 : AHeap), AHeap.wr h' (AHeap.n h'_1) (0 : Nat) (3 : Nat) [Value.slice a_2 n_1 c_2] = some h'_4 ∧ ∃ (x : Int), ∃ (x_4 : Int), ∃ (x_5 : Bool), ∃ (a : Option Addr), ∃ (n : Nat), ∃ (c : Nat), ∃ (x_6 : ByteArray), AHeap.ld h'_4 (AHeap.n h'_1) (0 : Nat) (0 : Nat) (5 : Nat) = some [Value.int IntKind.i64 x, Value.int IntKind.i64 x_4, Value.bool x_5, Value.slice a n c, Value.string x_6] ∧ Q (Value.agg (Array.mk [Value.int IntKind.i64 x, Value.int IntKind.i64 x_4, Value.bool x_5, Value.slice a n c, Value.string x_6, Value.string (ByteArray.mk (Array.mk [])), Value.int IntKind.i64 (Int.ofNat (0 : Nat))])) h'_4))))))))) = _) ?_
  have R0 : (h.push ⟨[[.int .i64 rc, .int .i64 rn, .string rt]], 3, true⟩).get h.n = some ⟨[[.int .i64 rc, .int .i64 rn, .string rt]], 3, true⟩ := AHeap.get_push_eq
  have l0 := AHeap.Le.push hw ⟨[[.int .i64 rc, .int .i64 rn, .string rt]], 3, true⟩
  have w0 := hw.push ⟨[[.int .i64 rc, .int .i64 rn, .string rt]], 3, true⟩
  obtain ⟨H0, hH0⟩ : ∃ H0, H0 = h.push ⟨[[.int .i64 rc, .int .i64 rn, .string rt]], 3, true⟩ := ⟨_, rfl⟩
  rw [← hH0] at R0 l0 w0 ⊢
  have hn0 : H0.n = h.n + 1 := by rw [hH0]; rfl
  have ldR : ∀ {g : AHeap}, g.get h.n = some ⟨[[.int .i64 rc, .int .i64 rn, .string rt]], 3, true⟩ → g.ld h.n 0 0 3 = some [.int .i64 rc, .int .i64 rn, .string rt] := fun e => by unfold AHeap.ld; rw [e]; rfl
  refine ⟨_, _, isClient_spec H0 id number asked a c hs told (h1.mono l0) (by omega) ok.2.2.2.2, bs_nb (fun e => bad 1 _ (by rw [hM, if_pos (fun H => of_trn e H.1)]) l0 w0) (fun e1 => ?_)⟩
  refine ⟨_, _, isReplica_spec _ _, bs_nb (fun e => bad 1 _ (by rw [hM, if_pos (fun H => inF e H.2.1)]) l0 w0) (fun e2 => ⟨_, ld_cells (k := 2) (m := 1) (ldR R0) (by simp), bs_d (fun e => bad 1 _ (by rw [hM, if_pos (fun H => by have := H.2.2; omega)]) l0 w0) (fun e3 => ?_)⟩)⟩
  rw [if_neg (fun H => H ⟨of_tr e1, inT e2, by omega⟩)] at hM
  refine bs_of (fun e => bad 10 _ (by rw [hM, if_pos (.inl (by simpa using e))]) l0 w0) (fun e4 => ⟨_, ld_cells (k := 0) (m := 1) (ldR R0) (by simp), bs_dn (fun e => bad 10 _ (by rw [hM, if_pos (.inr (.inl e))]) l0 w0) (fun e5 => ⟨_, ld_cells (k := 1) (m := 1) (ldR R0) (by simp), bs_dn (fun e => bad 10 _ (by rw [hM, if_pos (.inr (.inr e))]) l0 w0) (fun e6 => ?_)⟩)⟩)
  have e4' : asked = true := by simpa using e4
  rw [if_neg (fun H => H.elim (fun h => by rw [e4'] at h; cases h) (fun h => h.elim (fun h => h e5) (fun h => h e6)))] at hM
  obtain ⟨O, hO⟩ : ∃ O : AObj, O = ⟨[[.int .i64 (Int.ofNat 0), .int .i64 (Int.ofNat 0), .bool false, .slice none 0 0, .string ⟨#[]⟩]], 5, true⟩ := ⟨_, rfl⟩
  have w1 := w0.push O
  have l1 := AHeap.Le.push w0 O
  have O1 : (H0.push O).get H0.n = some O := AHeap.get_push_eq
  obtain ⟨_, g1, C1, a1, c1, ids1, rfl, B1⟩ := cloneHeard_spec (H0.push O) w1 a c hs (h1.mono (l0.trans l1)) n1
  have O2 := B1.le.get _ _ O1
  have wr1 : ∀ v : Value, g1.wr H0.n 0 0 [.int .i64 id, .int .i64 number, .bool true, v, .string ⟨#[]⟩] = some (g1.put H0.n (some ⟨[[.int .i64 id, .int .i64 number, .bool true, v, .string ⟨#[]⟩]], 5, true⟩)) := fun v => by
    unfold AHeap.wr; rw [O2, hO]; rfl
  rw [← hO]
  refine ⟨_, _, _, g1, C1, rfl, rfl, ⟨O2.trans O1.symm, B1.le.n⟩, _, wr1 _, ?_⟩
  obtain ⟨P1, hP1⟩ : ∃ P : AObj, P = ⟨[[.int .i64 id, .int .i64 number, .bool true, .slice a1 hs.length c1, .string ⟨#[]⟩]], 5, true⟩ := ⟨_, rfl⟩
  rw [← hP1]
  have lt1 := B1.wf.lt O2
  have w2 := B1.wf.put lt1 (some P1)
  have le2 : h.Le (g1.put H0.n (some P1)) := (l0.trans (l1.trans B1.le)).put (hw _ (by omega)) _
  have O3 : (g1.put H0.n (some P1)).get H0.n = some P1 := AHeap.get_put_eq
  have R1 : (g1.put H0.n (some P1)).get h.n = some ⟨[[.int .i64 rc, .int .i64 rn, .string rt]], 3, true⟩ := by
    rw [AHeap.get_put_ne (by omega)]
    exact (l1.trans B1.le).get _ _ R0
  have nid1 : ∀ z ∈ ids1, H0.n < z := fun z hz => by
    have h3 := (B1.fr.bd z hz).1
    have h4 : (H0.push O).n = H0.n + 1 := rfl
    omega
  obtain ⟨g2, hg2⟩ : ∃ g2, g2 = g1.put H0.n (some P1) := ⟨_, rfl⟩
  have B2 : SoB heardSh (E0 (H0.n + 1)) g2 a1 hs.length c1 hs ids1 := by
    rw [hg2]
    have Bn : SoB heardSh (E0 (H0.n + 1)) g1 a1 hs.length c1 hs ids1 := ⟨E0.le B1.le.n, B1.wf, E0.wf, B1.len, B1.fr, B1.at_⟩
    refine Bn.step (E0.le (show H0.n + 1 ≤ g1.n from B1.le.n)) w2 (Nat.le_refl _) (fun z hz o ho => ?_)
    rw [AHeap.get_put_ne (by have := nid1 z hz; omega)]; exact ho
  rw [← hg2] at w2 le2 O3 R1 ⊢
  have hcl : ClientOk id number asked hs told := of_tr e1
  have hasc := heardAsc hcl.2.2.2.2.2.2
  obtain ⟨_, gx, S1, egx, k, b, rfl, hk, hH, hb⟩ := searchHeard_spec g2 a c hs f (h1.mono le2) n1 hasc
  rw [egx] at S1
  clear egx
  have hkk : kOf hs f = k := kOf_eq hk (fun j x hj hx => (hH j x hx).1 hj) (fun x hx => (hH k x hx).2 (Nat.le_refl _))
  refine ⟨_, _, _, S1, bs_of (fun e => bad 7 _ (by rw [hM, if_pos (by rw [hkk]; exact hb.1 e)]) le2 w2) (fun e7 => ?_)⟩
  rw [if_neg (fun H => by rw [hkk] at H; rw [hb.2 H] at e7; cases e7)] at hM
  refine ⟨_, _, containsHeard_spec _ a c h.n hs rt _ _ (h1.mono le2) n1 (ldR R1), bs_b (fun e => ⟨_, ld_cells (k := 2) (m := 1) (ldR R1) (by simp), ?_⟩) (fun e => ?_)⟩
  · obtain ⟨x, hx, hx2⟩ := of_tr e
    rw [if_pos ⟨x, hx, hx2⟩] at hM
    exact HQ _ _ ⟨le2, w2, _, [], by rw [hM]; rfl, by rw [hM]; exact Sn.nil.so, .nil⟩
  · rw [if_neg (fun ⟨x, hx, hx2⟩ => of_trn e ⟨x, hx, hx2⟩)] at hM
    obtain ⟨V, hV⟩ : ∃ V : AObj, V = ⟨[[.int .i64 f, .string rt]], 2, true⟩ := ⟨_, rfl⟩
    have ldO : g2.ld H0.n 0 3 1 = some [.slice a1 hs.length c1] := by unfold AHeap.ld; rw [O3, hP1]; rfl
    have V1 : (g2.push V).get g2.n = some ⟨[[.int .i64 f, .string rt]], 2, true⟩ := by rw [← hV]; exact AHeap.get_push_eq
    have l3 := AHeap.Le.push w2 V
    obtain ⟨g4, ids4, A4, B4, hn4, keep4, hid4⟩ := insertHeard_sob (c2 := 2) (x := (f, rt)) (B2.grow l3 (w2.push V)) V1 (fun hm => by have := (B2.fr.bd _ hm).2; omega) ⟨[.int .i64 f], [.string rt], rfl, rfl, rfl⟩ hk n1
    have nH : H0.n ∉ ids1 := fun hm => by have := nid1 _ hm; omega
    have O4 : g4.get H0.n = some P1 := keep4 _ _ nH (l3.get _ _ O3)
    have le4 : h.Le g4 := ⟨Nat.le_trans (le2.trans l3).n hn4, fun z o hz => keep4 z o (fun hm => by have h3 := nid1 _ hm; have h4 := hw.lt hz; omega) ((le2.trans l3).get z o hz)⟩
    have lt4 := B4.wf.lt O4
    obtain ⟨P2, hP2⟩ : ∃ P : AObj, P = ⟨[[.int .i64 id, .int .i64 number, .bool true, .slice (some ⟨(g2.push V).n, 0, some 2⟩) (hs.length + 1) 0, .string ⟨#[]⟩]], 5, true⟩ := ⟨_, rfl⟩
    have wr4 : g4.wr H0.n 0 3 [.slice (some ⟨(g2.push V).n, 0, some 2⟩) (hs.length + 1) 0] = some (g4.put H0.n (some P2)) := by
      unfold AHeap.wr; rw [O4, hP1, hP2]; rfl
    have ld5 : (g4.put H0.n (some P2)).ld H0.n 0 0 5 = some [.int .i64 id, .int .i64 number, .bool true, .slice (some ⟨(g2.push V).n, 0, some 2⟩) (hs.length + 1) 0, .string ⟨#[]⟩] := by
      unfold AHeap.ld; rw [AHeap.get_put_eq, hP2]; rfl
    refine ⟨_, _, _, ldO, _, ld_cells (k := 2) (m := 1) (ldR R1) (by simp), ?_⟩
    show ∃ a_1 n_1 c_1 h', ACall _ _ [.slice a1 hs.length c1, .int .i64 k, .slice (some ⟨g2.n, 0, some 2⟩) 1 2] (g2.push ⟨[[.int .i64 f, .string rt]], 2, true⟩) (.slice a_1 n_1 c_1) h' ∧ _
    rw [← hV]
    refine ⟨_, _, _, g4, A4, _, wr4, _, _, _, _, _, _, _, ld5, ?_⟩
    refine HQ _ _ ⟨le4.put (hw _ (show h.n ≤ H0.n by omega)) _, B4.wf.put lt4 _, _, ids4, by rw [hM]; rfl, ?_, B4.fr.widen (show h.n ≤ H0.n + 1 by omega) (Nat.le_refl _)⟩
    rw [hM]
    show So _ heardSh (ins hs (kOf hs f) (f, rt)) _ _
    rw [hkk]
    exact (B4.sn.keep (fun z hz o ho => by
      rw [AHeap.get_put_ne (fun e => ?_)]; exact ho
      subst e
      rcases hid4 _ hz with h3 | h3
      · exact nH h3
      · have h4 : (g2.push V).n = g2.n + 1 := rfl
        have h5 := w2.lt O3
        omega)).so
end Go.Proofs.Ytanienlcebkijaa
end
section
namespace Go.Dat
open Go.Abs
end Go.Dat
end
section
namespace Go.Abs
end Go.Abs
namespace Go.Proofs.Ytanienlcebkijaa
open Go.Abs Go.Dat
set_option maxRecDepth 100000
set_option maxHeartbeats 4000000
end Go.Proofs.Ytanienlcebkijaa
end
section
namespace Go.Dat
open Go.Abs
theorem ok_zero : Sh.int.ok (0 : Int) := ⟨by decide, by decide⟩
theorem ok_nil {s : Sh} : (Sh.sl s).ok [] := ⟨Nat.zero_le _, fun x hx => absurd hx List.not_mem_nil⟩
end Go.Dat
namespace Go.Proofs.Ytanienlcebkijaa
open Go.Abs Go.Dat
set_option maxRecDepth 100000
set_option maxHeartbeats 4000000
end Go.Proofs.Ytanienlcebkijaa
end
section
namespace Go.Dat
open Go.Abs
theorem outX_ok (c : Int) (hc : -9223372036854775808 ≤ c ∧ c ≤ 9223372036854775807) : clientOutSh.ok (outX (0, 0, false, ⟨#[]⟩, c)) := ⟨⟨ok_zero, ok_zero, trivial, ok_nil, Nat.zero_le _⟩, Nat.zero_le _, hc⟩
theorem clientHearM_cases (x : clientSh.T) (f : Int) (r : replySh.T) : (∃ c : Int, 1 ≤ c ∧ c ≤ 10 ∧ clientHearM x f r = outX (0, 0, false, ⟨#[]⟩, c)) ∨
    clientHearM x f r = ((x.1, x.2.1, false, [], r.2.2), ⟨#[]⟩, 0) ∨ clientHearM x f r = ((x.1, x.2.1, true, ins x.2.2.2.1 (kOf x.2.2.2.1 f) (f, r.2.2), ⟨#[]⟩), ⟨#[]⟩, 0) := by
  unfold clientHearM
  split
  · exact .inl ⟨1, by omega, by omega, rfl⟩
  · split
    · exact .inl ⟨10, by omega, by omega, rfl⟩
    · split
      · exact .inl ⟨7, by omega, by omega, rfl⟩
      · split
        · exact .inr (.inl rfl)
        · exact .inr (.inr rfl)
theorem kOf_le (hs : List heardSh.T) (y : Int) : kOf hs y ≤ hs.length := (List.takeWhile_sublist _).length_le
theorem clientHearM_ok (x : clientSh.T) (ok : clientSh.ok x) (sm : clientSh.small x) (f : Int) (bf : -9223372036854775808 ≤ f ∧ f ≤ 9223372036854775807) (r : replySh.T) (okr : replySh.ok r) (_ : replySh.small r) : clientOutSh.ok (clientHearM x f r) := by
  rcases clientHearM_cases x f r with ⟨c, h1, h2, e⟩ | e | e
  · rw [e]; exact outX_ok c (by omega)
  · rw [e]; exact ⟨⟨ok.1, ok.2.1, trivial, ok_nil, okr.2.2⟩, Nat.zero_le _, ok_zero⟩
  · rw [e]
    have hl : List.length (α := heardSh.T) x.2.2.2.1 ≤ 1048576 := sm.2.2.2.1.1
    have hk := kOf_le x.2.2.2.1 f
    refine ⟨⟨ok.1, ok.2.1, trivial, ⟨?_, fun y hy => ?_⟩, Nat.zero_le _⟩, Nat.zero_le _, ok_zero⟩
    · have : (ins (α := heardSh.T) x.2.2.2.1 (kOf x.2.2.2.1 f) (f, r.2.2)).length = List.length (α := heardSh.T) x.2.2.2.1 + 1 := ins_length hk
      show (ins (α := heardSh.T) x.2.2.2.1 (kOf x.2.2.2.1 f) (f, r.2.2)).length ≤ _
      omega
    · rcases List.mem_append.1 hy with hy | hy
      · exact ok.2.2.2.1.2 y (List.mem_of_mem_take hy)
      · rcases List.mem_cons.1 hy with hy | hy
        · rw [hy]; exact ⟨bf, okr.2.2⟩
        · exact ok.2.2.2.1.2 y (List.mem_of_mem_drop hy)
end Go.Dat
end
