/- Contracts: topics that are right, in the program: the whole. -/
import Derived.Test.YtdcijleeoihlfaaV8F3
namespace Go.Proofs.Ytdcijleeoihlfaa
open Go.Abs Go.Dat
set_option maxRecDepth 100000
set_option maxHeartbeats 4000000
def itL (name : ByteArray) (base : Int) (held : List Sh.str.T) (gs : List groupSh.T) (l : Nat) (a2 : Option Addr) (c2 : Nat) (h : AHeap) : LSpec where
  ι := Nat
  κ := Unit
  I := fun i => (0 ≤ base ∧ base ≤ 1000000000 ∧ held.length ≤ 20 ∧ gs.length ≤ 4) ∧ i ≤ gs.length ∧ ∀ j, j < i → GrpOk gs base (base + held.length) j
  μ := fun i => gs.length - i
  head := fun i => ⟨[(1, .pointer (some ⟨l, 0, some 0⟩)), (32, .slice a2 gs.length c2), (33, .int .i64 gs.length), (34, .int .i64 i)], [], h⟩
  post := fun _ => ⟨[(1, .pointer (some ⟨l, 0, some 0⟩))], [], h⟩
  R := fun _ _ => ∀ j, j < gs.length → GrpOk gs base (base + held.length) j
  ret := fun _ v h' => v = .bool false ∧ h' = h ∧ ∃ j, j < gs.length ∧ ¬ GrpOk gs base (base + held.length) j
theorem isTopic_spec (h : AHeap) (hw : h.wf) (name : ByteArray) (base : Int) (held : List Sh.str.T) (gs : List groupSh.T) (a1 : Option Addr) (c1 : Nat) (a2 : Option Addr) (c2 : Nat)
    (h1 : Sl h Sh.str held (.slice a1 held.length c1)) (h2 : Sl h groupSh gs (.slice a2 gs.length c2)) (ok : topicSh.ok (name, base, held, gs)) :
    ∃ v h', ACall Try.prog 128 [.agg #[.string name, .int .i64 base, .slice a1 held.length c1, .slice a2 gs.length c2]] h v h' ∧ h.Le h' ∧ h'.wf ∧ v = .bool (tr (TopicOk name base held gs)) := by
  obtain ⟨o1, o2, o3, o4⟩ := ok
  have o1 : name.size ≤ 9223372036854775807 := o1
  have le := AHeap.Le.push hw ⟨[[.string name, .int .i64 base, .slice a1 held.length c1, .slice a2 gs.length c2]], 4, true⟩
  have w2 := hw.push ⟨[[.string name, .int .i64 base, .slice a1 held.length c1, .slice a2 gs.length c2]], 4, true⟩
  have ld : (h.push ⟨[[.string name, .int .i64 base, .slice a1 held.length c1, .slice a2 gs.length c2]], 4, true⟩).ld h.n 0 0 4 = some [.string name, .int .i64 base, .slice a1 held.length c1, .slice a2 gs.length c2] := by
    unfold AHeap.ld; rw [AHeap.get_push_eq]; rfl
  have h1 := h1.mono le
  have h2 := h2.mono le
  refine acall_q fun Q HQ => ?_
  refine acall_vc (fun t => t == 1) (fun r => match r with | 6 => [(0, 0, []), (1, 1, []), (2, 3, []), (3, 0, []), (4, 0, []), (5, 0, []), (6, 0, []), (7, 0, []), (8, 0, []), (10, 0, []), (11, 0, []), (15, 0, []), (9, 1, []), (12, 0, []), (13, 0, []), (14, 1, []), (16, 1, []), (17, 0, []), (18, 0, []), (19, 0, []), (20, 0, []), (21, 0, []), (23, 0, []), (22, 1, []), (24, 1, []), (25, 3, [22, 24]), (26, 3, []), (27, 0, []), (28, 0, [])] | _ => []) (fun _ => itL name base held gs h.n a2 c2 (h.push ⟨[[.string name, .int .i64 base, .slice a1 held.length c1, .slice a2 gs.length c2]], 4, true⟩)) mixed Try.func128 rfl rfl rfl (Nat.le_of_ble_eq_true rfl) ?_ ?_
  · generalize hg : h.push ⟨[[.string name, .int .i64 base, .slice a1 held.length c1, .slice a2 gs.length c2]], 4, true⟩ = g at *
    refine vc_mp (by kernel_rfl : (True ∧ (True ∧ (True ∧ True) ∧ True) ∧ (True ∧ (∀ (i : Nat), (((0 : Int) ≤ base ∧ base ≤ (1000000000 : Int) ∧ List.length held ≤ (20 : Nat) ∧ List.length gs ≤ (4 : Nat)) ∧ i ≤ List.length gs ∧ ∀ (j : Nat), j < i → GrpOk gs base (base + (↑(List.length held) : Int)) j) → bs (decide ((↑i : Int) < (↑(List.length gs) : Int))) (∃ (l : Nat), ∃ (r : Nat), a2 = some (Addr.mk l r (some (2 : Nat))) ∧ (0 : Int) ≤ (↑i : Int) ∧ (↑i : Int) < (↑(List.length gs) : Int) ∧ ∃ (x : ByteArray), ∃ (x_1 : Int), AHeap.ld g l (r + Int.toNat (↑i : Int)) (0 : Nat) (2 : Nat) = some [Value.string x, Value.int IntKind.i64 x_1] ∧ ∃ (x_2 : Bool), ∃ (h' : AHeap), ACall Try.prog (163 : Nat) [Value.string x] g (Value.bool x_2) h' ∧ bs (!x_2) (Value.bool false = Value.bool false ∧ h' = g ∧ ∃ (j : Nat), j < List.length gs ∧ ¬GrpOk gs base (base + (↑(List.length held) : Int)) j) (bs (decide ((↑i : Int) > (0 : Int))) (∃ (a : Option Addr), ∃ (n : Nat), ∃ (c : Nat), AHeap.ld h' (AHeap.n h) (0 : Nat) (3 : Nat) (1 : Nat) = some [Value.slice a n c] ∧ ∃ (l : Nat), ∃ (r : Nat), a = some (Addr.mk l r (some (2 : Nat))) ∧ (0 : Int) ≤ IntKind.wrap IntKind.i64 ((↑i : Int) - (1 : Int)) ∧ IntKind.wrap IntKind.i64 ((↑i : Int) - (1 : Int)) < (↑n : Int) ∧ ∃ (x_3 : ByteArray), AHeap.ld h' l (r + Int.toNat (IntKind.wrap IntKind.i64 ((↑i : Int) - (1 : Int)))) (0 : Nat) (1 : Nat) = some [Value.string x_3] ∧ bs (!Op.bytesLess (ByteArray.toList x_3) (ByteArray.toList x)) (Value.bool false = Value.bool false ∧ h' = g ∧ ∃ (j : Nat), j < List.length gs ∧ ¬GrpOk gs base (base + (↑(List.length held) : Int)) j) (∃ (x : Int), AHeap.ld h' (AHeap.n h) (0 : Nat) (1 : Nat) (1 : Nat) = some [Value.int IntKind.i64 x] ∧ ∃ (x_4 : Int), ∃ (h'_1 : AHeap), ACall Try.prog (164 : Nat) [Value.pointer (some (Addr.mk (AHeap.n h) (0 : Nat) (some (0 : Nat))))] h' (Value.int IntKind.i64 x_4) h'_1 ∧ (∃ (x_5 : Int), AHeap.ld h'_1 (AHeap.n h) (0 : Nat) (1 : Nat) (1 : Nat) = some [Value.int IntKind.i64 x_5] ∧ Value.int IntKind.i64 x_5 = Value.int IntKind.i64 x) ∧ Value.int IntKind.i64 x_1 = Value.int IntKind.i64 x_1 ∧ ∃ (x_5 : Bool), ∃ (h' : AHeap), ACall Try.prog (93 : Nat) [Value.int IntKind.i64 x_1, Value.int IntKind.i64 x, Value.int IntKind.i64 x_4] h'_1 (Value.bool x_5) h' ∧ bs (!x_5) (Value.bool false = Value.bool false ∧ h' = g ∧ ∃ (j : Nat), j < List.length gs ∧ ¬GrpOk gs base (base + (↑(List.length held) : Int)) j) (∃ (j : Nat), Value.pointer (some (Addr.mk (AHeap.n h) (0 : Nat) (some (0 : Nat)))) = Value.pointer (some (Addr.mk (AHeap.n h) (0 : Nat) (some (0 : Nat)))) ∧ Value.slice a2 (List.length gs) c2 = Value.slice a2 (List.length gs) c2 ∧ Value.int IntKind.i64 (↑(List.length gs) : Int) = Value.int IntKind.i64 (↑(List.length gs) : Int) ∧ Value.int IntKind.i64 (IntKind.wrap IntKind.i64 ((↑i : Int) + (1 : Int))) = Value.int IntKind.i64 (↑j : Int) ∧ g = h' ∧ (((0 : Int) ≤ base ∧ base ≤ (1000000000 : Int) ∧ List.length held ≤ (20 : Nat) ∧ List.length gs ≤ (4 : Nat)) ∧ j ≤ List.length gs ∧ ∀ (j_1 : Nat), j_1 < j → GrpOk gs base (base + (↑(List.length held) : Int)) j_1) ∧ List.length gs - j < List.length gs - i ∧ (∀ (k : Unit), (∀ (j : Nat), j < List.length gs → GrpOk gs base (base + (↑(List.length held) : Int)) j) → ∀ (j : Nat), j < List.length gs → GrpOk gs base (base + (↑(List.length held) : Int)) j) ∧ ∀ (v : Value) (h : AHeap), (v = Value.bool false ∧ h = g ∧ ∃ (j : Nat), j < List.length gs ∧ ¬GrpOk gs base (base + (↑(List.length held) : Int)) j) → v = Value.bool false ∧ h = g ∧ ∃ (j : Nat), j < List.length gs ∧ ¬GrpOk gs base (base + (↑(List.length held) : Int)) j))) (∃ (x : Int), AHeap.ld h' (AHeap.n h) (0 : Nat) (1 : Nat) (1 : Nat) = some [Value.int IntKind.i64 x] ∧ ∃ (x_3 : Int), ∃ (h'_1 : AHeap), ACall Try.prog (164 : Nat) [Value.pointer (some (Addr.mk (AHeap.n h) (0 : Nat) (some (0 : Nat))))] h' (Value.int IntKind.i64 x_3) h'_1 ∧ (∃ (x_4 : Int), AHeap.ld h'_1 (AHeap.n h) (0 : Nat) (1 : Nat) (1 : Nat) = some [Value.int IntKind.i64 x_4] ∧ Value.int IntKind.i64 x_4 = Value.int IntKind.i64 x) ∧ Value.int IntKind.i64 x_1 = Value.int IntKind.i64 x_1 ∧ ∃ (x_4 : Bool), ∃ (h' : AHeap), ACall Try.prog (93 : Nat) [Value.int IntKind.i64 x_1, Value.int IntKind.i64 x, Value.int IntKind.i64 x_3] h'_1 (Value.bool x_4) h' ∧ bs (!x_4) (Value.bool false = Value.bool false ∧ h' = g ∧ ∃ (j : Nat), j < List.length gs ∧ ¬GrpOk gs base (base + (↑(List.length held) : Int)) j) (∃ (j : Nat), Value.pointer (some (Addr.mk (AHeap.n h) (0 : Nat) (some (0 : Nat)))) = Value.pointer (some (Addr.mk (AHeap.n h) (0 : Nat) (some (0 : Nat)))) ∧ Value.slice a2 (List.length gs) c2 = Value.slice a2 (List.length gs) c2 ∧ Value.int IntKind.i64 (↑(List.length gs) : Int) = Value.int IntKind.i64 (↑(List.length gs) : Int) ∧ Value.int IntKind.i64 (IntKind.wrap IntKind.i64 ((↑i : Int) + (1 : Int))) = Value.int IntKind.i64 (↑j : Int) ∧ g = h' ∧ (((0 : Int) ≤ base ∧ base ≤ (1000000000 : Int) ∧ List.length held ≤ (20 : Nat) ∧ List.length gs ≤ (4 : Nat)) ∧ j ≤ List.length gs ∧ ∀ (j_1 : Nat), j_1 < j → GrpOk gs base (base + (↑(List.length held) : Int)) j_1) ∧ List.length gs - j < List.length gs - i ∧ (∀ (k : Unit), (∀ (j : Nat), j < List.length gs → GrpOk gs base (base + (↑(List.length held) : Int)) j) → ∀ (j : Nat), j < List.length gs → GrpOk gs base (base + (↑(List.length held) : Int)) j) ∧ ∀ (v : Value) (h : AHeap), (v = Value.bool false ∧ h = g ∧ ∃ (j : Nat), j < List.length gs ∧ ¬GrpOk gs base (base + (↑(List.length held) : Int)) j) → v = Value.bool false ∧ h = g ∧ ∃ (j : Nat), j < List.length gs ∧ ¬GrpOk gs base (base + (↑(List.length held) : Int)) j)))) (∃ (j : Unit), Value.pointer (some (Addr.mk (AHeap.n h) (0 : Nat) (some (0 : Nat)))) = Value.pointer (some (Addr.mk (AHeap.n h) (0 : Nat) (some (0 : Nat)))) ∧ g = g ∧ ∀ (j : Nat), j < List.length gs → GrpOk gs base (base + (↑(List.length held) : Int)) j)) ∧ True ∧ (True ∧ True) ∧ (True ∧ True ∧ (True ∧ True) ∧ True) ∧ True) ∧ True ∧ True) = _) ?_
    simp only [true_and, and_true]
    rintro (i : Nat) ⟨hb, hi, hall⟩
    refine bs_d (fun hlt => ?_) (fun hge => ⟨(), fun j hj => hall j (by omega)⟩)
    have hio : i < gs.length := by omega
    obtain ⟨⟨n, k⟩, hat⟩ : ∃ y : ByteArray × Int, gs[i]? = some y := ⟨_, List.getElem?_eq_getElem hio⟩
    obtain ⟨l, r, row, ha, _, hrd, hld⟩ := h2.elem hat
    obtain rfl := rd_group.1 hrd
    dsimp only at hld
    have on : n.size ≤ 9223372036854775807 := (o4.2 (n, k) (List.mem_of_getElem? hat)).1
    have step : GrpOk gs base (base + held.length) i → ∀ j, j < i + 1 → GrpOk gs base (base + held.length) j := fun hc j hj => by
      rcases Nat.lt_succ_iff_lt_or_eq.1 hj with hj | rfl
      · exact hall j hj
      · exact hc
    have en := topicEnd_spec g h.n 0 name base a1 held.length c1 (.slice a2 gs.length c2) ⟨hb.1, hb.2.1⟩ (by omega) ld
    have lb := ld_cells (k := 1) (m := 1) ld (by simp)
    have lg := ld_cells (k := 3) (m := 1) ld (by simp)
    refine ⟨l, r, ha, Int.natCast_nonneg _, hlt, _, _, hld, _, _, isName_spec g n on, bs_nb (fun e => ⟨rfl, i, hio, fun H => of_trn e (H.out hat).1⟩) (fun e1 => bs_d (fun hpos => ?_) (fun hpos => ?_))⟩
    · have e3 : IntKind.i64.wrap ((i : Int) - 1) = ((i - 1 : Nat) : Int) := by rw [wrap_i64 (by omega)]; omega
      rw [e3]
      obtain ⟨⟨m, q⟩, hat2⟩ : ∃ y : ByteArray × Int, gs[i - 1]? = some y := ⟨_, List.getElem?_eq_getElem (by omega)⟩
      obtain ⟨l', r', row', ha', _, hrd', hld'⟩ := h2.elem hat2
      obtain rfl := rd_group.1 hrd'
      dsimp only at hld'
      refine ⟨_, _, _, lg, l', r', ha', Int.natCast_nonneg _, by omega, _, ld_cells (k := 0) (m := 1) hld' (by simp), bs_nb (fun e => ⟨rfl, i, hio, fun H => ?_⟩) (fun e2 => ?_)⟩
      · have := (H.out hat).2.2.2 m q (by omega) hat2
        rw [this] at e; cases e
      refine ⟨_, lb, _, _, en, ⟨_, lb, rfl⟩, _, _, within_spec _ _ _ _, bs_nb (fun e => ⟨rfl, i, hio, fun H => ?_⟩) (fun e3 => ?_)⟩
      · have := H.out hat; simp [this.2.1, this.2.2.1] at e
      · exact ⟨i + 1, by rw [wrap_i64 (by omega)]; rfl, rfl, ⟨hb, by omega, step (.mk1 hat (of_tr e1) (by simpa using e3) hat2 e2)⟩, by omega, fun _ h => h, fun _ _ h => h⟩
    · refine ⟨_, lb, _, _, en, ⟨_, lb, rfl⟩, _, _, within_spec _ _ _ _, bs_nb (fun e => ⟨rfl, i, hio, fun H => ?_⟩) (fun e3 => ?_)⟩
      · have := H.out hat; simp [this.2.1, this.2.2.1] at e
      · exact ⟨i + 1, by rw [wrap_i64 (by omega)]; rfl, rfl, ⟨hb, by omega, step (.mk0 hat (of_tr e1) (by simpa using e3) (by omega))⟩, by omega, fun _ h => h, fun _ _ h => h⟩
  refine vc_mp (by kernel_rfl : (∃ (x : ByteArray), AHeap.ld (AHeap.push h (AObj.mk [[Value.string name, Value.int IntKind.i64 base, Value.slice a1 (List.length held) c1, Value.slice a2 (List.length gs) c2]] (4 : Nat) true)) (AHeap.n h) (0 : Nat) (0 : Nat) (1 : Nat) = some [Value.string x] ∧ ∃ (x_1 : Bool), ∃ (h' : AHeap), ACall Try.prog (163 : Nat) [Value.string x] (AHeap.push h (AObj.mk [[Value.string name, Value.int IntKind.i64 base, Value.slice a1 (List.length held) c1, Value.slice a2 (List.length gs) c2]] (4 : Nat) true)) (Value.bool x_1) h' ∧ bs (!x_1) (Q (Value.bool false) h') (∃ (x : Int), AHeap.ld h' (AHeap.n h) (0 : Nat) (1 : Nat) (1 : Nat) = some [Value.int IntKind.i64 x] ∧ ∃ (x_2 : Bool), ∃ (h'_1 : AHeap), ACall Try.prog (76 : Nat) [Value.int IntKind.i64 x] h' (Value.bool x_2) h'_1 ∧ bs (!x_2) (Q (Value.bool false) h'_1) (∃ (a : Option Addr), ∃ (n : Nat), ∃ (c : Nat), AHeap.ld h'_1 (AHeap.n h) (0 : Nat) (2 : Nat) (1 : Nat) = some [Value.slice a n c] ∧ bs (decide ((↑n : Int) > (20 : Int))) (Q (Value.bool false) h'_1) (∃ (x : Int), ∃ (h' : AHeap), ACall Try.prog (164 : Nat) [Value.pointer (some (Addr.mk (AHeap.n h) (0 : Nat) (some (0 : Nat))))] h'_1 (Value.int IntKind.i64 x) h' ∧ bs (decide (x > (1000000000 : Int))) (Q (Value.bool false) h') (∃ (a : Option Addr), ∃ (n : Nat), ∃ (c : Nat), AHeap.ld h' (AHeap.n h) (0 : Nat) (3 : Nat) (1 : Nat) = some [Value.slice a n c] ∧ bs (decide ((↑n : Int) > (4 : Int))) (Q (Value.bool false) h') (∃ (a : Option Addr), ∃ (n : Nat), ∃ (c : Nat), AHeap.ld h' (AHeap.n h) (0 : Nat) (3 : Nat) (1 : Nat) = some [Value.slice a n c] ∧ ∃ (i : Nat), Value.pointer (some (Addr.mk (AHeap.n h) (0 : Nat) (some (0 : Nat)))) = Value.pointer (some (Addr.mk (AHeap.n h) (0 : Nat) (some (0 : Nat)))) ∧ Value.slice a n c = Value.slice a2 (List.length gs) c2 ∧ Value.int IntKind.i64 (↑n : Int) = Value.int IntKind.i64 (↑(List.length gs) : Int) ∧ Value.int IntKind.i64 (0 : Int) = Value.int IntKind.i64 (↑i : Int) ∧ AHeap.push h (AObj.mk [[Value.string name, Value.int IntKind.i64 base, Value.slice a1 (List.length held) c1, Value.slice a2 (List.length gs) c2]] (4 : Nat) true) = h' ∧ (((0 : Int) ≤ base ∧ base ≤ (1000000000 : Int) ∧ List.length held ≤ (20 : Nat) ∧ List.length gs ≤ (4 : Nat)) ∧ i ≤ List.length gs ∧ ∀ (j : Nat), j < i → GrpOk gs base (base + (↑(List.length held) : Int)) j) ∧ (∀ (j : Unit), (∀ (j : Nat), j < List.length gs → GrpOk gs base (base + (↑(List.length held) : Int)) j) → ∃ (a : Option Addr), ∃ (n : Nat), ∃ (c : Nat), AHeap.ld (AHeap.push h (AObj.mk [[Value.string name, Value.int IntKind.i64 base, Value.slice a1 (List.length held) c1, Value.slice a2 (List.length gs) c2]] (4 : Nat) true)) (AHeap.n h) (0 : Nat) (2 : Nat) (1 : Nat) = some [Value.slice a n c] ∧ ∃ (x : Bool), ∃ (h' : AHeap), ACall Try.prog (107 : Nat) [Value.slice a n c, Value.func (Fn.func (165 : Nat)) (Array.mk []) (Array.mk [])] (AHeap.push h (AObj.mk [[Value.string name, Value.int IntKind.i64 base, Value.slice a1 (List.length held) c1, Value.slice a2 (List.length gs) c2]] (4 : Nat) true)) (Value.bool x) h' ∧ Q (Value.bool !x) h') ∧ ∀ (v : Value) (h_1 : AHeap), (v = Value.bool false ∧ h_1 = AHeap.push h (AObj.mk [[Value.string name, Value.int IntKind.i64 base, Value.slice a1 (List.length held) c1, Value.slice a2 (List.length gs) c2]] (4 : Nat) true) ∧ ∃ (j : Nat), j < List.length gs ∧ ¬GrpOk gs base (base + (↑(List.length held) : Int)) j) → Q v h_1)))))) = _) ?_
  generalize hg : h.push ⟨[[.string name, .int .i64 base, .slice a1 held.length c1, .slice a2 gs.length c2]], 4, true⟩ = g at *
  have l0 := ld_cells (k := 0) (m := 1) ld (by simp)
  have lb := ld_cells (k := 1) (m := 1) ld (by simp)
  have lh := ld_cells (k := 2) (m := 1) ld (by simp)
  have lg := ld_cells (k := 3) (m := 1) ld (by simp)
  have bad : ∀ {v : Value}, ¬ TopicOk name base held gs → v = .bool false → Q v g := fun hn e => HQ _ _ ⟨le, w2, e.trans (congrArg _ (tr_false hn))⟩
  refine ⟨_, l0, _, _, isName_spec g name o1, ?_⟩
  refine bs_nb (fun e => bad (fun H => of_trn e H.1) rfl) (fun e1 => ?_)
  refine ⟨_, lb, _, _, isTime_spec base g, bs_nb (fun e => bad (fun H => by simp [H.2.1] at e) rfl) (fun e2 => ?_)⟩
  simp only [Bool.and_eq_true, decide_eq_true_eq] at e2
  refine ⟨_, _, _, lh, bs_d (fun e => bad (fun H => by have := H.2.2.1; omega) rfl) (fun e3 => ?_)⟩
  refine ⟨_, _, topicEnd_spec g h.n 0 name base a1 held.length c1 (.slice a2 gs.length c2) e2 (by omega) ld, bs_d (fun e => bad (fun H => by have := H.2.2.2.2.1; omega) rfl) (fun e4 => ?_)⟩
  refine ⟨_, _, _, lg, bs_d (fun e => bad (fun H => by have := H.2.2.2.1; omega) rfl) (fun e5 => ?_)⟩
  refine ⟨_, _, _, lg, (0 : Nat), rfl, rfl, rfl, rfl, rfl, ⟨by omega, Nat.zero_le _, fun j hj => absurd hj (Nat.not_lt_zero _)⟩, fun _ hall => ?_, fun v h1 ⟨e1, e2, j, hj, hn⟩ => by subst e2; exact bad (fun H => hn (H.2.2.2.2.2.2 j hj)) e1⟩
  have cs := containsStr_spec g a1 held.length c1 held h1 o3.1
  refine ⟨_, _, _, lh, _, _, cs, HQ _ _ ⟨le, w2, congrArg _ ?_⟩⟩
  by_cases X : ∃ (j : Nat) (t : ByteArray), held[j]? = some t ∧ ¬ MsgOk t
  · rw [← tr_true X]
    obtain ⟨j, t, hj, ht⟩ := X
    exact tr_false fun H => ht ((H.2.2.2.2.2.1 j (List.getElem?_eq_some_iff.1 hj).1).out hj)
  · rw [← tr_false X]
    refine tr_true ⟨of_tr e1, e2, by omega, by omega, by omega, fun j hj => ?_, hall⟩
    refine ⟨held[j], List.getElem?_eq_getElem hj, Classical.byContradiction fun hn => X ⟨j, held[j], List.getElem?_eq_getElem hj, hn⟩⟩
end Go.Proofs.Ytdcijleeoihlfaa
