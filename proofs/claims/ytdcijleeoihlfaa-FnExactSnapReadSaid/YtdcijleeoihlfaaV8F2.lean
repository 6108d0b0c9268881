/- Contracts: topics that are right, in the reference. -/
import Derived.Test.YtdcijleeoihlfaaV8F1
namespace Go.Dat
open Go.Abs
def HeldOk (hs : List Sh.str.T) (i : Nat) : Prop := ∃ t : ByteArray, hs[i]? = some t ∧ MsgOk t
def GrpOk (gs : List groupSh.T) (lo hi : Int) (i : Nat) : Prop := ∃ (n : ByteArray) (k : Int), gs[i]? = some (n, k) ∧ NameOk n ∧ (lo ≤ k ∧ k ≤ hi) ∧ ∀ j, i = j + 1 → ∃ (m : ByteArray) (l : Int), gs[j]? = some (m, l) ∧ Op.bytesLess m.toList n.toList = true
def TopicOk (name : ByteArray) (base : Int) (held : List Sh.str.T) (gs : List groupSh.T) : Prop :=
  NameOk name ∧ (0 ≤ base ∧ base ≤ 1000000000) ∧ held.length ≤ 20 ∧ gs.length ≤ 4 ∧ base + held.length ≤ 1000000000 ∧ (∀ i, i < held.length → HeldOk held i) ∧ ∀ i, i < gs.length → GrpOk gs base (base + held.length) i
theorem GrpOk.mk0 {gs : List groupSh.T} {lo hi k : Int} {n : ByteArray} {i : Nat} (e : gs[i]? = some (n, k)) (h1 : NameOk n) (h2 : lo ≤ k ∧ k ≤ hi) (hi0 : i = 0) : GrpOk gs lo hi i := ⟨n, k, e, h1, h2, fun j hj => by omega⟩
theorem GrpOk.mk1 {gs : List groupSh.T} {lo hi k l : Int} {n m : ByteArray} {i : Nat} (e : gs[i]? = some (n, k)) (h1 : NameOk n) (h2 : lo ≤ k ∧ k ≤ hi) (e2 : gs[i - 1]? = some (m, l)) (h3 : Op.bytesLess m.toList n.toList = true) : GrpOk gs lo hi i := ⟨n, k, e, h1, h2, fun j hj => ⟨m, l, by rw [← e2]; congr 1; omega, h3⟩⟩
theorem GrpOk.out {gs : List groupSh.T} {lo hi k : Int} {n : ByteArray} {i : Nat} (H : GrpOk gs lo hi i) (e : gs[i]? = some (n, k)) : NameOk n ∧ lo ≤ k ∧ k ≤ hi ∧ ∀ m l, 0 < i → gs[i - 1]? = some (m, l) → Op.bytesLess m.toList n.toList = true := by
  obtain ⟨n', k', e', h1, h2, h3⟩ := H
  rw [e] at e'
  cases e'
  refine ⟨h1, h2.1, h2.2, fun m l hp e2 => ?_⟩
  obtain ⟨m', l', e3, h4⟩ := h3 (i - 1) (by omega)
  rw [e2] at e3
  cases e3
  exact h4
theorem HeldOk.out {hs : List Sh.str.T} {t : ByteArray} {i : Nat} (H : HeldOk hs i) (e : hs[i]? = some t) : MsgOk t := by
  obtain ⟨t', e', h1⟩ := H
  rw [e] at e'
  cases e'
  exact h1
end Go.Dat
namespace Go.Proofs.Ytdcijleeoihlfaa
open Go.Abs Go.Dat
set_option maxRecDepth 100000
set_option maxHeartbeats 4000000
theorem l07End_spec (h : AHeap) (name : ByteArray) (base : Int) (a : Option Addr) (n c : Nat) (v : Value) (hb : 0 ≤ base ∧ base ≤ 1000000000) (hn : n ≤ 1000000000) :
    ACall Try.prog 160 [.agg #[.string name, .int .i64 base, .slice a n c, v]] h (.int .i64 (base + n)) h := by
  refine acall_out (acall_vc (fun _ => false) (fun _ => []) (fun _ => .none) mixed Try.func160 rfl rfl rfl (Nat.le_of_ble_eq_true rfl) (by refine vc_mp (by kernel_rfl : (True ∧ True ∧ True) = _) ?_; simp only [and_self]) ?_)
  refine vc_mp (by kernel_rfl : (Value.int IntKind.i64 (IntKind.wrap IntKind.i64 (base + (↑n : Int))) = Value.int IntKind.i64 (base + (↑n : Int)) ∧ h = h) = _) ?_
  rw [wrap_i64 (by omega)]
  exact ⟨rfl, rfl⟩
def trL (name : ByteArray) (base : Int) (held : List Sh.str.T) (gs : List groupSh.T) (a1 : Option Addr) (c1 : Nat) (a2 : Option Addr) (c2 : Nat) (h : AHeap) : Nat → LSpec
  | 2 => {
    ι := Nat
    κ := Unit
    I := fun i => (0 ≤ base ∧ base ≤ 1000000000 ∧ held.length ≤ 20 ∧ gs.length ≤ 4) ∧ i ≤ gs.length ∧ ∀ j, j < i → GrpOk gs base (base + held.length) j
    μ := fun i => gs.length - i
    head := fun i => ⟨[(1, .complex .f32 0 0), (4, .int .i64 i)], [[.string name, .int .i64 base, .slice a1 held.length c1, .slice a2 gs.length c2]], h⟩
    post := fun _ => ⟨[], [[.string name, .int .i64 base, .slice a1 held.length c1, .slice a2 gs.length c2]], h⟩
    R := fun _ _ => ∀ j, j < gs.length → GrpOk gs base (base + held.length) j
    ret := fun _ v h' => v = .bool false ∧ h' = h ∧ ∃ j, j < gs.length ∧ ¬ GrpOk gs base (base + held.length) j }
  | _ => {
    ι := Nat
    κ := Unit
    I := fun i => (held.length ≤ 20) ∧ i ≤ held.length ∧ ∀ j, j < i → HeldOk held j
    μ := fun i => held.length - i
    head := fun i => ⟨[(1, .complex .f32 0 0), (3, .int .i64 i)], [[.string name, .int .i64 base, .slice a1 held.length c1, .slice a2 gs.length c2]], h⟩
    post := fun _ => ⟨[(1, .complex .f32 0 0)], [[.string name, .int .i64 base, .slice a1 held.length c1, .slice a2 gs.length c2]], h⟩
    R := fun _ _ => ∀ j, j < held.length → HeldOk held j
    ret := fun _ v h' => v = .bool false ∧ h' = h ∧ ∃ j, j < held.length ∧ ¬ HeldOk held j }
theorem topicRight_spec (h : AHeap) (name : ByteArray) (base : Int) (held : List Sh.str.T) (gs : List groupSh.T) (a1 : Option Addr) (c1 : Nat) (a2 : Option Addr) (c2 : Nat)
    (h1 : Sl h Sh.str held (.slice a1 held.length c1)) (h2 : Sl h groupSh gs (.slice a2 gs.length c2)) (ok : topicSh.ok (name, base, held, gs)) :
    ACall Try.prog 125 [.agg #[.string name, .int .i64 base, .slice a1 held.length c1, .slice a2 gs.length c2]] h (.bool (tr (TopicOk name base held gs))) h := by
  obtain ⟨o1, o2, o3, o4⟩ := ok
  have o1 : name.size ≤ 9223372036854775807 := o1
  refine acall_out (acall_vc (fun _ => false) (fun r => match r with | 12 => [(0, 0, []), (1, 1, []), (2, 3, []), (3, 0, []), (4, 0, []), (5, 0, []), (6, 0, []), (7, 0, []), (8, 0, []), (10, 0, []), (11, 0, []), (15, 0, []), (9, 1, []), (12, 0, []), (13, 0, []), (14, 1, []), (16, 1, []), (17, 0, []), (18, 0, []), (19, 0, []), (20, 0, []), (21, 0, []), (23, 0, []), (22, 1, []), (24, 1, []), (25, 1, []), (26, 3, [22, 24]), (27, 3, []), (28, 0, []), (29, 0, [])] | _ => []) (trL name base held gs a1 c1 a2 c2 h) mixed Try.func125 rfl rfl rfl (Nat.le_of_ble_eq_true rfl) ?_ ?_)
  · refine vc_mp (by kernel_rfl : (True ∧ (True ∧ (True ∧ True) ∧ True) ∧ (True ∧ (∀ (i : Nat), (List.length held ≤ (20 : Nat) ∧ i ≤ List.length held ∧ ∀ (j : Nat), j < i → HeldOk held j) → bs (decide ((↑i : Int) < (↑(List.length held) : Int))) (∃ (l : Nat), ∃ (r : Nat), a1 = some (Addr.mk l r (some (1 : Nat))) ∧ (0 : Int) ≤ (↑i : Int) ∧ (↑i : Int) < (↑(List.length held) : Int) ∧ ∃ (x : ByteArray), AHeap.ld h l (r + Int.toNat (↑i : Int)) (0 : Nat) (1 : Nat) = some [Value.string x] ∧ ∃ (x_1 : Bool), ∃ (h' : AHeap), ACall Try.prog (161 : Nat) [Value.string x] h (Value.bool x_1) h' ∧ bs (!x_1) (Value.bool false = Value.bool false ∧ h' = h ∧ ∃ (j : Nat), j < List.length held ∧ ¬HeldOk held j) (∃ (j : Nat), Value.complex FloatKind.f32 (0 : Nat) (0 : Nat) = Value.complex FloatKind.f32 (0 : Nat) (0 : Nat) ∧ Value.int IntKind.i64 (IntKind.wrap IntKind.i64 ((↑i : Int) + (1 : Int))) = Value.int IntKind.i64 (↑j : Int) ∧ [Value.string name, Value.int IntKind.i64 base, Value.slice a1 (List.length held) c1, Value.slice a2 (List.length gs) c2] = [Value.string name, Value.int IntKind.i64 base, Value.slice a1 (List.length held) c1, Value.slice a2 (List.length gs) c2] ∧ h = h' ∧ (List.length held ≤ (20 : Nat) ∧ j ≤ List.length held ∧ ∀ (j_1 : Nat), j_1 < j → HeldOk held j_1) ∧ List.length held - j < List.length held - i ∧ (∀ (k : Unit), (∀ (j : Nat), j < List.length held → HeldOk held j) → ∀ (j : Nat), j < List.length held → HeldOk held j) ∧ ∀ (v : Value) (h_1 : AHeap), (v = Value.bool false ∧ h_1 = h ∧ ∃ (j : Nat), j < List.length held ∧ ¬HeldOk held j) → v = Value.bool false ∧ h_1 = h ∧ ∃ (j : Nat), j < List.length held ∧ ¬HeldOk held j)) (∃ (j : Unit), Value.complex FloatKind.f32 (0 : Nat) (0 : Nat) = Value.complex FloatKind.f32 (0 : Nat) (0 : Nat) ∧ [Value.string name, Value.int IntKind.i64 base, Value.slice a1 (List.length held) c1, Value.slice a2 (List.length gs) c2] = [Value.string name, Value.int IntKind.i64 base, Value.slice a1 (List.length held) c1, Value.slice a2 (List.length gs) c2] ∧ h = h ∧ ∀ (j : Nat), j < List.length held → HeldOk held j)) ∧ (True ∧ True ∧ True) ∧ (True ∧ (True ∧ True) ∧ True) ∧ True) ∧ (True ∧ (∀ (i : Nat), (((0 : Int) ≤ base ∧ base ≤ (1000000000 : Int) ∧ List.length held ≤ (20 : Nat) ∧ List.length gs ≤ (4 : Nat)) ∧ i ≤ List.length gs ∧ ∀ (j : Nat), j < i → GrpOk gs base (base + (↑(List.length held) : Int)) j) → bs (decide ((↑i : Int) < (↑(List.length gs) : Int))) (∃ (l : Nat), ∃ (r : Nat), a2 = some (Addr.mk l r (some (2 : Nat))) ∧ (0 : Int) ≤ (↑i : Int) ∧ (↑i : Int) < (↑(List.length gs) : Int) ∧ ∃ (x : ByteArray), ∃ (x_1 : Int), AHeap.ld h l (r + Int.toNat (↑i : Int)) (0 : Nat) (2 : Nat) = some [Value.string x, Value.int IntKind.i64 x_1] ∧ ∃ (x_2 : Bool), ∃ (h' : AHeap), ACall Try.prog (159 : Nat) [Value.string x] h (Value.bool x_2) h' ∧ bs (!x_2) (Value.bool false = Value.bool false ∧ h' = h ∧ ∃ (j : Nat), j < List.length gs ∧ ¬GrpOk gs base (base + (↑(List.length held) : Int)) j) (bs (decide ((↑i : Int) > (0 : Int))) (∃ (l : Nat), ∃ (r : Nat), a2 = some (Addr.mk l r (some (2 : Nat))) ∧ (0 : Int) ≤ IntKind.wrap IntKind.i64 ((↑i : Int) - (1 : Int)) ∧ IntKind.wrap IntKind.i64 ((↑i : Int) - (1 : Int)) < (↑(List.length gs) : Int) ∧ ∃ (x_3 : ByteArray), AHeap.ld h' l (r + Int.toNat (IntKind.wrap IntKind.i64 ((↑i : Int) - (1 : Int)))) (0 : Nat) (1 : Nat) = some [Value.string x_3] ∧ bs (!Op.bytesLess (ByteArray.toList x_3) (ByteArray.toList x)) (Value.bool false = Value.bool false ∧ h' = h ∧ ∃ (j : Nat), j < List.length gs ∧ ¬GrpOk gs base (base + (↑(List.length held) : Int)) j) (∃ (x : Int), ∃ (h'_1 : AHeap), ACall Try.prog (160 : Nat) [Value.agg (Array.mk [Value.string name, Value.int IntKind.i64 base, Value.slice a1 (List.length held) c1, Value.slice a2 (List.length gs) c2])] h' (Value.int IntKind.i64 x) h'_1 ∧ Value.int IntKind.i64 base = Value.int IntKind.i64 base ∧ Value.int IntKind.i64 x_1 = Value.int IntKind.i64 x_1 ∧ ∃ (x_4 : Bool), ∃ (h' : AHeap), ACall Try.prog (48 : Nat) [Value.int IntKind.i64 x_1, Value.int IntKind.i64 base, Value.int IntKind.i64 x] h'_1 (Value.bool x_4) h' ∧ bs (!x_4) (Value.bool false = Value.bool false ∧ h' = h ∧ ∃ (j : Nat), j < List.length gs ∧ ¬GrpOk gs base (base + (↑(List.length held) : Int)) j) (∃ (j : Nat), Value.complex FloatKind.f32 (0 : Nat) (0 : Nat) = Value.complex FloatKind.f32 (0 : Nat) (0 : Nat) ∧ Value.int IntKind.i64 (IntKind.wrap IntKind.i64 ((↑i : Int) + (1 : Int))) = Value.int IntKind.i64 (↑j : Int) ∧ [Value.string name, Value.int IntKind.i64 base, Value.slice a1 (List.length held) c1, Value.slice a2 (List.length gs) c2] = [Value.string name, Value.int IntKind.i64 base, Value.slice a1 (List.length held) c1, Value.slice a2 (List.length gs) c2] ∧ h = h' ∧ (((0 : Int) ≤ base ∧ base ≤ (1000000000 : Int) ∧ List.length held ≤ (20 : Nat) ∧ List.length gs ≤ (4 : Nat)) ∧ j ≤ List.length gs ∧ ∀ (j_1 : Nat), j_1 < j → GrpOk gs base (base + (↑(List.length held) : Int)) j_1) ∧ List.length gs - j < List.length gs - i ∧ (∀ (k : Unit), (∀ (j : Nat), j < List.length gs → GrpOk gs base (base + (↑(List.length held) : Int)) j) → ∀ (j : Nat), j < List.length gs → GrpOk gs base (base + (↑(List.length held) : Int)) j) ∧ ∀ (v : Value) (h_1 : AHeap), (v = Value.bool false ∧ h_1 = h ∧ ∃ (j : Nat), j < List.length gs ∧ ¬GrpOk gs base (base + (↑(List.length held) : Int)) j) → v = Value.bool false ∧ h_1 = h ∧ ∃ (j : Nat), j < List.length gs ∧ ¬GrpOk gs base (base + (↑(List.length held) : Int)) j))) (∃ (x : Int), ∃ (h'_1 : AHeap), ACall Try.prog (160 : Nat) [Value.agg (Array.mk [Value.string name, Value.int IntKind.i64 base, Value.slice a1 (List.length held) c1, Value.slice a2 (List.length gs) c2])] h' (Value.int IntKind.i64 x) h'_1 ∧ Value.int IntKind.i64 base = Value.int IntKind.i64 base ∧ Value.int IntKind.i64 x_1 = Value.int IntKind.i64 x_1 ∧ ∃ (x_3 : Bool), ∃ (h' : AHeap), ACall Try.prog (48 : Nat) [Value.int IntKind.i64 x_1, Value.int IntKind.i64 base, Value.int IntKind.i64 x] h'_1 (Value.bool x_3) h' ∧ bs (!x_3) (Value.bool false = Value.bool false ∧ h' = h ∧ ∃ (j : Nat), j < List.length gs ∧ ¬GrpOk gs base (base + (↑(List.length held) : Int)) j) (∃ (j : Nat), Value.complex FloatKind.f32 (0 : Nat) (0 : Nat) = Value.complex FloatKind.f32 (0 : Nat) (0 : Nat) ∧ Value.int IntKind.i64 (IntKind.wrap IntKind.i64 ((↑i : Int) + (1 : Int))) = Value.int IntKind.i64 (↑j : Int) ∧ [Value.string name, Value.int IntKind.i64 base, Value.slice a1 (List.length held) c1, Value.slice a2 (List.length gs) c2] = [Value.string name, Value.int IntKind.i64 base, Value.slice a1 (List.length held) c1, Value.slice a2 (List.length gs) c2] ∧ h = h' ∧ (((0 : Int) ≤ base ∧ base ≤ (1000000000 : Int) ∧ List.length held ≤ (20 : Nat) ∧ List.length gs ≤ (4 : Nat)) ∧ j ≤ List.length gs ∧ ∀ (j_1 : Nat), j_1 < j → GrpOk gs base (base + (↑(List.length held) : Int)) j_1) ∧ List.length gs - j < List.length gs - i ∧ (∀ (k : Unit), (∀ (j : Nat), j < List.length gs → GrpOk gs base (base + (↑(List.length held) : Int)) j) → ∀ (j : Nat), j < List.length gs → GrpOk gs base (base + (↑(List.length held) : Int)) j) ∧ ∀ (v : Value) (h_1 : AHeap), (v = Value.bool false ∧ h_1 = h ∧ ∃ (j : Nat), j < List.length gs ∧ ¬GrpOk gs base (base + (↑(List.length held) : Int)) j) → v = Value.bool false ∧ h_1 = h ∧ ∃ (j : Nat), j < List.length gs ∧ ¬GrpOk gs base (base + (↑(List.length held) : Int)) j)))) (∃ (j : Unit), [Value.string name, Value.int IntKind.i64 base, Value.slice a1 (List.length held) c1, Value.slice a2 (List.length gs) c2] = [Value.string name, Value.int IntKind.i64 base, Value.slice a1 (List.length held) c1, Value.slice a2 (List.length gs) c2] ∧ h = h ∧ ∀ (j : Nat), j < List.length gs → GrpOk gs base (base + (↑(List.length held) : Int)) j)) ∧ (True ∧ True ∧ True) ∧ (True ∧ True ∧ (True ∧ True) ∧ True) ∧ True) ∧ True ∧ True) = _) ?_
    simp only [true_and, and_true]
    refine ⟨?_, ?_⟩
    · rintro (i : Nat) ⟨hb, hi, hall⟩
      refine bs_d (fun hlt => ?_) (fun hge => ⟨(), fun j hj => hall j (by omega)⟩)
      have hio : i < held.length := by omega
      obtain ⟨t, hat⟩ : ∃ y : ByteArray, held[i]? = some y := ⟨_, List.getElem?_eq_getElem hio⟩
      obtain ⟨l, r, row, ha, _, hrd, hld⟩ := h1.elem hat
      obtain rfl : row = [.string t] := hrd
      refine ⟨l, r, ha, Int.natCast_nonneg _, hlt, _, hld, _, _, l07Text_spec _ _, bs_nb (fun e => ⟨rfl, i, hio, fun H => of_trn e (H.out hat)⟩) (fun e => ?_)⟩
      refine ⟨i + 1, by rw [wrap_i64 (by omega)]; rfl, rfl, ⟨hb, by omega, fun j hj => ?_⟩, by omega, fun _ h => h, fun _ _ h => h⟩
      rcases Nat.lt_succ_iff_lt_or_eq.1 hj with hj | rfl
      · exact hall j hj
      · exact ⟨t, hat, of_tr e⟩
    · rintro (i : Nat) ⟨hb, hi, hall⟩
      refine bs_d (fun hlt => ?_) (fun hge => ⟨(), fun j hj => hall j (by omega)⟩)
      have hio : i < gs.length := by omega
      obtain ⟨⟨n, k⟩, hat⟩ : ∃ y : ByteArray × Int, gs[i]? = some y := ⟨_, List.getElem?_eq_getElem hio⟩
      obtain ⟨l, r, row, ha, _, hrd, hld⟩ := h2.elem hat
      obtain rfl := rd_group.1 hrd
      dsimp only at hld
      have on : n.size ≤ 9223372036854775807 := (o4.2 (n, k) (List.mem_of_getElem? hat)).1
      have step : GrpOk gs base (base + held.length) i → ∀ j, j < i + 1 → GrpOk gs base (base + held.length) j := fun hc j hj => by
        rcases Nat.lt_succ_iff_lt_or_eq.1 hj with hj | rfl
        · exact hall j hj
        · exact hc
      have en := l07End_spec h name base a1 held.length c1 (.slice a2 gs.length c2) ⟨hb.1, hb.2.1⟩ (by omega)
      refine ⟨l, r, ha, Int.natCast_nonneg _, hlt, _, _, hld, _, _, nameRight_spec h n on, bs_nb (fun e => ⟨rfl, i, hio, fun H => of_trn e (H.out hat).1⟩) (fun e1 => bs_d (fun hpos => ?_) (fun hpos => ?_))⟩
      · have e3 : IntKind.i64.wrap ((i : Int) - 1) = ((i - 1 : Nat) : Int) := by rw [wrap_i64 (by omega)]; omega
        rw [e3]
        obtain ⟨⟨m, q⟩, hat2⟩ : ∃ y : ByteArray × Int, gs[i - 1]? = some y := ⟨_, List.getElem?_eq_getElem (by omega)⟩
        obtain ⟨l', r', row', ha', _, hrd', hld'⟩ := h2.elem hat2
        obtain rfl := rd_group.1 hrd'
        dsimp only at hld'
        refine ⟨l', r', ha', Int.natCast_nonneg _, by omega, _, ld_cells (k := 0) (m := 1) hld' (by simp), bs_nb (fun e => ⟨rfl, i, hio, fun H => ?_⟩) (fun e2 => ?_)⟩
        · have := (H.out hat).2.2.2 m q (by omega) hat2
          rw [this] at e; cases e
        refine ⟨_, _, en, _, _, l03Is_spec _ _ _ _, bs_nb (fun e => ⟨rfl, i, hio, fun H => ?_⟩) (fun e3 => ?_)⟩
        · have := H.out hat; simp [this.2.1, this.2.2.1] at e
        · exact ⟨i + 1, by rw [wrap_i64 (by omega)]; rfl, rfl, ⟨hb, by omega, step (.mk1 hat (of_tr e1) (by simpa using e3) hat2 e2)⟩, by omega, fun _ h => h, fun _ _ h => h⟩
      · refine ⟨_, _, en, _, _, l03Is_spec _ _ _ _, bs_nb (fun e => ⟨rfl, i, hio, fun H => ?_⟩) (fun e3 => ?_)⟩
        · have := H.out hat; simp [this.2.1, this.2.2.1] at e
        · exact ⟨i + 1, by rw [wrap_i64 (by omega)]; rfl, rfl, ⟨hb, by omega, step (.mk0 hat (of_tr e1) (by simpa using e3) (by omega))⟩, by omega, fun _ h => h, fun _ _ h => h⟩
  refine vc_mp (by kernel_rfl : (∃ (x : Bool), ∃ (h' : AHeap), ACall Try.prog (159 : Nat) [Value.string name] h (Value.bool x) h' ∧ bs (!x) (Value.bool false = Value.bool (tr (TopicOk name base held gs)) ∧ h' = h) (∃ (x : Bool), ∃ (h'_1 : AHeap), ACall Try.prog (48 : Nat) [Value.int IntKind.i64 base, Value.int IntKind.i64 (0 : Int), Value.int IntKind.i64 (1000000000 : Int)] h' (Value.bool x) h'_1 ∧ bs (!x) (Value.bool false = Value.bool (tr (TopicOk name base held gs)) ∧ h'_1 = h) (bs (decide ((↑(List.length held) : Int) > (20 : Int))) (Value.bool false = Value.bool (tr (TopicOk name base held gs)) ∧ h'_1 = h) (bs (decide ((↑(List.length gs) : Int) > (4 : Int))) (Value.bool false = Value.bool (tr (TopicOk name base held gs)) ∧ h'_1 = h) (∃ (x : Int), ∃ (h' : AHeap), ACall Try.prog (160 : Nat) [Value.agg (Array.mk [Value.string name, Value.int IntKind.i64 base, Value.slice a1 (List.length held) c1, Value.slice a2 (List.length gs) c2])] h'_1 (Value.int IntKind.i64 x) h' ∧ bs (decide (x > (1000000000 : Int))) (Value.bool false = Value.bool (tr (TopicOk name base held gs)) ∧ h' = h) (∃ (i : Nat), Value.complex FloatKind.f32 (0 : Nat) (0 : Nat) = Value.complex FloatKind.f32 (0 : Nat) (0 : Nat) ∧ Value.int IntKind.i64 (0 : Int) = Value.int IntKind.i64 (↑i : Int) ∧ [Value.string name, Value.int IntKind.i64 base, Value.slice a1 (List.length held) c1, Value.slice a2 (List.length gs) c2] = [Value.string name, Value.int IntKind.i64 base, Value.slice a1 (List.length held) c1, Value.slice a2 (List.length gs) c2] ∧ h = h' ∧ (List.length held ≤ (20 : Nat) ∧ i ≤ List.length held ∧ ∀ (j : Nat), j < i → HeldOk held j) ∧ (∀ (j : Unit), (∀ (j : Nat), j < List.length held → HeldOk held j) → ∃ (i : Nat), Value.complex FloatKind.f32 (0 : Nat) (0 : Nat) = Value.complex FloatKind.f32 (0 : Nat) (0 : Nat) ∧ Value.int IntKind.i64 (0 : Int) = Value.int IntKind.i64 (↑i : Int) ∧ [Value.string name, Value.int IntKind.i64 base, Value.slice a1 (List.length held) c1, Value.slice a2 (List.length gs) c2] = [Value.string name, Value.int IntKind.i64 base, Value.slice a1 (List.length held) c1, Value.slice a2 (List.length gs) c2] ∧ h = h ∧ (((0 : Int) ≤ base ∧ base ≤ (1000000000 : Int) ∧ List.length held ≤ (20 : Nat) ∧ List.length gs ≤ (4 : Nat)) ∧ i ≤ List.length gs ∧ ∀ (j : Nat), j < i → GrpOk gs base (base + (↑(List.length held) : Int)) j) ∧ (∀ (j : Unit), (∀ (j : Nat), j < List.length gs → GrpOk gs base (base + (↑(List.length held) : Int)) j) → Value.bool true = Value.bool (tr (TopicOk name base held gs)) ∧ h = h) ∧ ∀ (v : Value) (h_1 : AHeap), (v = Value.bool false ∧ h_1 = h ∧ ∃ (j : Nat), j < List.length gs ∧ ¬GrpOk gs base (base + (↑(List.length held) : Int)) j) → v = Value.bool (tr (TopicOk name base held gs)) ∧ h_1 = h) ∧ ∀ (v : Value) (h_1 : AHeap), (v = Value.bool false ∧ h_1 = h ∧ ∃ (j : Nat), j < List.length held ∧ ¬HeldOk held j) → v = Value.bool (tr (TopicOk name base held gs)) ∧ h_1 = h)))))) = _) ?_
  refine ⟨_, _, nameRight_spec h name o1, bs_nb (fun e => ⟨congrArg _ (tr_false fun H => of_trn e H.1), rfl⟩) (fun e1 => ⟨_, _, l03Is_spec _ _ _ _, bs_nb (fun e => ⟨congrArg _ (tr_false fun H => by simp [H.2.1] at e), rfl⟩) (fun e2 => ?_)⟩)⟩
  simp only [Bool.and_eq_true, decide_eq_true_eq] at e2
  refine bs_d (fun e => ⟨congrArg _ (tr_false fun H => by have := H.2.2.1; omega), rfl⟩) (fun e3 => bs_d (fun e => ⟨congrArg _ (tr_false fun H => by have := H.2.2.2.1; omega), rfl⟩) (fun e4 => ?_))
  refine ⟨_, _, l07End_spec h name base a1 held.length c1 (.slice a2 gs.length c2) e2 (by omega), bs_d (fun e => ⟨congrArg _ (tr_false fun H => by have := H.2.2.2.2.1; omega), rfl⟩) (fun e5 => ?_)⟩
  refine ⟨(0 : Nat), rfl, rfl, rfl, rfl, ⟨by omega, Nat.zero_le _, fun j hj => absurd hj (Nat.not_lt_zero _)⟩, fun _ hall => ?_, fun v h1 ⟨e1, e2, j, hj, hn⟩ => ⟨e1.trans (congrArg _ (tr_false fun H => hn (H.2.2.2.2.2.1 j hj))), e2⟩⟩
  exact ⟨(0 : Nat), rfl, rfl, rfl, rfl, ⟨by omega, Nat.zero_le _, fun j hj => absurd hj (Nat.not_lt_zero _)⟩, fun _ hall2 => ⟨congrArg _ (tr_true ⟨of_tr e1, e2, by omega, by omega, by omega, hall, hall2⟩), rfl⟩, fun v h1 ⟨e1, e2, j, hj, hn⟩ => ⟨e1.trans (congrArg _ (tr_false fun H => hn (H.2.2.2.2.2.2 j hj))), e2⟩⟩
end Go.Proofs.Ytdcijleeoihlfaa
