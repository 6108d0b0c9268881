/- Contracts: brokers that are right. -/
import Derived.Test.YtdcijleeoihlfaaV8F4
namespace Go.Dat
open Go.Abs
def TopAt (ts : List topicSh.T) (i : Nat) : Prop := ∃ (n : ByteArray) (b : Int) (hs : List Sh.str.T) (gs : List groupSh.T), ts[i]? = some (n, b, hs, gs) ∧ TopicOk n b hs gs ∧ ∀ j, i = j + 1 → ∃ (m : ByteArray) (x : Int × List Sh.str.T × List groupSh.T), ts[j]? = some (m, x) ∧ Op.bytesLess m.toList n.toList = true
def RepAt (rs : List replySh.T) (i : Nat) : Prop := ∃ (c n : Int) (t : ByteArray), rs[i]? = some (c, n, t) ∧ (1 ≤ c ∧ c ≤ 9) ∧ (1 ≤ n ∧ n ≤ 1000000000) ∧ t.size ≤ 900 ∧ ∀ j, i = j + 1 → ∃ (d : Int) (x : Int × ByteArray), rs[j]? = some (d, x) ∧ d < c
def BrokerOk (ts : List topicSh.T) (rs : List replySh.T) : Prop := ts.length ≤ 4 ∧ rs.length ≤ 9 ∧ (∀ i, i < ts.length → TopAt ts i) ∧ ∀ i, i < rs.length → RepAt rs i
theorem TopAt.mk0 {ts : List topicSh.T} {n : ByteArray} {b : Int} {hs : List Sh.str.T} {gs : List groupSh.T} {i : Nat} (e : ts[i]? = some (n, b, hs, gs)) (h1 : TopicOk n b hs gs) (hi0 : i = 0) : TopAt ts i := ⟨n, b, hs, gs, e, h1, fun j hj => by omega⟩
theorem TopAt.mk1 {ts : List topicSh.T} {n m : ByteArray} {b : Int} {hs : List Sh.str.T} {gs : List groupSh.T} {i : Nat} {x : Int × List Sh.str.T × List groupSh.T} (e : ts[i]? = some (n, b, hs, gs)) (h1 : TopicOk n b hs gs) (e2 : ts[i - 1]? = some (m, x)) (h3 : Op.bytesLess m.toList n.toList = true) : TopAt ts i := ⟨n, b, hs, gs, e, h1, fun j hj => ⟨m, x, by rw [← e2]; congr 1; omega, h3⟩⟩
theorem TopAt.out {ts : List topicSh.T} {n : ByteArray} {b : Int} {hs : List Sh.str.T} {gs : List groupSh.T} {i : Nat} (H : TopAt ts i) (e : ts[i]? = some (n, b, hs, gs)) : TopicOk n b hs gs ∧ ∀ m x, 0 < i → ts[i - 1]? = some (m, x) → Op.bytesLess m.toList n.toList = true := by
  obtain ⟨n', b', hs', gs', e', h1, h3⟩ := H
  rw [e] at e'
  cases e'
  refine ⟨h1, fun m l hp e2 => ?_⟩
  obtain ⟨m', l', e3, h4⟩ := h3 (i - 1) (by omega)
  rw [e2] at e3
  cases e3
  exact h4
theorem RepAt.mk0 {rs : List replySh.T} {c n : Int} {t : ByteArray} {i : Nat} (e : rs[i]? = some (c, n, t)) (h1 : 1 ≤ c ∧ c ≤ 9) (h2 : 1 ≤ n ∧ n ≤ 1000000000) (h3 : t.size ≤ 900) (hi0 : i = 0) : RepAt rs i := ⟨c, n, t, e, h1, h2, h3, fun j hj => by omega⟩
theorem RepAt.mk1 {rs : List replySh.T} {c n d : Int} {t : ByteArray} {i : Nat} {x : Int × ByteArray} (e : rs[i]? = some (c, n, t)) (h1 : 1 ≤ c ∧ c ≤ 9) (h2 : 1 ≤ n ∧ n ≤ 1000000000) (h3 : t.size ≤ 900) (e2 : rs[i - 1]? = some (d, x)) (h4 : d < c) : RepAt rs i := ⟨c, n, t, e, h1, h2, h3, fun j hj => ⟨d, x, by rw [← e2]; congr 1; omega, h4⟩⟩
theorem RepAt.out {rs : List replySh.T} {c n : Int} {t : ByteArray} {i : Nat} (H : RepAt rs i) (e : rs[i]? = some (c, n, t)) : (1 ≤ c ∧ c ≤ 9) ∧ (1 ≤ n ∧ n ≤ 1000000000) ∧ t.size ≤ 900 ∧ ∀ (d : Int) (x : Int × ByteArray), 0 < i → rs[i - 1]? = some (d, x) → d < c := by
  obtain ⟨c', n', t', e', h1, h2, h3, h5⟩ := H
  rw [e] at e'
  cases e'
  refine ⟨h1, h2, h3, fun d x hp e2 => ?_⟩
  obtain ⟨d', x', e3, h4⟩ := h5 (i - 1) (by omega)
  rw [e2] at e3
  cases e3
  exact h4
end Go.Dat
namespace Go.Proofs.Ytdcijleeoihlfaa
open Go.Abs Go.Dat
set_option maxRecDepth 100000
set_option maxHeartbeats 4000000
def brL (ts : List topicSh.T) (rs : List replySh.T) (a1 : Option Addr) (c1 : Nat) (a2 : Option Addr) (c2 : Nat) (h : AHeap) : Nat → LSpec
  | 2 => {
    ι := Nat
    κ := Unit
    I := fun i => rs.length ≤ 9 ∧ i ≤ rs.length ∧ ∀ j, j < i → RepAt rs j
    μ := fun i => rs.length - i
    head := fun i => ⟨[(1, .complex .f32 0 0), (4, .int .i64 i)], [[.slice a1 ts.length c1, .slice a2 rs.length c2]], h⟩
    post := fun _ => ⟨[], [[.slice a1 ts.length c1, .slice a2 rs.length c2]], h⟩
    R := fun _ _ => ∀ j, j < rs.length → RepAt rs j
    ret := fun _ v h' => v = .bool false ∧ h' = h ∧ ∃ j, j < rs.length ∧ ¬ RepAt rs j }
  | _ => {
    ι := Nat
    κ := Unit
    I := fun i => ts.length ≤ 4 ∧ i ≤ ts.length ∧ ∀ j, j < i → TopAt ts j
    μ := fun i => ts.length - i
    head := fun i => ⟨[(1, .complex .f32 0 0), (3, .int .i64 i)], [[.slice a1 ts.length c1, .slice a2 rs.length c2]], h⟩
    post := fun _ => ⟨[(1, .complex .f32 0 0)], [[.slice a1 ts.length c1, .slice a2 rs.length c2]], h⟩
    R := fun _ _ => ∀ j, j < ts.length → TopAt ts j
    ret := fun _ v h' => v = .bool false ∧ h' = h ∧ ∃ j, j < ts.length ∧ ¬ TopAt ts j }
theorem brokerRight_spec (h : AHeap) (ts : List topicSh.T) (rs : List replySh.T) (a1 : Option Addr) (c1 : Nat) (a2 : Option Addr) (c2 : Nat)
    (h1 : Sl h topicSh ts (.slice a1 ts.length c1)) (h2 : Sl h replySh rs (.slice a2 rs.length c2)) (ok : brokerSh.ok (ts, rs)) :
    ACall Try.prog 72 [.agg #[.slice a1 ts.length c1, .slice a2 rs.length c2]] h (.bool (tr (BrokerOk ts rs))) h := by
  obtain ⟨o1, o2⟩ := ok
  refine acall_out (acall_vc (fun _ => false) (fun r => match r with | 6 => [(0, 0, []), (2, 0, []), (1, 1, []), (3, 0, []), (4, 1, []), (5, 3, []), (6, 0, []), (7, 0, []), (8, 0, []), (9, 0, []), (10, 0, []), (11, 0, []), (13, 0, []), (14, 0, []), (18, 0, []), (20, 0, []), (12, 1, []), (15, 0, []), (16, 0, []), (17, 1, []), (19, 1, []), (21, 0, []), (22, 0, []), (23, 1, []), (24, 0, []), (25, 0, []), (26, 0, [])] | 12 => [(0, 0, []), (1, 1, []), (2, 3, []), (3, 0, []), (4, 0, []), (5, 0, []), (6, 1, []), (7, 3, []), (8, 0, []), (9, 0, []), (10, 0, []), (11, 0, []), (12, 1, []), (13, 0, []), (14, 0, []), (15, 0, []), (16, 0, []), (17, 0, []), (18, 0, []), (19, 0, []), (20, 0, []), (22, 0, []), (23, 0, []), (27, 0, []), (21, 1, []), (24, 0, []), (25, 0, []), (26, 1, []), (28, 1, []), (29, 0, []), (30, 0, []), (31, 0, [])] | _ => []) (brL ts rs a1 c1 a2 c2 h) mixed Try.func72 rfl rfl rfl (Nat.le_of_ble_eq_true rfl) ?_ ?_)
  · refine vc_mp (by kernel_rfl : (True ∧ (True ∧ (True ∧ True) ∧ True) ∧ (True ∧ (∀ (i : Nat), (List.length ts ≤ (4 : Nat) ∧ i ≤ List.length ts ∧ ∀ (j : Nat), j < i → TopAt ts j) → bs (decide ((↑i : Int) < (↑(List.length ts) : Int))) (∃ (l : Nat), ∃ (r : Nat), a1 = some (Addr.mk l r (some (4 : Nat))) ∧ (0 : Int) ≤ (↑i : Int) ∧ (↑i : Int) < (↑(List.length ts) : Int) ∧ ∃ (x : ByteArray), ∃ (x_1 : Int), ∃ (a : Option Addr), ∃ (n : Nat), ∃ (c : Nat), ∃ (a_1 : Option Addr), ∃ (n_1 : Nat), ∃ (c_1 : Nat), AHeap.ld h l (r + Int.toNat (↑i : Int)) (0 : Nat) (4 : Nat) = some [Value.string x, Value.int IntKind.i64 x_1, Value.slice a n c, Value.slice a_1 n_1 c_1] ∧ ∃ (x_2 : Bool), ∃ (h' : AHeap), ACall Try.prog (125 : Nat) [Value.agg (Array.mk [Value.string x, Value.int IntKind.i64 x_1, Value.slice a n c, Value.slice a_1 n_1 c_1])] h (Value.bool x_2) h' ∧ bs (!x_2) (Value.bool false = Value.bool false ∧ h' = h ∧ ∃ (j : Nat), j < List.length ts ∧ ¬TopAt ts j) (bs (decide ((↑i : Int) > (0 : Int))) (∃ (l : Nat), ∃ (r : Nat), a1 = some (Addr.mk l r (some (4 : Nat))) ∧ (0 : Int) ≤ IntKind.wrap IntKind.i64 ((↑i : Int) - (1 : Int)) ∧ IntKind.wrap IntKind.i64 ((↑i : Int) - (1 : Int)) < (↑(List.length ts) : Int) ∧ ∃ (x : ByteArray), AHeap.ld h' l (r + Int.toNat (IntKind.wrap IntKind.i64 ((↑i : Int) - (1 : Int)))) (0 : Nat) (1 : Nat) = some [Value.string x] ∧ ∃ (l : Nat), ∃ (r : Nat), a1 = some (Addr.mk l r (some (4 : Nat))) ∧ (0 : Int) ≤ (↑i : Int) ∧ (↑i : Int) < (↑(List.length ts) : Int) ∧ ∃ (x_3 : ByteArray), AHeap.ld h' l (r + Int.toNat (↑i : Int)) (0 : Nat) (1 : Nat) = some [Value.string x_3] ∧ bs (!Op.bytesLess (ByteArray.toList x) (ByteArray.toList x_3)) (Value.bool false = Value.bool false ∧ h' = h ∧ ∃ (j : Nat), j < List.length ts ∧ ¬TopAt ts j) (∃ (j : Nat), Value.complex FloatKind.f32 (0 : Nat) (0 : Nat) = Value.complex FloatKind.f32 (0 : Nat) (0 : Nat) ∧ Value.int IntKind.i64 (IntKind.wrap IntKind.i64 ((↑i : Int) + (1 : Int))) = Value.int IntKind.i64 (↑j : Int) ∧ [Value.slice a1 (List.length ts) c1, Value.slice a2 (List.length rs) c2] = [Value.slice a1 (List.length ts) c1, Value.slice a2 (List.length rs) c2] ∧ h = h' ∧ (List.length ts ≤ (4 : Nat) ∧ j ≤ List.length ts ∧ ∀ (j_1 : Nat), j_1 < j → TopAt ts j_1) ∧ List.length ts - j < List.length ts - i ∧ (∀ (k : Unit), (∀ (j : Nat), j < List.length ts → TopAt ts j) → ∀ (j : Nat), j < List.length ts → TopAt ts j) ∧ ∀ (v : Value) (h_1 : AHeap), (v = Value.bool false ∧ h_1 = h ∧ ∃ (j : Nat), j < List.length ts ∧ ¬TopAt ts j) → v = Value.bool false ∧ h_1 = h ∧ ∃ (j : Nat), j < List.length ts ∧ ¬TopAt ts j)) (∃ (j : Nat), Value.complex FloatKind.f32 (0 : Nat) (0 : Nat) = Value.complex FloatKind.f32 (0 : Nat) (0 : Nat) ∧ Value.int IntKind.i64 (IntKind.wrap IntKind.i64 ((↑i : Int) + (1 : Int))) = Value.int IntKind.i64 (↑j : Int) ∧ [Value.slice a1 (List.length ts) c1, Value.slice a2 (List.length rs) c2] = [Value.slice a1 (List.length ts) c1, Value.slice a2 (List.length rs) c2] ∧ h = h' ∧ (List.length ts ≤ (4 : Nat) ∧ j ≤ List.length ts ∧ ∀ (j_1 : Nat), j_1 < j → TopAt ts j_1) ∧ List.length ts - j < List.length ts - i ∧ (∀ (k : Unit), (∀ (j : Nat), j < List.length ts → TopAt ts j) → ∀ (j : Nat), j < List.length ts → TopAt ts j) ∧ ∀ (v : Value) (h_1 : AHeap), (v = Value.bool false ∧ h_1 = h ∧ ∃ (j : Nat), j < List.length ts ∧ ¬TopAt ts j) → v = Value.bool false ∧ h_1 = h ∧ ∃ (j : Nat), j < List.length ts ∧ ¬TopAt ts j))) (∃ (j : Unit), Value.complex FloatKind.f32 (0 : Nat) (0 : Nat) = Value.complex FloatKind.f32 (0 : Nat) (0 : Nat) ∧ [Value.slice a1 (List.length ts) c1, Value.slice a2 (List.length rs) c2] = [Value.slice a1 (List.length ts) c1, Value.slice a2 (List.length rs) c2] ∧ h = h ∧ ∀ (j : Nat), j < List.length ts → TopAt ts j)) ∧ (True ∧ True ∧ True) ∧ (True ∧ (True ∧ True) ∧ True) ∧ True) ∧ (True ∧ (∀ (i : Nat), (List.length rs ≤ (9 : Nat) ∧ i ≤ List.length rs ∧ ∀ (j : Nat), j < i → RepAt rs j) → bs (decide ((↑i : Int) < (↑(List.length rs) : Int))) (∃ (l : Nat), ∃ (r : Nat), a2 = some (Addr.mk l r (some (3 : Nat))) ∧ (0 : Int) ≤ (↑i : Int) ∧ (↑i : Int) < (↑(List.length rs) : Int) ∧ ∃ (x : Int), ∃ (x_1 : Int), ∃ (x_2 : ByteArray), AHeap.ld h l (r + Int.toNat (↑i : Int)) (0 : Nat) (3 : Nat) = some [Value.int IntKind.i64 x, Value.int IntKind.i64 x_1, Value.string x_2] ∧ ∃ (x_3 : Bool), ∃ (h' : AHeap), ACall Try.prog (48 : Nat) [Value.int IntKind.i64 x, Value.int IntKind.i64 (1 : Int), Value.int IntKind.i64 (9 : Int)] h (Value.bool x_3) h' ∧ bs (!x_3) (Value.bool false = Value.bool false ∧ h' = h ∧ ∃ (j : Nat), j < List.length rs ∧ ¬RepAt rs j) (∃ (x_4 : Bool), ∃ (h'_1 : AHeap), ACall Try.prog (48 : Nat) [Value.int IntKind.i64 x_1, Value.int IntKind.i64 (1 : Int), Value.int IntKind.i64 (1000000000 : Int)] h' (Value.bool x_4) h'_1 ∧ bs (!x_4) (Value.bool false = Value.bool false ∧ h'_1 = h ∧ ∃ (j : Nat), j < List.length rs ∧ ¬RepAt rs j) (bs (decide ((↑(ByteArray.size x_2) : Int) > (900 : Int))) (Value.bool false = Value.bool false ∧ h'_1 = h ∧ ∃ (j : Nat), j < List.length rs ∧ ¬RepAt rs j) (bs (decide ((↑i : Int) > (0 : Int))) (∃ (l : Nat), ∃ (r : Nat), a2 = some (Addr.mk l r (some (3 : Nat))) ∧ (0 : Int) ≤ IntKind.wrap IntKind.i64 ((↑i : Int) - (1 : Int)) ∧ IntKind.wrap IntKind.i64 ((↑i : Int) - (1 : Int)) < (↑(List.length rs) : Int) ∧ ∃ (x_5 : Int), AHeap.ld h'_1 l (r + Int.toNat (IntKind.wrap IntKind.i64 ((↑i : Int) - (1 : Int)))) (0 : Nat) (1 : Nat) = some [Value.int IntKind.i64 x_5] ∧ bs (decide (x_5 ≥ x)) (Value.bool false = Value.bool false ∧ h'_1 = h ∧ ∃ (j : Nat), j < List.length rs ∧ ¬RepAt rs j) (∃ (j : Nat), Value.complex FloatKind.f32 (0 : Nat) (0 : Nat) = Value.complex FloatKind.f32 (0 : Nat) (0 : Nat) ∧ Value.int IntKind.i64 (IntKind.wrap IntKind.i64 ((↑i : Int) + (1 : Int))) = Value.int IntKind.i64 (↑j : Int) ∧ [Value.slice a1 (List.length ts) c1, Value.slice a2 (List.length rs) c2] = [Value.slice a1 (List.length ts) c1, Value.slice a2 (List.length rs) c2] ∧ h = h'_1 ∧ (List.length rs ≤ (9 : Nat) ∧ j ≤ List.length rs ∧ ∀ (j_1 : Nat), j_1 < j → RepAt rs j_1) ∧ List.length rs - j < List.length rs - i ∧ (∀ (k : Unit), (∀ (j : Nat), j < List.length rs → RepAt rs j) → ∀ (j : Nat), j < List.length rs → RepAt rs j) ∧ ∀ (v : Value) (h_1 : AHeap), (v = Value.bool false ∧ h_1 = h ∧ ∃ (j : Nat), j < List.length rs ∧ ¬RepAt rs j) → v = Value.bool false ∧ h_1 = h ∧ ∃ (j : Nat), j < List.length rs ∧ ¬RepAt rs j)) (∃ (j : Nat), Value.complex FloatKind.f32 (0 : Nat) (0 : Nat) = Value.complex FloatKind.f32 (0 : Nat) (0 : Nat) ∧ Value.int IntKind.i64 (IntKind.wrap IntKind.i64 ((↑i : Int) + (1 : Int))) = Value.int IntKind.i64 (↑j : Int) ∧ [Value.slice a1 (List.length ts) c1, Value.slice a2 (List.length rs) c2] = [Value.slice a1 (List.length ts) c1, Value.slice a2 (List.length rs) c2] ∧ h = h'_1 ∧ (List.length rs ≤ (9 : Nat) ∧ j ≤ List.length rs ∧ ∀ (j_1 : Nat), j_1 < j → RepAt rs j_1) ∧ List.length rs - j < List.length rs - i ∧ (∀ (k : Unit), (∀ (j : Nat), j < List.length rs → RepAt rs j) → ∀ (j : Nat), j < List.length rs → RepAt rs j) ∧ ∀ (v : Value) (h_1 : AHeap), (v = Value.bool false ∧ h_1 = h ∧ ∃ (j : Nat), j < List.length rs ∧ ¬RepAt rs j) → v = Value.bool false ∧ h_1 = h ∧ ∃ (j : Nat), j < List.length rs ∧ ¬RepAt rs j))))) (∃ (j : Unit), [Value.slice a1 (List.length ts) c1, Value.slice a2 (List.length rs) c2] = [Value.slice a1 (List.length ts) c1, Value.slice a2 (List.length rs) c2] ∧ h = h ∧ ∀ (j : Nat), j < List.length rs → RepAt rs j)) ∧ (True ∧ True ∧ True) ∧ (True ∧ True ∧ (True ∧ True) ∧ True) ∧ True) ∧ True ∧ True) = _) ?_
    simp only [true_and, and_true]
    refine ⟨?_, ?_⟩
    · rintro (i : Nat) ⟨hb, hi, hall⟩
      refine bs_d (fun hlt => ?_) (fun hge => ⟨(), fun j hj => hall j (by omega)⟩)
      have hio : i < ts.length := by omega
      obtain ⟨⟨n, b, hs, gs⟩, hat⟩ : ∃ y : ByteArray × Int × List Sh.str.T × List groupSh.T, ts[i]? = some y := ⟨_, List.getElem?_eq_getElem hio⟩
      obtain ⟨l, r, row, ha, _, hrd, hld⟩ := h1.elem hat
      obtain ⟨v1, v2, rfl, s1, s2⟩ := rd_topic.1 hrd
      dsimp only at hld s1 s2
      obtain ⟨a3, c3, rfl⟩ := s1.isSlice
      obtain ⟨a4, c4, rfl⟩ := s2.isSlice
      have okt := o1.2 (n, b, hs, gs) (List.mem_of_getElem? hat)
      have step : TopAt ts i → ∀ j, j < i + 1 → TopAt ts j := fun hc j hj => by
        rcases Nat.lt_succ_iff_lt_or_eq.1 hj with hj | rfl
        · exact hall j hj
        · exact hc
      refine ⟨l, r, ha, Int.natCast_nonneg _, hlt, _, _, _, _, _, _, _, _, hld, _, _, topicRight_spec h n b hs gs a3 c3 a4 c4 s1 s2 okt, bs_nb (fun e => ⟨rfl, i, hio, fun H => of_trn e (H.out hat).1⟩) (fun e1 => bs_d (fun hpos => ?_) (fun hpos => ?_))⟩
      · have e3 : IntKind.i64.wrap ((i : Int) - 1) = ((i - 1 : Nat) : Int) := by rw [wrap_i64 (by omega)]; omega
        rw [e3]
        obtain ⟨⟨m, q⟩, hat2⟩ : ∃ y : ByteArray × Int × List Sh.str.T × List groupSh.T, ts[i - 1]? = some y := ⟨_, List.getElem?_eq_getElem (by omega)⟩
        obtain ⟨l', r', row', ha', _, hrd', hld'⟩ := h1.elem hat2
        obtain ⟨v3, v4, rfl, _, _⟩ := rd_topic.1 hrd'
        dsimp only at hld'
        refine ⟨l', r', ha', Int.natCast_nonneg _, by omega, _, ld_cells (k := 0) (m := 1) hld' (by simp), l, r, ha, Int.natCast_nonneg _, hlt, _, ld_cells (k := 0) (m := 1) hld (by simp), bs_nb (fun e => ⟨rfl, i, hio, fun H => ?_⟩) (fun e2 => ?_)⟩
        · have := (H.out hat).2 m q (by omega) hat2
          rw [this] at e; cases e
        · exact ⟨i + 1, by rw [wrap_i64 (by omega)]; rfl, rfl, ⟨hb, by omega, step (.mk1 hat (of_tr e1) hat2 e2)⟩, by omega, fun _ h => h, fun _ _ h => h⟩
      · exact ⟨i + 1, by rw [wrap_i64 (by omega)]; rfl, rfl, ⟨hb, by omega, step (.mk0 hat (of_tr e1) (by omega))⟩, by omega, fun _ h => h, fun _ _ h => h⟩
    · rintro (i : Nat) ⟨hb, hi, hall⟩
      refine bs_d (fun hlt => ?_) (fun hge => ⟨(), fun j hj => hall j (by omega)⟩)
      have hio : i < rs.length := by omega
      obtain ⟨⟨c, n, t⟩, hat⟩ : ∃ y : Int × Int × ByteArray, rs[i]? = some y := ⟨_, List.getElem?_eq_getElem hio⟩
      obtain ⟨l, r, row, ha, _, hrd, hld⟩ := h2.elem hat
      obtain rfl := rd_reply.1 hrd
      dsimp only at hld
      have step : RepAt rs i → ∀ j, j < i + 1 → RepAt rs j := fun hc j hj => by
        rcases Nat.lt_succ_iff_lt_or_eq.1 hj with hj | rfl
        · exact hall j hj
        · exact hc
      refine ⟨l, r, ha, Int.natCast_nonneg _, hlt, _, _, _, hld, _, _, l03Is_spec _ _ _ _, bs_nb (fun e => ⟨rfl, i, hio, fun H => ?_⟩) (fun e1 => ?_)⟩
      · have := H.out hat; simp [this.1] at e
      refine ⟨_, _, l03Is_spec _ _ _ _, bs_nb (fun e => ⟨rfl, i, hio, fun H => ?_⟩) (fun e2 => bs_d (fun e => ⟨rfl, i, hio, fun H => ?_⟩) (fun e3 => bs_d (fun hpos => ?_) (fun hpos => ?_)))⟩
      · have := H.out hat; simp [this.2.1] at e
      · have := H.out hat; omega
      · have e4 : IntKind.i64.wrap ((i : Int) - 1) = ((i - 1 : Nat) : Int) := by rw [wrap_i64 (by omega)]; omega
        rw [e4]
        obtain ⟨⟨d, q⟩, hat2⟩ : ∃ y : Int × Int × ByteArray, rs[i - 1]? = some y := ⟨_, List.getElem?_eq_getElem (by omega)⟩
        obtain ⟨l', r', row', ha', _, hrd', hld'⟩ := h2.elem hat2
        obtain rfl := rd_reply.1 hrd'
        dsimp only at hld'
        refine ⟨l', r', ha', Int.natCast_nonneg _, by omega, _, ld_cells (k := 0) (m := 1) hld' (by simp), bs_d (fun e => ⟨rfl, i, hio, fun H => ?_⟩) (fun e5 => ?_)⟩
        · have := (H.out hat).2.2.2 d q (by omega) hat2; omega
        · exact ⟨i + 1, by rw [wrap_i64 (by omega)]; rfl, rfl, ⟨hb, by omega, step (.mk1 hat (by simpa using e1) (by simpa using e2) (by omega) hat2 (by omega))⟩, by omega, fun _ h => h, fun _ _ h => h⟩
      · exact ⟨i + 1, by rw [wrap_i64 (by omega)]; rfl, rfl, ⟨hb, by omega, step (.mk0 hat (by simpa using e1) (by simpa using e2) (by omega) (by omega))⟩, by omega, fun _ h => h, fun _ _ h => h⟩
  refine vc_mp (by kernel_rfl : (bs (decide ((↑(List.length ts) : Int) > (4 : Int))) (Value.bool false = Value.bool (tr (BrokerOk ts rs)) ∧ h = h) (bs (decide ((↑(List.length rs) : Int) > (9 : Int))) (Value.bool false = Value.bool (tr (BrokerOk ts rs)) ∧ h = h) (∃ (i : Nat), Value.complex FloatKind.f32 (0 : Nat) (0 : Nat) = Value.complex FloatKind.f32 (0 : Nat) (0 : Nat) ∧ Value.int IntKind.i64 (0 : Int) = Value.int IntKind.i64 (↑i : Int) ∧ [Value.slice a1 (List.length ts) c1, Value.slice a2 (List.length rs) c2] = [Value.slice a1 (List.length ts) c1, Value.slice a2 (List.length rs) c2] ∧ h = h ∧ (List.length ts ≤ (4 : Nat) ∧ i ≤ List.length ts ∧ ∀ (j : Nat), j < i → TopAt ts j) ∧ (∀ (j : Unit), (∀ (j : Nat), j < List.length ts → TopAt ts j) → ∃ (i : Nat), Value.complex FloatKind.f32 (0 : Nat) (0 : Nat) = Value.complex FloatKind.f32 (0 : Nat) (0 : Nat) ∧ Value.int IntKind.i64 (0 : Int) = Value.int IntKind.i64 (↑i : Int) ∧ [Value.slice a1 (List.length ts) c1, Value.slice a2 (List.length rs) c2] = [Value.slice a1 (List.length ts) c1, Value.slice a2 (List.length rs) c2] ∧ h = h ∧ (List.length rs ≤ (9 : Nat) ∧ i ≤ List.length rs ∧ ∀ (j : Nat), j < i → RepAt rs j) ∧ (∀ (j : Unit), (∀ (j : Nat), j < List.length rs → RepAt rs j) → Value.bool true = Value.bool (tr (BrokerOk ts rs)) ∧ h = h) ∧ ∀ (v : Value) (h_1 : AHeap), (v = Value.bool false ∧ h_1 = h ∧ ∃ (j : Nat), j < List.length rs ∧ ¬RepAt rs j) → v = Value.bool (tr (BrokerOk ts rs)) ∧ h_1 = h) ∧ ∀ (v : Value) (h_1 : AHeap), (v = Value.bool false ∧ h_1 = h ∧ ∃ (j : Nat), j < List.length ts ∧ ¬TopAt ts j) → v = Value.bool (tr (BrokerOk ts rs)) ∧ h_1 = h))) = _) ?_
  refine bs_d (fun e => ⟨congrArg _ (tr_false fun H => by have := H.1; omega), rfl⟩) (fun e1 => bs_d (fun e => ⟨congrArg _ (tr_false fun H => by have := H.2.1; omega), rfl⟩) (fun e2 => ?_))
  refine ⟨(0 : Nat), rfl, rfl, rfl, rfl, ⟨by omega, Nat.zero_le _, fun j hj => absurd hj (Nat.not_lt_zero _)⟩, fun _ hall => ?_, fun v h1 ⟨e1, e2, j, hj, hn⟩ => ⟨e1.trans (congrArg _ (tr_false fun H => hn (H.2.2.1 j hj))), e2⟩⟩
  exact ⟨(0 : Nat), rfl, rfl, rfl, rfl, ⟨by omega, Nat.zero_le _, fun j hj => absurd hj (Nat.not_lt_zero _)⟩, fun _ hall2 => ⟨congrArg _ (tr_true ⟨by omega, by omega, hall, hall2⟩), rfl⟩, fun v h1 ⟨e1, e2, j, hj, hn⟩ => ⟨e1.trans (congrArg _ (tr_false fun H => hn (H.2.2.2 j hj))), e2⟩⟩
def biL (ts : List topicSh.T) (rs : List replySh.T) (a1 : Option Addr) (c1 : Nat) (a2 : Option Addr) (c2 : Nat) (h : AHeap) : Nat → LSpec
  | 2 => {
    ι := Nat × AHeap
    κ := AHeap
    I := fun i => i.1 ≤ rs.length ∧ h.Le i.2 ∧ i.2.wf ∧ ∀ j, j < i.1 → RepAt rs j
    μ := fun i => rs.length - i.1
    head := fun i => ⟨[(1, .complex .f32 0 0), (36, .slice a2 rs.length c2), (37, .int .i64 rs.length), (38, .int .i64 i.1)], [[.slice a1 ts.length c1, .slice a2 rs.length c2]], i.2⟩
    post := fun j => ⟨[(1, .complex .f32 0 0)], [[.slice a1 ts.length c1, .slice a2 rs.length c2]], j⟩
    R := fun _ j => h.Le j ∧ j.wf ∧ ∀ j, j < rs.length → RepAt rs j
    ret := fun _ v h' => v = .bool false ∧ h.Le h' ∧ h'.wf ∧ ∃ j, j < rs.length ∧ ¬ RepAt rs j }
  | _ => {
    ι := Nat × AHeap
    κ := AHeap
    I := fun i => i.1 ≤ ts.length ∧ h.Le i.2 ∧ i.2.wf ∧ ∀ j, j < i.1 → TopAt ts j
    μ := fun i => ts.length - i.1
    head := fun i => ⟨[(1, .complex .f32 0 0), (8, .slice a1 ts.length c1), (9, .int .i64 ts.length), (10, .int .i64 i.1)], [[.slice a1 ts.length c1, .slice a2 rs.length c2]], i.2⟩
    post := fun j => ⟨[(1, .complex .f32 0 0)], [[.slice a1 ts.length c1, .slice a2 rs.length c2]], j⟩
    R := fun _ j => h.Le j ∧ j.wf ∧ ∀ j, j < ts.length → TopAt ts j
    ret := fun _ v h' => v = .bool false ∧ h.Le h' ∧ h'.wf ∧ ∃ j, j < ts.length ∧ ¬ TopAt ts j }
theorem isBroker_spec (h : AHeap) (hw : h.wf) (ts : List topicSh.T) (rs : List replySh.T) (a1 : Option Addr) (c1 : Nat) (a2 : Option Addr) (c2 : Nat)
    (h1 : Sl h topicSh ts (.slice a1 ts.length c1)) (h2 : Sl h replySh rs (.slice a2 rs.length c2)) (ok : brokerSh.ok (ts, rs)) :
    ∃ v h', ACall Try.prog 77 [.agg #[.slice a1 ts.length c1, .slice a2 rs.length c2]] h v h' ∧ h.Le h' ∧ h'.wf ∧ v = .bool (tr (BrokerOk ts rs)) := by
  obtain ⟨o1, o2⟩ := ok
  have n1 : ts.length ≤ 9223372036854775807 := o1.1
  have n2 : rs.length ≤ 9223372036854775807 := o2.1
  refine acall_q fun Q HQ => ?_
  refine acall_vc (fun _ => false) (fun r => match r with | 4 => [(0, 1, []), (1, 3, []), (2, 0, []), (3, 0, []), (4, 0, []), (5, 0, []), (6, 0, []), (7, 0, []), (9, 0, []), (10, 0, []), (14, 0, []), (8, 1, []), (11, 0, []), (12, 0, []), (13, 1, []), (15, 1, []), (16, 0, []), (17, 0, []), (18, 0, [])] | 10 => [(0, 0, []), (1, 1, []), (2, 3, []), (3, 0, []), (4, 0, []), (5, 0, []), (6, 0, []), (7, 0, []), (8, 0, []), (10, 0, []), (11, 0, []), (15, 0, []), (9, 1, []), (12, 0, []), (13, 0, []), (14, 1, []), (16, 1, []), (17, 0, []), (18, 0, []), (19, 0, []), (20, 0, []), (21, 0, []), (22, 1, []), (23, 3, []), (24, 0, []), (25, 0, []), (26, 0, []), (27, 0, []), (28, 1, []), (29, 0, []), (30, 0, []), (31, 0, [])] | _ => []) (biL ts rs a1 c1 a2 c2 h) mixed Try.func77 rfl rfl rfl (Nat.le_of_ble_eq_true rfl) ?_ ?_
  · refine vc_mp (by kernel_rfl : (True ∧ (True ∧ (∀ (i : Nat × AHeap), (Prod.fst i ≤ List.length ts ∧ AHeap.Le h (Prod.snd i) ∧ AHeap.wf (Prod.snd i) ∧ ∀ (j : Nat), j < Prod.fst i → TopAt ts j) → bs (decide ((↑(Prod.fst i) : Int) < (↑(List.length ts) : Int))) (∃ (l : Nat), ∃ (r : Nat), a1 = some (Addr.mk l r (some (4 : Nat))) ∧ (0 : Int) ≤ (↑(Prod.fst i) : Int) ∧ (↑(Prod.fst i) : Int) < (↑(List.length ts) : Int) ∧ ∃ (x : ByteArray), ∃ (x_1 : Int), ∃ (a : Option Addr), ∃ (n : Nat), ∃ (c : Nat), ∃ (a_1 : Option Addr), ∃ (n_1 : Nat), ∃ (c_1 : Nat), AHeap.ld (Prod.snd i) l (r + Int.toNat (↑(Prod.fst i) : Int)) (0 : Nat) (4 : Nat) = some [Value.string x, Value.int IntKind.i64 x_1, Value.slice a n c, Value.slice a_1 n_1 c_1] ∧ ∃ (x_2 : Bool), ∃ (h' : AHeap), ACall Try.prog (128 : Nat) [Value.agg (Array.mk [Value.string x, Value.int IntKind.i64 x_1, Value.slice a n c, Value.slice a_1 n_1 c_1])] (Prod.snd i) (Value.bool x_2) h' ∧ bs (!x_2) (Value.bool false = Value.bool false ∧ AHeap.Le h h' ∧ AHeap.wf h' ∧ ∃ (j : Nat), j < List.length ts ∧ ¬TopAt ts j) (bs (decide ((↑(Prod.fst i) : Int) > (0 : Int))) (∃ (l : Nat), ∃ (r : Nat), a1 = some (Addr.mk l r (some (4 : Nat))) ∧ (0 : Int) ≤ IntKind.wrap IntKind.i64 ((↑(Prod.fst i) : Int) - (1 : Int)) ∧ IntKind.wrap IntKind.i64 ((↑(Prod.fst i) : Int) - (1 : Int)) < (↑(List.length ts) : Int) ∧ ∃ (x_3 : ByteArray), AHeap.ld h' l (r + Int.toNat (IntKind.wrap IntKind.i64 ((↑(Prod.fst i) : Int) - (1 : Int)))) (0 : Nat) (1 : Nat) = some [Value.string x_3] ∧ bs (!Op.bytesLess (ByteArray.toList x_3) (ByteArray.toList x)) (Value.bool false = Value.bool false ∧ AHeap.Le h h' ∧ AHeap.wf h' ∧ ∃ (j : Nat), j < List.length ts ∧ ¬TopAt ts j) (∃ (j : Nat × AHeap), Value.complex FloatKind.f32 (0 : Nat) (0 : Nat) = Value.complex FloatKind.f32 (0 : Nat) (0 : Nat) ∧ Value.slice a1 (List.length ts) c1 = Value.slice a1 (List.length ts) c1 ∧ Value.int IntKind.i64 (↑(List.length ts) : Int) = Value.int IntKind.i64 (↑(List.length ts) : Int) ∧ Value.int IntKind.i64 (IntKind.wrap IntKind.i64 ((↑(Prod.fst i) : Int) + (1 : Int))) = Value.int IntKind.i64 (↑(Prod.fst j) : Int) ∧ [Value.slice a1 (List.length ts) c1, Value.slice a2 (List.length rs) c2] = [Value.slice a1 (List.length ts) c1, Value.slice a2 (List.length rs) c2] ∧ Prod.snd j = h' ∧ (Prod.fst j ≤ List.length ts ∧ AHeap.Le h (Prod.snd j) ∧ AHeap.wf (Prod.snd j) ∧ ∀ (j_1 : Nat), j_1 < Prod.fst j → TopAt ts j_1) ∧ List.length ts - Prod.fst j < List.length ts - Prod.fst i ∧ (∀ (k : AHeap), (AHeap.Le h k ∧ AHeap.wf k ∧ ∀ (j : Nat), j < List.length ts → TopAt ts j) → AHeap.Le h k ∧ AHeap.wf k ∧ ∀ (j : Nat), j < List.length ts → TopAt ts j) ∧ ∀ (v : Value) (h_1 : AHeap), (v = Value.bool false ∧ AHeap.Le h h_1 ∧ AHeap.wf h_1 ∧ ∃ (j : Nat), j < List.length ts ∧ ¬TopAt ts j) → v = Value.bool false ∧ AHeap.Le h h_1 ∧ AHeap.wf h_1 ∧ ∃ (j : Nat), j < List.length ts ∧ ¬TopAt ts j)) (∃ (j : Nat × AHeap), Value.complex FloatKind.f32 (0 : Nat) (0 : Nat) = Value.complex FloatKind.f32 (0 : Nat) (0 : Nat) ∧ Value.slice a1 (List.length ts) c1 = Value.slice a1 (List.length ts) c1 ∧ Value.int IntKind.i64 (↑(List.length ts) : Int) = Value.int IntKind.i64 (↑(List.length ts) : Int) ∧ Value.int IntKind.i64 (IntKind.wrap IntKind.i64 ((↑(Prod.fst i) : Int) + (1 : Int))) = Value.int IntKind.i64 (↑(Prod.fst j) : Int) ∧ [Value.slice a1 (List.length ts) c1, Value.slice a2 (List.length rs) c2] = [Value.slice a1 (List.length ts) c1, Value.slice a2 (List.length rs) c2] ∧ Prod.snd j = h' ∧ (Prod.fst j ≤ List.length ts ∧ AHeap.Le h (Prod.snd j) ∧ AHeap.wf (Prod.snd j) ∧ ∀ (j_1 : Nat), j_1 < Prod.fst j → TopAt ts j_1) ∧ List.length ts - Prod.fst j < List.length ts - Prod.fst i ∧ (∀ (k : AHeap), (AHeap.Le h k ∧ AHeap.wf k ∧ ∀ (j : Nat), j < List.length ts → TopAt ts j) → AHeap.Le h k ∧ AHeap.wf k ∧ ∀ (j : Nat), j < List.length ts → TopAt ts j) ∧ ∀ (v : Value) (h_1 : AHeap), (v = Value.bool false ∧ AHeap.Le h h_1 ∧ AHeap.wf h_1 ∧ ∃ (j : Nat), j < List.length ts ∧ ¬TopAt ts j) → v = Value.bool false ∧ AHeap.Le h h_1 ∧ AHeap.wf h_1 ∧ ∃ (j : Nat), j < List.length ts ∧ ¬TopAt ts j))) (∃ (j : AHeap), Value.complex FloatKind.f32 (0 : Nat) (0 : Nat) = Value.complex FloatKind.f32 (0 : Nat) (0 : Nat) ∧ [Value.slice a1 (List.length ts) c1, Value.slice a2 (List.length rs) c2] = [Value.slice a1 (List.length ts) c1, Value.slice a2 (List.length rs) c2] ∧ j = Prod.snd i ∧ AHeap.Le h j ∧ AHeap.wf j ∧ ∀ (j : Nat), j < List.length ts → TopAt ts j)) ∧ True ∧ (True ∧ True) ∧ (True ∧ True ∧ (True ∧ True) ∧ True) ∧ True) ∧ (True ∧ (∀ (i : Nat × AHeap), (Prod.fst i ≤ List.length rs ∧ AHeap.Le h (Prod.snd i) ∧ AHeap.wf (Prod.snd i) ∧ ∀ (j : Nat), j < Prod.fst i → RepAt rs j) → bs (decide ((↑(Prod.fst i) : Int) < (↑(List.length rs) : Int))) (∃ (l : Nat), ∃ (r : Nat), a2 = some (Addr.mk l r (some (3 : Nat))) ∧ (0 : Int) ≤ (↑(Prod.fst i) : Int) ∧ (↑(Prod.fst i) : Int) < (↑(List.length rs) : Int) ∧ ∃ (x : Int), ∃ (x_1 : Int), ∃ (x_2 : ByteArray), AHeap.ld (Prod.snd i) l (r + Int.toNat (↑(Prod.fst i) : Int)) (0 : Nat) (3 : Nat) = some [Value.int IntKind.i64 x, Value.int IntKind.i64 x_1, Value.string x_2] ∧ ∃ (x_3 : Bool), ∃ (h' : AHeap), ACall Try.prog (93 : Nat) [Value.int IntKind.i64 x, Value.int IntKind.i64 (1 : Int), Value.int IntKind.i64 (9 : Int)] (Prod.snd i) (Value.bool x_3) h' ∧ bs (!x_3) (Value.bool false = Value.bool false ∧ AHeap.Le h h' ∧ AHeap.wf h' ∧ ∃ (j : Nat), j < List.length rs ∧ ¬RepAt rs j) (bs (decide ((↑(Prod.fst i) : Int) > (0 : Int))) (∃ (l : Nat), ∃ (r : Nat), a2 = some (Addr.mk l r (some (3 : Nat))) ∧ (0 : Int) ≤ IntKind.wrap IntKind.i64 ((↑(Prod.fst i) : Int) - (1 : Int)) ∧ IntKind.wrap IntKind.i64 ((↑(Prod.fst i) : Int) - (1 : Int)) < (↑(List.length rs) : Int) ∧ ∃ (x_4 : Int), AHeap.ld h' l (r + Int.toNat (IntKind.wrap IntKind.i64 ((↑(Prod.fst i) : Int) - (1 : Int)))) (0 : Nat) (1 : Nat) = some [Value.int IntKind.i64 x_4] ∧ bs (decide (x_4 ≥ x)) (Value.bool false = Value.bool false ∧ AHeap.Le h h' ∧ AHeap.wf h' ∧ ∃ (j : Nat), j < List.length rs ∧ ¬RepAt rs j) (∃ (x : Bool), ∃ (h'_1 : AHeap), ACall Try.prog (93 : Nat) [Value.int IntKind.i64 x_1, Value.int IntKind.i64 (1 : Int), Value.int IntKind.i64 (1000000000 : Int)] h' (Value.bool x) h'_1 ∧ bs (!x) (Value.bool false = Value.bool false ∧ AHeap.Le h h'_1 ∧ AHeap.wf h'_1 ∧ ∃ (j : Nat), j < List.length rs ∧ ¬RepAt rs j) (bs (decide ((↑(ByteArray.size x_2) : Int) > (900 : Int))) (Value.bool false = Value.bool false ∧ AHeap.Le h h'_1 ∧ AHeap.wf h'_1 ∧ ∃ (j : Nat), j < List.length rs ∧ ¬RepAt rs j) (∃ (j : Nat × AHeap), Value.complex FloatKind.f32 (0 : Nat) (0 : Nat) = Value.complex FloatKind.f32 (0 : Nat) (0 : Nat) ∧ Value.slice a2 (List.length rs) c2 = Value.slice a2 (List.length rs) c2 ∧ Value.int IntKind.i64 (↑(List.length rs) : Int) = Value.int IntKind.i64 (↑(List.length rs) : Int) ∧ Value.int IntKind.i64 (IntKind.wrap IntKind.i64 ((↑(Prod.fst i) : Int) + (1 : Int))) = Value.int IntKind.i64 (↑(Prod.fst j) : Int) ∧ [Value.slice a1 (List.length ts) c1, Value.slice a2 (List.length rs) c2] = [Value.slice a1 (List.length ts) c1, Value.slice a2 (List.length rs) c2] ∧ Prod.snd j = h'_1 ∧ (Prod.fst j ≤ List.length rs ∧ AHeap.Le h (Prod.snd j) ∧ AHeap.wf (Prod.snd j) ∧ ∀ (j_1 : Nat), j_1 < Prod.fst j → RepAt rs j_1) ∧ List.length rs - Prod.fst j < List.length rs - Prod.fst i ∧ (∀ (k : AHeap), (AHeap.Le h k ∧ AHeap.wf k ∧ ∀ (j : Nat), j < List.length rs → RepAt rs j) → AHeap.Le h k ∧ AHeap.wf k ∧ ∀ (j : Nat), j < List.length rs → RepAt rs j) ∧ ∀ (v : Value) (h_1 : AHeap), (v = Value.bool false ∧ AHeap.Le h h_1 ∧ AHeap.wf h_1 ∧ ∃ (j : Nat), j < List.length rs ∧ ¬RepAt rs j) → v = Value.bool false ∧ AHeap.Le h h_1 ∧ AHeap.wf h_1 ∧ ∃ (j : Nat), j < List.length rs ∧ ¬RepAt rs j)))) (∃ (x : Bool), ∃ (h'_1 : AHeap), ACall Try.prog (93 : Nat) [Value.int IntKind.i64 x_1, Value.int IntKind.i64 (1 : Int), Value.int IntKind.i64 (1000000000 : Int)] h' (Value.bool x) h'_1 ∧ bs (!x) (Value.bool false = Value.bool false ∧ AHeap.Le h h'_1 ∧ AHeap.wf h'_1 ∧ ∃ (j : Nat), j < List.length rs ∧ ¬RepAt rs j) (bs (decide ((↑(ByteArray.size x_2) : Int) > (900 : Int))) (Value.bool false = Value.bool false ∧ AHeap.Le h h'_1 ∧ AHeap.wf h'_1 ∧ ∃ (j : Nat), j < List.length rs ∧ ¬RepAt rs j) (∃ (j : Nat × AHeap), Value.complex FloatKind.f32 (0 : Nat) (0 : Nat) = Value.complex FloatKind.f32 (0 : Nat) (0 : Nat) ∧ Value.slice a2 (List.length rs) c2 = Value.slice a2 (List.length rs) c2 ∧ Value.int IntKind.i64 (↑(List.length rs) : Int) = Value.int IntKind.i64 (↑(List.length rs) : Int) ∧ Value.int IntKind.i64 (IntKind.wrap IntKind.i64 ((↑(Prod.fst i) : Int) + (1 : Int))) = Value.int IntKind.i64 (↑(Prod.fst j) : Int) ∧ [Value.slice a1 (List.length ts) c1, Value.slice a2 (List.length rs) c2] = [Value.slice a1 (List.length ts) c1, Value.slice a2 (List.length rs) c2] ∧ Prod.snd j = h'_1 ∧ (Prod.fst j ≤ List.length rs ∧ AHeap.Le h (Prod.snd j) ∧ AHeap.wf (Prod.snd j) ∧ ∀ (j_1 : Nat), j_1 < Prod.fst j → RepAt rs j_1) ∧ List.length rs - Prod.fst j < List.length rs - Prod.fst i ∧ (∀ (k : AHeap), (AHeap.Le h k ∧ AHeap.wf k ∧ ∀ (j : Nat), j < List.length rs → RepAt rs j) → AHeap.Le h k ∧ AHeap.wf k ∧ ∀ (j : Nat), j < List.length rs → RepAt rs j) ∧ ∀ (v : Value) (h_1 : AHeap), (v = Value.bool false ∧ AHeap.Le h h_1 ∧ AHeap.wf h_1 ∧ ∃ (j : Nat), j < List.length rs ∧ ¬RepAt rs j) → v = Value.bool false ∧ AHeap.Le h h_1 ∧ AHeap.wf h_1 ∧ ∃ (j : Nat), j < List.length rs ∧ ¬RepAt rs j))))) (∃ (j : AHeap), Value.complex FloatKind.f32 (0 : Nat) (0 : Nat) = Value.complex FloatKind.f32 (0 : Nat) (0 : Nat) ∧ [Value.slice a1 (List.length ts) c1, Value.slice a2 (List.length rs) c2] = [Value.slice a1 (List.length ts) c1, Value.slice a2 (List.length rs) c2] ∧ j = Prod.snd i ∧ AHeap.Le h j ∧ AHeap.wf j ∧ ∀ (j : Nat), j < List.length rs → RepAt rs j)) ∧ True ∧ (True ∧ True) ∧ (True ∧ True ∧ (True ∧ True) ∧ True) ∧ True) ∧ True ∧ True) = _) ?_
    simp only [true_and, and_true]
    refine ⟨?_, ?_⟩
    · rintro ⟨i, g⟩ ⟨hi, le, wg, hall⟩
      dsimp only at *
      refine bs_d (fun hlt => ?_) (fun hge => ⟨g, rfl, le, wg, fun j hj => hall j (by omega)⟩)
      have hio : i < ts.length := by omega
      obtain ⟨⟨n, b, hs, gs⟩, hat⟩ : ∃ y : ByteArray × Int × List Sh.str.T × List groupSh.T, ts[i]? = some y := ⟨_, List.getElem?_eq_getElem hio⟩
      obtain ⟨l, r, row, ha, _, hrd, hld⟩ := (h1.mono le).elem hat
      obtain ⟨v1, v2, rfl, s1, s2⟩ := rd_topic.1 hrd
      dsimp only at hld s1 s2
      obtain ⟨a3, c3, rfl⟩ := s1.isSlice
      obtain ⟨a4, c4, rfl⟩ := s2.isSlice
      have okt := o1.2 (n, b, hs, gs) (List.mem_of_getElem? hat)
      have step : TopAt ts i → ∀ j, j < i + 1 → TopAt ts j := fun hc j hj => by
        rcases Nat.lt_succ_iff_lt_or_eq.1 hj with hj | rfl
        · exact hall j hj
        · exact hc
      obtain ⟨_, g2, hA, le2, w2, rfl⟩ := isTopic_spec g wg n b hs gs a3 c3 a4 c4 s1 s2 okt
      refine ⟨l, r, ha, Int.natCast_nonneg _, hlt, _, _, _, _, _, _, _, _, hld, _, _, hA, bs_nb (fun e => ⟨le.trans le2, w2, i, hio, fun H => of_trn e (H.out hat).1⟩) (fun e1 => bs_d (fun hpos => ?_) (fun hpos => ?_))⟩
      · have e3 : IntKind.i64.wrap ((i : Int) - 1) = ((i - 1 : Nat) : Int) := by rw [wrap_i64 (by omega)]; omega
        rw [e3]
        obtain ⟨⟨m, q⟩, hat2⟩ : ∃ y : ByteArray × Int × List Sh.str.T × List groupSh.T, ts[i - 1]? = some y := ⟨_, List.getElem?_eq_getElem (by omega)⟩
        obtain ⟨l', r', row', ha', _, hrd', hld'⟩ := (h1.mono (le.trans le2)).elem hat2
        obtain ⟨v3, v4, rfl, _, _⟩ := rd_topic.1 hrd'
        dsimp only at hld'
        refine ⟨l', r', ha', Int.natCast_nonneg _, by omega, _, ld_cells (k := 0) (m := 1) hld' (by simp), bs_nb (fun e => ⟨le.trans le2, w2, i, hio, fun H => ?_⟩) (fun e2 => ?_)⟩
        · have := (H.out hat).2 m q (by omega) hat2
          rw [this] at e; cases e
        · exact ⟨(i + 1, g2), by rw [wrap_i64 (by omega)]; rfl, rfl, ⟨by dsimp only; omega, le.trans le2, w2, step (.mk1 hat (of_tr e1) hat2 e2)⟩, by dsimp only; omega, fun _ h => h, fun _ _ h => h⟩
      · exact ⟨(i + 1, g2), by rw [wrap_i64 (by omega)]; rfl, rfl, ⟨by dsimp only; omega, le.trans le2, w2, step (.mk0 hat (of_tr e1) (by omega))⟩, by dsimp only; omega, fun _ h => h, fun _ _ h => h⟩
    · rintro ⟨i, g⟩ ⟨hi, le, wg, hall⟩
      dsimp only at *
      refine bs_d (fun hlt => ?_) (fun hge => ⟨g, rfl, le, wg, fun j hj => hall j (by omega)⟩)
      have hio : i < rs.length := by omega
      obtain ⟨⟨c, n, t⟩, hat⟩ : ∃ y : Int × Int × ByteArray, rs[i]? = some y := ⟨_, List.getElem?_eq_getElem hio⟩
      obtain ⟨l, r, row, ha, _, hrd, hld⟩ := (h2.mono le).elem hat
      obtain rfl := rd_reply.1 hrd
      dsimp only at hld
      have step : RepAt rs i → ∀ j, j < i + 1 → RepAt rs j := fun hc j hj => by
        rcases Nat.lt_succ_iff_lt_or_eq.1 hj with hj | rfl
        · exact hall j hj
        · exact hc
      refine ⟨l, r, ha, Int.natCast_nonneg _, hlt, _, _, _, hld, _, _, within_spec _ _ _ _, bs_nb (fun e => ⟨le, wg, i, hio, fun H => ?_⟩) (fun e1 => bs_d (fun hpos => ?_) (fun hpos => ?_))⟩
      · have := H.out hat; simp [this.1] at e
      · have e4 : IntKind.i64.wrap ((i : Int) - 1) = ((i - 1 : Nat) : Int) := by rw [wrap_i64 (by omega)]; omega
        rw [e4]
        obtain ⟨⟨d, q⟩, hat2⟩ : ∃ y : Int × Int × ByteArray, rs[i - 1]? = some y := ⟨_, List.getElem?_eq_getElem (by omega)⟩
        obtain ⟨l', r', row', ha', _, hrd', hld'⟩ := (h2.mono le).elem hat2
        obtain rfl := rd_reply.1 hrd'
        dsimp only at hld'
        refine ⟨l', r', ha', Int.natCast_nonneg _, by omega, _, ld_cells (k := 0) (m := 1) hld' (by simp), bs_d (fun e => ⟨le, wg, i, hio, fun H => ?_⟩) (fun e5 => ?_)⟩
        · have := (H.out hat).2.2.2 d q (by omega) hat2; omega
        refine ⟨_, _, within_spec _ _ _ _, bs_nb (fun e => ⟨le, wg, i, hio, fun H => ?_⟩) (fun e2 => bs_d (fun e => ⟨le, wg, i, hio, fun H => ?_⟩) (fun e3 => ?_))⟩
        · have := H.out hat; simp [this.2.1] at e
        · have := H.out hat; omega
        · exact ⟨(i + 1, g), by rw [wrap_i64 (by omega)]; rfl, rfl, ⟨by dsimp only; omega, le, wg, step (.mk1 hat (by simpa using e1) (by simpa using e2) (by omega) hat2 (by omega))⟩, by dsimp only; omega, fun _ h => h, fun _ _ h => h⟩
      · refine ⟨_, _, within_spec _ _ _ _, bs_nb (fun e => ⟨le, wg, i, hio, fun H => ?_⟩) (fun e2 => bs_d (fun e => ⟨le, wg, i, hio, fun H => ?_⟩) (fun e3 => ?_))⟩
        · have := H.out hat; simp [this.2.1] at e
        · have := H.out hat; omega
        · exact ⟨(i + 1, g), by rw [wrap_i64 (by omega)]; rfl, rfl, ⟨by dsimp only; omega, le, wg, step (.mk0 hat (by simpa using e1) (by simpa using e2) (by omega) (by omega))⟩, by dsimp only; omega, fun _ h => h, fun _ _ h => h⟩
  refine vc_mp (by kernel_rfl : (∃ (i : Nat × AHeap), Value.complex FloatKind.f32 (0 : Nat) (0 : Nat) = Value.complex FloatKind.f32 (0 : Nat) (0 : Nat) ∧ Value.slice a1 (List.length ts) c1 = Value.slice a1 (List.length ts) c1 ∧ Value.int IntKind.i64 (↑(List.length ts) : Int) = Value.int IntKind.i64 (↑(List.length ts) : Int) ∧ Value.int IntKind.i64 (0 : Int) = Value.int IntKind.i64 (↑(Prod.fst i) : Int) ∧ [Value.slice a1 (List.length ts) c1, Value.slice a2 (List.length rs) c2] = [Value.slice a1 (List.length ts) c1, Value.slice a2 (List.length rs) c2] ∧ Prod.snd i = h ∧ (Prod.fst i ≤ List.length ts ∧ AHeap.Le h (Prod.snd i) ∧ AHeap.wf (Prod.snd i) ∧ ∀ (j : Nat), j < Prod.fst i → TopAt ts j) ∧ (∀ (j : AHeap), (AHeap.Le h j ∧ AHeap.wf j ∧ ∀ (j : Nat), j < List.length ts → TopAt ts j) → ∃ (i : Nat × AHeap), Value.complex FloatKind.f32 (0 : Nat) (0 : Nat) = Value.complex FloatKind.f32 (0 : Nat) (0 : Nat) ∧ Value.slice a2 (List.length rs) c2 = Value.slice a2 (List.length rs) c2 ∧ Value.int IntKind.i64 (↑(List.length rs) : Int) = Value.int IntKind.i64 (↑(List.length rs) : Int) ∧ Value.int IntKind.i64 (0 : Int) = Value.int IntKind.i64 (↑(Prod.fst i) : Int) ∧ [Value.slice a1 (List.length ts) c1, Value.slice a2 (List.length rs) c2] = [Value.slice a1 (List.length ts) c1, Value.slice a2 (List.length rs) c2] ∧ Prod.snd i = j ∧ (Prod.fst i ≤ List.length rs ∧ AHeap.Le h (Prod.snd i) ∧ AHeap.wf (Prod.snd i) ∧ ∀ (j : Nat), j < Prod.fst i → RepAt rs j) ∧ (∀ (j : AHeap), (AHeap.Le h j ∧ AHeap.wf j ∧ ∀ (j : Nat), j < List.length rs → RepAt rs j) → bs (decide ((↑(List.length ts) : Int) ≤ (4 : Int))) (Q (Value.bool (decide ((↑(List.length rs) : Int) ≤ (9 : Int)))) j) (Q (Value.bool false) j)) ∧ ∀ (v : Value) (h_1 : AHeap), (v = Value.bool false ∧ AHeap.Le h h_1 ∧ AHeap.wf h_1 ∧ ∃ (j : Nat), j < List.length rs ∧ ¬RepAt rs j) → Q v h_1) ∧ ∀ (v : Value) (h_1 : AHeap), (v = Value.bool false ∧ AHeap.Le h h_1 ∧ AHeap.wf h_1 ∧ ∃ (j : Nat), j < List.length ts ∧ ¬TopAt ts j) → Q v h_1) = _) ?_
  have bad : ∀ {v : Value} {g : AHeap}, ¬ BrokerOk ts rs → v = .bool false → h.Le g → g.wf → Q v g := fun hn e l w => HQ _ _ ⟨l, w, e.trans (congrArg _ (tr_false hn))⟩
  refine ⟨(0, h), rfl, rfl, rfl, rfl, rfl, rfl, ⟨Nat.zero_le _, .refl _, hw, fun j hj => absurd hj (Nat.not_lt_zero _)⟩, fun g ⟨le, wg, hall⟩ => ?_, fun v h1 ⟨e1, le, wg, j, hj, hn⟩ => bad (fun H => hn (H.2.2.1 j hj)) e1 le wg⟩
  refine ⟨(0, g), rfl, rfl, rfl, rfl, rfl, rfl, ⟨Nat.zero_le _, le, wg, fun j hj => absurd hj (Nat.not_lt_zero _)⟩, fun g2 ⟨le2, wg2, hall2⟩ => ?_, fun v h1 ⟨e1, le, wg, j, hj, hn⟩ => bad (fun H => hn (H.2.2.2 j hj)) e1 le wg⟩
  refine bs_d (fun e => HQ _ _ ⟨le2, wg2, congrArg _ ?_⟩) (fun e => bad (fun H => by have := H.1; omega) rfl le2 wg2)
  by_cases e2 : (rs.length : Int) ≤ 9
  · rw [decide_eq_true e2]; exact tr_true ⟨by omega, by omega, hall, hall2⟩
  · rw [decide_eq_false e2]; exact tr_false fun H => by have := H.2.1; omega
end Go.Proofs.Ytdcijleeoihlfaa
