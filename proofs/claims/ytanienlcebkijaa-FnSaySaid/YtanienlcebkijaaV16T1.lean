/- T1. -/
import Derived.Test.YtanienlcebkijaaV16S1
namespace Go.Dat
open Go.Abs
def AscAt {α : Type} (k : α → Int) (P : α → Prop) (xs : List α) (i : Nat) : Prop := ∃ x, xs[i]? = some x ∧ P x ∧ ∀ j, i = j + 1 → ∃ y, xs[j]? = some y ∧ k y < k x
def Asc {α : Type} (k : α → Int) (P : α → Prop) (xs : List α) : Prop := ∀ i, i < xs.length → AscAt k P xs i
theorem AscAt.mk0 {α : Type} {k : α → Int} {P : α → Prop} {xs : List α} {i : Nat} {x : α} (e : xs[i]? = some x) (h1 : P x) (hi0 : i = 0) : AscAt k P xs i := ⟨x, e, h1, fun j hj => by omega⟩
theorem AscAt.mk1 {α : Type} {k : α → Int} {P : α → Prop} {xs : List α} {i : Nat} {x y : α} (e : xs[i]? = some x) (h1 : P x) (e2 : xs[i - 1]? = some y) (h2 : k y < k x) : AscAt k P xs i := ⟨x, e, h1, fun j hj => ⟨y, by rw [← e2]; congr 1; omega, h2⟩⟩
theorem AscAt.out {α : Type} {k : α → Int} {P : α → Prop} {xs : List α} {i : Nat} {x : α} (H : AscAt k P xs i) (e : xs[i]? = some x) : P x ∧ ∀ y, 0 < i → xs[i - 1]? = some y → k y < k x := by
  obtain ⟨x', e', h1, h2⟩ := H
  rw [e] at e'
  cases e'
  refine ⟨h1, fun y hp e2 => ?_⟩
  obtain ⟨y', e3, h4⟩ := h2 (i - 1) (by omega)
  rw [e2] at e3
  cases e3
  exact h4
theorem Asc.mem {α : Type} {k : α → Int} {P : α → Prop} {xs : List α} (H : Asc k P xs) {x : α} (hx : x ∈ xs) : P x := by
  obtain ⟨i, hi⟩ := List.mem_iff_getElem?.1 hx
  exact ((H i (List.getElem?_eq_some_iff.1 hi).1).out hi).1
theorem Asc.low {α : Type} {k : α → Int} {P : α → Prop} {xs : List α} (H : Asc k P xs) {lo : Int} (hP : ∀ x, P x → lo ≤ k x) : ∀ (i : Nat) (x : α), xs[i]? = some x → lo + i ≤ k x
  | 0, x, e => by have := hP x ((H 0 (List.getElem?_eq_some_iff.1 e).1).out e).1; omega
  | i + 1, x, e => by
    have hi := (List.getElem?_eq_some_iff.1 e).1
    obtain ⟨y, hy⟩ : ∃ y, xs[i]? = some y := ⟨_, List.getElem?_eq_getElem (by omega)⟩
    have h1 := Asc.low H hP i y hy
    have h2 := ((H (i + 1) hi).out e).2 y (by omega) hy
    omega
theorem Asc.len {α : Type} {k : α → Int} {P : α → Prop} {xs : List α} (H : Asc k P xs) {lo hi : Int} (hP : ∀ x, P x → InR lo hi (k x)) (hb : lo ≤ hi + 1) : (xs.length : Int) ≤ hi - lo + 1 := by
  cases hl : xs.length with
  | zero => omega
  | succ n =>
    obtain ⟨x, hx⟩ : ∃ x, xs[n]? = some x := ⟨_, List.getElem?_eq_getElem (by omega)⟩
    have h1 := H.low (fun x h => (hP x h).1) n x hx
    have h2 := (hP x (H.mem (List.mem_of_getElem? hx))).2
    omega
theorem Asc.nil {α : Type} {k : α → Int} {P : α → Prop} : Asc k P [] := fun _ hi => absurd hi (Nat.not_lt_zero _)
theorem Asc.one {α : Type} {k : α → Int} {P : α → Prop} {x : α} : Asc k P [x] ↔ P x := ⟨fun H => H.mem (List.mem_singleton.2 rfl), fun h i hi => by
  obtain rfl : i = 0 := by simp at hi; omega
  exact .mk0 rfl h rfl⟩
def QuoOk (l : List Sh.int.T) : Prop := Asc (fun x : Int => x) (InR 0 3) l ∧ 3 ≤ l.length
def PrfOk (v q : Int) (op : ByteArray) (l : List Sh.int.T) : Prop := InR 0 7 v ∧ InR 1 6 q ∧ op.size ≤ 120 ∧ QuoOk l
def ChgOk (f v : Int) (ps : List proofSh.T) : Prop := InR 0 3 f ∧ InR 1 7 v ∧ Asc (fun p : proofSh.T => p.2.1) (fun p : proofSh.T => PrfOk p.1 p.2.1 p.2.2.1 p.2.2.2 ∧ (show Int from p.1) < v) ps
def ChgsOk (v : Int) (cs : List changeSh.T) : Prop := Asc (fun c : changeSh.T => c.1) (fun c : changeSh.T => ChgOk c.1 c.2.1 c.2.2 ∧ (show Int from c.2.1) = v) cs
def SayOk (k f v q : Int) (op : ByteArray) (cs : List changeSh.T) : Prop := InR 0 3 f ∧ InR 0 7 v ∧ ChgsOk v cs ∧
  ((InR 1 3 k ∧ InR 1 6 q ∧ op.size ≤ 120 ∧ cs.length = 0 ∧ (k = 1 → f = v % 4)) ∨ (k = 4 ∧ 1 ≤ v ∧ q = 0 ∧ op.size = 0 ∧ cs.length = 1 ∧ ∀ c : changeSh.T, cs[0]? = some c → (show Int from c.1) = f) ∨ (k = 5 ∧ 1 ≤ v ∧ f = v % 4 ∧ q = 0 ∧ op.size = 0 ∧ 3 ≤ cs.length))
theorem QuoOk.len {l : List Sh.int.T} (H : QuoOk l) : l.length ≤ 4 := by
  have := H.1.len (lo := 0) (hi := 3) (fun x h => h) (by omega)
  omega
theorem ChgOk.len {f v : Int} {ps : List proofSh.T} (H : ChgOk f v ps) : ps.length ≤ 6 := by
  have := Asc.len H.2.2 (lo := 1) (hi := 6) (fun x h => h.1.2.1) (by omega)
  omega
theorem ChgsOk.len {v : Int} {cs : List changeSh.T} (H : ChgsOk v cs) : cs.length ≤ 4 := by
  have := Asc.len H (lo := 0) (hi := 3) (fun x h => h.1.1) (by omega)
  omega
theorem inT {lo hi n : Int} (h : (decide (lo ≤ n) && decide (n ≤ hi)) = true) : InR lo hi n := by simpa [InR] using h
theorem inF {lo hi n : Int} (h : (decide (lo ≤ n) && decide (n ≤ hi)) = false) : ¬ InR lo hi n := fun H => by
  obtain ⟨h1, h2⟩ := H
  simp [h1, h2] at h
theorem upto_step {P : Nat → Prop} {i : Nat} (hall : ∀ j, j < i → P j) (hc : P i) : ∀ j, j < i + 1 → P j := fun j hj => by
  rcases Nat.lt_succ_iff_lt_or_eq.1 hj with hj | rfl
  · exact hall j hj
  · exact hc
theorem wrap_pred {i : Nat} (h0 : 0 < i) (h : i ≤ 9223372036854775807) : IntKind.i64.wrap ((i : Int) - 1) = ((i - 1 : Nat) : Int) := by rw [wrap_i64 (by omega)]; omega
theorem quo_dec {l : List Sh.int.T} (hall : ∀ j, j < l.length → AscAt (fun x : Int => x) (InR 0 3) l j) : decide ((l.length : Int) ≥ 3) = tr (QuoOk l) := by
  by_cases h : 3 ≤ l.length
  · rw [← tr_true (p := QuoOk l) ⟨hall, h⟩]; simp; omega
  · rw [← tr_false (p := QuoOk l) (fun H => h H.2)]; simp; omega
theorem tr_congr {p q : Prop} (h : p ↔ q) : tr p = tr q := congrArg tr (propext h)
theorem tr_dec {p : Prop} [Decidable p] : decide p = tr p := by
  by_cases h : p
  · rw [← tr_true h]; simp [h]
  · rw [← tr_false h]; simp [h]
theorem inr_tr {lo hi n : Int} : (decide (lo ≤ n) && decide (n ≤ hi)) = tr (InR lo hi n) := by
  rw [← Bool.decide_and, tr_dec]; rfl
theorem sz_tr {b : Bool} {n : Nat} (h : b = decide ((n : Int) ≤ 120)) : b = tr (n ≤ 120) := by
  rw [h, tr_dec]; exact tr_congr (by omega)
theorem bs_b {b : Bool} {A B : Prop} (h1 : b = true → A) (h2 : b = false → B) : bs b A B := by
  cases b with
  | true => exact h1 rfl
  | false => exact h2 rfl
end Go.Dat
namespace Go.Proofs.Ytanienlcebkijaa
open Go.Abs Go.Dat
set_option maxRecDepth 100000
set_option maxHeartbeats 8000000
def quL (l : List Sh.int.T) (a : Option Addr) (c : Nat) (h : AHeap) (hd : Nat → List (Nat × Value)) : LSpec where
  ι := Nat
  κ := Unit
  I := fun i => i ≤ l.length ∧ ∀ j, j < i → AscAt (fun x : Int => x) (InR 0 3) l j
  μ := fun i => l.length - i
  head := fun i => ⟨(0, .slice a l.length c) :: hd i, [], h⟩
  post := fun _ => ⟨[(0, .slice a l.length c)], [], h⟩
  R := fun _ _ => ∀ j, j < l.length → AscAt (fun x : Int => x) (InR 0 3) l j
  ret := fun _ v h' => v = .bool false ∧ h' = h ∧ ∃ j, j < l.length ∧ ¬ AscAt (fun x : Int => x) (InR 0 3) l j
theorem quorumRight_spec (h : AHeap) (l : List Sh.int.T) (a : Option Addr) (c : Nat) (h1 : Sl h Sh.int l (.slice a l.length c)) (ok : (Sh.sl Sh.int).ok l) :
    ACall Try.prog 109 [.slice a l.length c] h (.bool (tr (QuoOk l))) h := by
  have n1 : l.length ≤ 9223372036854775807 := ok.1
  refine acall_out (acall_vc (fun _ => false) (fun r => match r with | 4 => [(0, 0, []), (1, 0, []), (2, 0, []), (3, 1, []), (4, 3, []), (5, 0, []), (6, 0, []), (7, 0, []), (8, 0, []), (9, 0, []), (10, 0, []), (11, 0, []), (12, 0, []), (13, 0, []), (15, 0, []), (16, 0, []), (17, 0, []), (14, 1, []), (18, 1, []), (19, 0, []), (20, 0, []), (21, 0, [])] | _ => []) (fun _ => quL l a c h fun i => [(3, .int .i64 i)]) mixed Try.func109 rfl rfl rfl (Nat.le_of_ble_eq_true rfl) ?_ ?_)
  · refine vc_mp (by kernel_rfl : (True ∧ (True ∧ (∀ (i : Nat), (i ≤ List.length l ∧ ∀ (j : Nat), j < i → AscAt (fun (x : Int) => x) (InR (0 : Int) (3 : Int)) l j) → bs (decide ((↑i : Int) < (↑(List.length l) : Int))) (∃ (l_1 : Nat), ∃ (r : Nat), a = some (Addr.mk l_1 r (some (1 : Nat))) ∧ (0 : Int) ≤ (↑i : Int) ∧ (↑i : Int) < (↑(List.length l) : Int) ∧ ∃ (x : Int), AHeap.ld h l_1 (r + Int.toNat (↑i : Int)) (0 : Nat) (1 : Nat) = some [Value.int IntKind.i64 x] ∧ ∃ (x_1 : Bool), ∃ (h' : AHeap), ACall Try.prog (73 : Nat) [Value.int IntKind.i64 x] h (Value.bool x_1) h' ∧ bs (!x_1) (Value.bool false = Value.bool false ∧ h' = h ∧ ∃ (j : Nat), j < List.length l ∧ ¬AscAt (fun (x : Int) => x) (InR (0 : Int) (3 : Int)) l j) (bs (decide ((↑i : Int) > (0 : Int))) (∃ (l_2 : Nat), ∃ (r : Nat), a = some (Addr.mk l_2 r (some (1 : Nat))) ∧ (0 : Int) ≤ IntKind.wrap IntKind.i64 ((↑i : Int) - (1 : Int)) ∧ IntKind.wrap IntKind.i64 ((↑i : Int) - (1 : Int)) < (↑(List.length l) : Int) ∧ ∃ (l_3 : Nat), ∃ (r_1 : Nat), a = some (Addr.mk l_3 r_1 (some (1 : Nat))) ∧ (0 : Int) ≤ (↑i : Int) ∧ (↑i : Int) < (↑(List.length l) : Int) ∧ ∃ (x : Int), AHeap.ld h' l_2 (r + Int.toNat (IntKind.wrap IntKind.i64 ((↑i : Int) - (1 : Int)))) (0 : Nat) (1 : Nat) = some [Value.int IntKind.i64 x] ∧ ∃ (x_2 : Int), AHeap.ld h' l_3 (r_1 + Int.toNat (↑i : Int)) (0 : Nat) (1 : Nat) = some [Value.int IntKind.i64 x_2] ∧ bs (decide (x ≥ x_2)) (Value.bool false = Value.bool false ∧ h' = h ∧ ∃ (j : Nat), j < List.length l ∧ ¬AscAt (fun (x : Int) => x) (InR (0 : Int) (3 : Int)) l j) (∃ (j : Nat), Value.slice a (List.length l) c = Value.slice a (List.length l) c ∧ Value.int IntKind.i64 (IntKind.wrap IntKind.i64 ((↑i : Int) + (1 : Int))) = Value.int IntKind.i64 (↑j : Int) ∧ h = h' ∧ (j ≤ List.length l ∧ ∀ (j_1 : Nat), j_1 < j → AscAt (fun (x : Int) => x) (InR (0 : Int) (3 : Int)) l j_1) ∧ List.length l - j < List.length l - i ∧ (∀ (k : Unit), (∀ (j : Nat), j < List.length l → AscAt (fun (x : Int) => x) (InR (0 : Int) (3 : Int)) l j) → ∀ (j : Nat), j < List.length l → AscAt (fun (x : Int) => x) (InR (0 : Int) (3 : Int)) l j) ∧ ∀ (v : Value) (h_1 : AHeap), (v = Value.bool false ∧ h_1 = h ∧ ∃ (j : Nat), j < List.length l ∧ ¬AscAt (fun (x : Int) => x) (InR (0 : Int) (3 : Int)) l j) → v = Value.bool false ∧ h_1 = h ∧ ∃ (j : Nat), j < List.length l ∧ ¬AscAt (fun (x : Int) => x) (InR (0 : Int) (3 : Int)) l j)) (∃ (j : Nat), Value.slice a (List.length l) c = Value.slice a (List.length l) c ∧ Value.int IntKind.i64 (IntKind.wrap IntKind.i64 ((↑i : Int) + (1 : Int))) = Value.int IntKind.i64 (↑j : Int) ∧ h = h' ∧ (j ≤ List.length l ∧ ∀ (j_1 : Nat), j_1 < j → AscAt (fun (x : Int) => x) (InR (0 : Int) (3 : Int)) l j_1) ∧ List.length l - j < List.length l - i ∧ (∀ (k : Unit), (∀ (j : Nat), j < List.length l → AscAt (fun (x : Int) => x) (InR (0 : Int) (3 : Int)) l j) → ∀ (j : Nat), j < List.length l → AscAt (fun (x : Int) => x) (InR (0 : Int) (3 : Int)) l j) ∧ ∀ (v : Value) (h_1 : AHeap), (v = Value.bool false ∧ h_1 = h ∧ ∃ (j : Nat), j < List.length l ∧ ¬AscAt (fun (x : Int) => x) (InR (0 : Int) (3 : Int)) l j) → v = Value.bool false ∧ h_1 = h ∧ ∃ (j : Nat), j < List.length l ∧ ¬AscAt (fun (x : Int) => x) (InR (0 : Int) (3 : Int)) l j))) (∃ (j : Unit), Value.slice a (List.length l) c = Value.slice a (List.length l) c ∧ h = h ∧ ∀ (j : Nat), j < List.length l → AscAt (fun (x : Int) => x) (InR (0 : Int) (3 : Int)) l j)) ∧ (True ∧ True ∧ True) ∧ (True ∧ (True ∧ True) ∧ True) ∧ True) ∧ True ∧ True) = _) ?_
    simp only [true_and, and_true]
    rintro (i : Nat) ⟨hi, hall⟩
    refine bs_d (fun hlt => ?_) (fun hge => ⟨(), fun j hj => hall j (by omega)⟩)
    have hio : i < l.length := by omega
    obtain ⟨x, hat⟩ : ∃ x : Int, l[i]? = some x := ⟨_, List.getElem?_eq_getElem hio⟩
    obtain ⟨lo, r, row, ha, _, hrd, hld⟩ := h1.elem hat
    obtain rfl := hrd
    refine ⟨lo, r, ha, Int.natCast_nonneg _, hlt, _, hld, _, _, l09Who_spec _ _, bs_nb (fun e => ⟨rfl, i, hio, fun H => inF e (H.out hat).1⟩) (fun e1 => bs_d (fun hpos => ?_) (fun hpos => ?_))⟩
    · rw [wrap_pred (i := i) (by omega) (by omega)]
      obtain ⟨y, hat2⟩ : ∃ y : Int, l[i - 1]? = some y := ⟨_, List.getElem?_eq_getElem (by omega)⟩
      obtain ⟨lo', r', row', ha', _, hrd', hld'⟩ := h1.elem hat2
      obtain rfl := hrd'
      refine ⟨lo', r', ha', Int.natCast_nonneg _, by omega, lo, r, ha, Int.natCast_nonneg _, hlt, _, hld', _, hld, bs_d (fun e => ⟨rfl, i, hio, fun H => ?_⟩) (fun e2 => ?_)⟩
      · have h2 : y < x := (H.out hat).2 y (by omega) hat2
        omega
      · exact ⟨i + 1, by rw [wrap_i64 (by omega)]; rfl, rfl, ⟨by omega, upto_step hall (.mk1 hat (inT e1) hat2 (by show y < x; omega))⟩, by omega, fun _ h => h, fun _ _ h => h⟩
    · exact ⟨i + 1, by rw [wrap_i64 (by omega)]; rfl, rfl, ⟨by omega, upto_step hall (.mk0 hat (inT e1) (by omega))⟩, by omega, fun _ h => h, fun _ _ h => h⟩
  refine vc_mp (by kernel_rfl : (∃ (i : Nat), Value.slice a (List.length l) c = Value.slice a (List.length l) c ∧ Value.int IntKind.i64 (0 : Int) = Value.int IntKind.i64 (↑i : Int) ∧ h = h ∧ (i ≤ List.length l ∧ ∀ (j : Nat), j < i → AscAt (fun (x : Int) => x) (InR (0 : Int) (3 : Int)) l j) ∧ (∀ (j : Unit), (∀ (j : Nat), j < List.length l → AscAt (fun (x : Int) => x) (InR (0 : Int) (3 : Int)) l j) → Value.bool (decide ((↑(List.length l) : Int) ≥ (3 : Int))) = Value.bool (tr (QuoOk l)) ∧ h = h) ∧ ∀ (v : Value) (h_1 : AHeap), (v = Value.bool false ∧ h_1 = h ∧ ∃ (j : Nat), j < List.length l ∧ ¬AscAt (fun (x : Int) => x) (InR (0 : Int) (3 : Int)) l j) → v = Value.bool (tr (QuoOk l)) ∧ h_1 = h) = _) ?_
  refine ⟨(0 : Nat), rfl, rfl, rfl, ⟨Nat.zero_le _, fun j hj => absurd hj (Nat.not_lt_zero _)⟩, fun _ hall => ⟨congrArg _ ?_, rfl⟩, fun v h1 ⟨e1, e2, j, hj, hn⟩ => ⟨e1.trans (congrArg _ (tr_false fun H => hn (H.1 j hj))), e2⟩⟩
  exact quo_dec hall
theorem isQuorum_spec (h : AHeap) (l : List Sh.int.T) (a : Option Addr) (c : Nat) (h1 : Sl h Sh.int l (.slice a l.length c)) (ok : (Sh.sl Sh.int).ok l) :
    ACall Try.prog 168 [.slice a l.length c] h (.bool (tr (QuoOk l))) h := by
  have n1 : l.length ≤ 9223372036854775807 := ok.1
  refine acall_out (acall_vc (fun _ => false) (fun _ => []) (fun _ => quL l a c h fun i => [(5, .slice a l.length c), (6, .int .i64 l.length), (7, .int .i64 i)]) mixed Try.func168 rfl rfl rfl (Nat.le_of_ble_eq_true rfl) ?_ ?_)
  · refine vc_mp (by kernel_rfl : (True ∧ (True ∧ (∀ (i : Nat), (i ≤ List.length l ∧ ∀ (j : Nat), j < i → AscAt (fun (x : Int) => x) (InR (0 : Int) (3 : Int)) l j) → bs (decide ((↑i : Int) < (↑(List.length l) : Int))) (∃ (l_1 : Nat), ∃ (r : Nat), a = some (Addr.mk l_1 r (some (1 : Nat))) ∧ (0 : Int) ≤ (↑i : Int) ∧ (↑i : Int) < (↑(List.length l) : Int) ∧ ∃ (x : Int), AHeap.ld h l_1 (r + Int.toNat (↑i : Int)) (0 : Nat) (1 : Nat) = some [Value.int IntKind.i64 x] ∧ ∃ (x_1 : Bool), ∃ (h' : AHeap), ACall Try.prog (70 : Nat) [Value.int IntKind.i64 x] h (Value.bool x_1) h' ∧ bs (!x_1) (Value.bool false = Value.bool false ∧ h' = h ∧ ∃ (j : Nat), j < List.length l ∧ ¬AscAt (fun (x : Int) => x) (InR (0 : Int) (3 : Int)) l j) (bs (decide ((↑i : Int) > (0 : Int))) (∃ (l_2 : Nat), ∃ (r : Nat), a = some (Addr.mk l_2 r (some (1 : Nat))) ∧ (0 : Int) ≤ IntKind.wrap IntKind.i64 ((↑i : Int) - (1 : Int)) ∧ IntKind.wrap IntKind.i64 ((↑i : Int) - (1 : Int)) < (↑(List.length l) : Int) ∧ ∃ (x_2 : Int), AHeap.ld h' l_2 (r + Int.toNat (IntKind.wrap IntKind.i64 ((↑i : Int) - (1 : Int)))) (0 : Nat) (1 : Nat) = some [Value.int IntKind.i64 x_2] ∧ bs (decide (x_2 ≥ x)) (Value.bool false = Value.bool false ∧ h' = h ∧ ∃ (j : Nat), j < List.length l ∧ ¬AscAt (fun (x : Int) => x) (InR (0 : Int) (3 : Int)) l j) (∃ (j : Nat), Value.slice a (List.length l) c = Value.slice a (List.length l) c ∧ Value.slice a (List.length l) c = Value.slice a (List.length l) c ∧ Value.int IntKind.i64 (↑(List.length l) : Int) = Value.int IntKind.i64 (↑(List.length l) : Int) ∧ Value.int IntKind.i64 (IntKind.wrap IntKind.i64 ((↑i : Int) + (1 : Int))) = Value.int IntKind.i64 (↑j : Int) ∧ h = h' ∧ (j ≤ List.length l ∧ ∀ (j_1 : Nat), j_1 < j → AscAt (fun (x : Int) => x) (InR (0 : Int) (3 : Int)) l j_1) ∧ List.length l - j < List.length l - i ∧ (∀ (k : Unit), (∀ (j : Nat), j < List.length l → AscAt (fun (x : Int) => x) (InR (0 : Int) (3 : Int)) l j) → ∀ (j : Nat), j < List.length l → AscAt (fun (x : Int) => x) (InR (0 : Int) (3 : Int)) l j) ∧ ∀ (v : Value) (h_1 : AHeap), (v = Value.bool false ∧ h_1 = h ∧ ∃ (j : Nat), j < List.length l ∧ ¬AscAt (fun (x : Int) => x) (InR (0 : Int) (3 : Int)) l j) → v = Value.bool false ∧ h_1 = h ∧ ∃ (j : Nat), j < List.length l ∧ ¬AscAt (fun (x : Int) => x) (InR (0 : Int) (3 : Int)) l j)) (∃ (j : Nat), Value.slice a (List.length l) c = Value.slice a (List.length l) c ∧ Value.slice a (List.length l) c = Value.slice a (List.length l) c ∧ Value.int IntKind.i64 (↑(List.length l) : Int) = Value.int IntKind.i64 (↑(List.length l) : Int) ∧ Value.int IntKind.i64 (IntKind.wrap IntKind.i64 ((↑i : Int) + (1 : Int))) = Value.int IntKind.i64 (↑j : Int) ∧ h = h' ∧ (j ≤ List.length l ∧ ∀ (j_1 : Nat), j_1 < j → AscAt (fun (x : Int) => x) (InR (0 : Int) (3 : Int)) l j_1) ∧ List.length l - j < List.length l - i ∧ (∀ (k : Unit), (∀ (j : Nat), j < List.length l → AscAt (fun (x : Int) => x) (InR (0 : Int) (3 : Int)) l j) → ∀ (j : Nat), j < List.length l → AscAt (fun (x : Int) => x) (InR (0 : Int) (3 : Int)) l j) ∧ ∀ (v : Value) (h_1 : AHeap), (v = Value.bool false ∧ h_1 = h ∧ ∃ (j : Nat), j < List.length l ∧ ¬AscAt (fun (x : Int) => x) (InR (0 : Int) (3 : Int)) l j) → v = Value.bool false ∧ h_1 = h ∧ ∃ (j : Nat), j < List.length l ∧ ¬AscAt (fun (x : Int) => x) (InR (0 : Int) (3 : Int)) l j))) (∃ (j : Unit), Value.slice a (List.length l) c = Value.slice a (List.length l) c ∧ h = h ∧ ∀ (j : Nat), j < List.length l → AscAt (fun (x : Int) => x) (InR (0 : Int) (3 : Int)) l j)) ∧ True ∧ (True ∧ True) ∧ (True ∧ True ∧ (True ∧ True) ∧ True) ∧ True) ∧ True ∧ True) = _) ?_
    simp only [true_and, and_true]
    rintro (i : Nat) ⟨hi, hall⟩
    refine bs_d (fun hlt => ?_) (fun hge => ⟨(), fun j hj => hall j (by omega)⟩)
    have hio : i < l.length := by omega
    obtain ⟨x, hat⟩ : ∃ x : Int, l[i]? = some x := ⟨_, List.getElem?_eq_getElem hio⟩
    obtain ⟨lo, r, row, ha, _, hrd, hld⟩ := h1.elem hat
    obtain rfl := hrd
    refine ⟨lo, r, ha, Int.natCast_nonneg _, hlt, _, hld, _, _, isReplica_spec _ _, bs_nb (fun e => ⟨rfl, i, hio, fun H => inF e (H.out hat).1⟩) (fun e1 => bs_d (fun hpos => ?_) (fun hpos => ?_))⟩
    · rw [wrap_pred (i := i) (by omega) (by omega)]
      obtain ⟨y, hat2⟩ : ∃ y : Int, l[i - 1]? = some y := ⟨_, List.getElem?_eq_getElem (by omega)⟩
      obtain ⟨lo', r', row', ha', _, hrd', hld'⟩ := h1.elem hat2
      obtain rfl := hrd'
      refine ⟨lo', r', ha', Int.natCast_nonneg _, by omega, _, hld', bs_d (fun e => ⟨rfl, i, hio, fun H => ?_⟩) (fun e2 => ?_)⟩
      · have h2 : y < x := (H.out hat).2 y (by omega) hat2
        omega
      · exact ⟨i + 1, by rw [wrap_i64 (by omega)]; rfl, rfl, ⟨by omega, upto_step hall (.mk1 hat (inT e1) hat2 (by show y < x; omega))⟩, by omega, fun _ h => h, fun _ _ h => h⟩
    · exact ⟨i + 1, by rw [wrap_i64 (by omega)]; rfl, rfl, ⟨by omega, upto_step hall (.mk0 hat (inT e1) (by omega))⟩, by omega, fun _ h => h, fun _ _ h => h⟩
  refine vc_mp (by kernel_rfl : (∃ (i : Nat), Value.slice a (List.length l) c = Value.slice a (List.length l) c ∧ Value.slice a (List.length l) c = Value.slice a (List.length l) c ∧ Value.int IntKind.i64 (↑(List.length l) : Int) = Value.int IntKind.i64 (↑(List.length l) : Int) ∧ Value.int IntKind.i64 (0 : Int) = Value.int IntKind.i64 (↑i : Int) ∧ h = h ∧ (i ≤ List.length l ∧ ∀ (j : Nat), j < i → AscAt (fun (x : Int) => x) (InR (0 : Int) (3 : Int)) l j) ∧ (∀ (j : Unit), (∀ (j : Nat), j < List.length l → AscAt (fun (x : Int) => x) (InR (0 : Int) (3 : Int)) l j) → Value.bool (decide ((↑(List.length l) : Int) ≥ (3 : Int))) = Value.bool (tr (QuoOk l)) ∧ h = h) ∧ ∀ (v : Value) (h_1 : AHeap), (v = Value.bool false ∧ h_1 = h ∧ ∃ (j : Nat), j < List.length l ∧ ¬AscAt (fun (x : Int) => x) (InR (0 : Int) (3 : Int)) l j) → v = Value.bool (tr (QuoOk l)) ∧ h_1 = h) = _) ?_
  refine ⟨(0 : Nat), rfl, rfl, rfl, rfl, rfl, ⟨Nat.zero_le _, fun j hj => absurd hj (Nat.not_lt_zero _)⟩, fun _ hall => ⟨congrArg _ ?_, rfl⟩, fun v h1 ⟨e1, e2, j, hj, hn⟩ => ⟨e1.trans (congrArg _ (tr_false fun H => hn (H.1 j hj))), e2⟩⟩
  exact quo_dec hall
theorem l10View_spec (h : AHeap) (n : Int) : ACall Try.prog 104 [.int .i64 n] h (.bool (tr (InR 0 7 n))) h := by
  refine acall_out (acall_vc (fun _ => false) (fun _ => []) (fun _ => .none) mixed Try.func104 rfl rfl rfl (Nat.le_of_ble_eq_true rfl) (by refine vc_mp (by kernel_rfl : (True ∧ True ∧ True) = _) ?_; simp only [and_self]) ?_)
  refine vc_mp (by kernel_rfl : (∃ (x : Bool), ∃ (h' : AHeap), ACall Try.prog (77 : Nat) [Value.int IntKind.i64 n, Value.int IntKind.i64 (0 : Int), Value.int IntKind.i64 (7 : Int)] h (Value.bool x) h' ∧ Value.bool x = Value.bool (tr (InR (0 : Int) (7 : Int) n)) ∧ h' = h) = _) ?_
  exact ⟨_, _, l03Is_spec _ _ _ _, congrArg _ inr_tr, rfl⟩
theorem l10Seq_spec (h : AHeap) (n : Int) : ACall Try.prog 105 [.int .i64 n] h (.bool (tr (InR 1 6 n))) h := by
  refine acall_out (acall_vc (fun _ => false) (fun _ => []) (fun _ => .none) mixed Try.func105 rfl rfl rfl (Nat.le_of_ble_eq_true rfl) (by refine vc_mp (by kernel_rfl : (True ∧ True ∧ True) = _) ?_; simp only [and_self]) ?_)
  refine vc_mp (by kernel_rfl : (∃ (x : Bool), ∃ (h' : AHeap), ACall Try.prog (77 : Nat) [Value.int IntKind.i64 n, Value.int IntKind.i64 (1 : Int), Value.int IntKind.i64 (6 : Int)] h (Value.bool x) h' ∧ Value.bool x = Value.bool (tr (InR (1 : Int) (6 : Int) n)) ∧ h' = h) = _) ?_
  exact ⟨_, _, l03Is_spec _ _ _ _, congrArg _ inr_tr, rfl⟩
theorem isView_spec (h : AHeap) (n lo : Int) : ACall Try.prog 153 [.int .i64 n, .int .i64 lo] h (.bool (tr (InR lo 7 n))) h := by
  refine acall_out (acall_vc (fun _ => false) (fun _ => []) (fun _ => .none) mixed Try.func153 rfl rfl rfl (Nat.le_of_ble_eq_true rfl) (by refine vc_mp (by kernel_rfl : (True ∧ True ∧ True) = _) ?_; simp only [and_self]) ?_)
  refine vc_mp (by kernel_rfl : (∃ (x : Bool), ∃ (h' : AHeap), ACall Try.prog (76 : Nat) [Value.int IntKind.i64 n, Value.int IntKind.i64 lo, Value.int IntKind.i64 (7 : Int)] h (Value.bool x) h' ∧ Value.bool x = Value.bool (tr (InR lo (7 : Int) n)) ∧ h' = h) = _) ?_
  exact ⟨_, _, within_spec _ _ _ _, congrArg _ inr_tr, rfl⟩
theorem isSeq_spec (h : AHeap) (n : Int) : ACall Try.prog 154 [.int .i64 n] h (.bool (tr (InR 1 6 n))) h := by
  refine acall_out (acall_vc (fun _ => false) (fun _ => []) (fun _ => .none) mixed Try.func154 rfl rfl rfl (Nat.le_of_ble_eq_true rfl) (by refine vc_mp (by kernel_rfl : (True ∧ True ∧ True) = _) ?_; simp only [and_self]) ?_)
  refine vc_mp (by kernel_rfl : (∃ (x : Bool), ∃ (h' : AHeap), ACall Try.prog (76 : Nat) [Value.int IntKind.i64 n, Value.int IntKind.i64 (1 : Int), Value.int IntKind.i64 (6 : Int)] h (Value.bool x) h' ∧ Value.bool x = Value.bool (tr (InR (1 : Int) (6 : Int) n)) ∧ h' = h) = _) ?_
  exact ⟨_, _, within_spec _ _ _ _, congrArg _ inr_tr, rfl⟩
theorem opRight_spec (h : AHeap) (t : ByteArray) : ACall Try.prog 45 [.string t] h (.bool (tr (t.size ≤ 120))) h := by
  refine acall_out (acall_vc (fun _ => false) (fun _ => []) (fun _ => .none) mixed Try.func45 rfl rfl rfl (Nat.le_of_ble_eq_true rfl) (by refine vc_mp (by kernel_rfl : (True ∧ True ∧ True) = _) ?_; simp only [and_self]) ?_)
  refine vc_mp (by kernel_rfl : (Value.bool (decide ((↑(ByteArray.size t) : Int) ≤ (120 : Int))) = Value.bool (tr (ByteArray.size t ≤ (120 : Nat))) ∧ h = h) = _) ?_
  exact ⟨congrArg _ (sz_tr rfl), rfl⟩
theorem isOp_spec (h : AHeap) (t : ByteArray) : ACall Try.prog 111 [.string t] h (.bool (tr (t.size ≤ 120))) h := by
  refine acall_out (acall_vc (fun _ => false) (fun _ => []) (fun _ => .none) mixed Try.func111 rfl rfl rfl (Nat.le_of_ble_eq_true rfl) (by refine vc_mp (by kernel_rfl : (True ∧ True ∧ True) = _) ?_; simp only [and_self]) ?_)
  refine vc_mp (by kernel_rfl : (Value.bool (decide ((↑(ByteArray.size t) : Int) ≤ (120 : Int))) = Value.bool (tr (ByteArray.size t ≤ (120 : Nat))) ∧ h = h) = _) ?_
  exact ⟨congrArg _ (sz_tr rfl), rfl⟩
theorem specLeader (h : AHeap) (n : Int) (hn : 0 ≤ n) : ACall Try.prog 106 [.int .i64 n] h (.int .i64 (n % 4)) h := by
  refine acall_out (acall_vc (fun _ => false) (fun _ => []) (fun _ => .none) mixed Try.func106 rfl rfl rfl (Nat.le_of_ble_eq_true rfl) (by refine vc_mp (by kernel_rfl : (True ∧ (True ∧ (True ∧ True) ∧ True) ∧ True ∧ True) = _) ?_; simp only [and_self]) ?_)
  refine vc_mp (by kernel_rfl : (bs (decide (n < (0 : Int))) (Value.int IntKind.i64 (0 : Int) = Value.int IntKind.i64 (n % (4 : Int)) ∧ h = h) ((4 : Int) ≠ (0 : Int) ∧ Value.int IntKind.i64 (Int.tmod n (4 : Int)) = Value.int IntKind.i64 (n % (4 : Int)) ∧ h = h)) = _) ?_
  exact bs_d (fun e => by omega) (fun _ => ⟨by decide, by rw [Int.tmod_eq_emod_of_nonneg hn], rfl⟩)
theorem leader_spec (h : AHeap) (n : Int) (hn : 0 ≤ n) : ACall Try.prog 155 [.int .i64 n] h (.int .i64 (n % 4)) h := by
  refine acall_out (acall_vc (fun _ => false) (fun _ => []) (fun _ => .none) mixed Try.func155 rfl rfl rfl (Nat.le_of_ble_eq_true rfl) (by refine vc_mp (by kernel_rfl : (True ∧ (True ∧ (True ∧ True) ∧ True) ∧ True ∧ True) = _) ?_; simp only [and_self]) ?_)
  refine vc_mp (by kernel_rfl : (bs (decide (n < (0 : Int))) (Value.int IntKind.i64 (0 : Int) = Value.int IntKind.i64 (n % (4 : Int)) ∧ h = h) ((4 : Int) ≠ (0 : Int) ∧ Value.int IntKind.i64 (Int.tmod n (4 : Int)) = Value.int IntKind.i64 (n % (4 : Int)) ∧ h = h)) = _) ?_
  exact bs_d (fun e => by omega) (fun _ => ⟨by decide, by rw [Int.tmod_eq_emod_of_nonneg hn], rfl⟩)
theorem proofRight_spec (h : AHeap) (v q : Int) (op : ByteArray) (l : List Sh.int.T) (a : Option Addr) (c : Nat) (h1 : Sl h Sh.int l (.slice a l.length c)) (ok : (Sh.sl Sh.int).ok l) :
    ACall Try.prog 41 [.agg #[.int .i64 v, .int .i64 q, .string op, .slice a l.length c]] h (.bool (tr (PrfOk v q op l))) h := by
  refine acall_out (acall_vc (fun _ => false) (fun _ => []) (fun _ => .none) mixed Try.func41 rfl rfl rfl (Nat.le_of_ble_eq_true rfl) (by refine vc_mp (by kernel_rfl : (True ∧ True ∧ True) = _) ?_; simp only [and_self]) ?_)
  refine vc_mp (by kernel_rfl : (∃ (x : Bool), ∃ (h' : AHeap), ACall Try.prog (104 : Nat) [Value.int IntKind.i64 v] h (Value.bool x) h' ∧ bs x (∃ (x : Bool), ∃ (h'_1 : AHeap), ACall Try.prog (105 : Nat) [Value.int IntKind.i64 q] h' (Value.bool x) h'_1 ∧ bs x (∃ (x : Bool), ∃ (h' : AHeap), ACall Try.prog (45 : Nat) [Value.string op] h'_1 (Value.bool x) h' ∧ bs x (∃ (x : Bool), ∃ (h'_2 : AHeap), ACall Try.prog (109 : Nat) [Value.slice a (List.length l) c] h' (Value.bool x) h'_2 ∧ Value.bool x = Value.bool (tr (PrfOk v q op l)) ∧ h'_2 = h) (Value.bool false = Value.bool (tr (PrfOk v q op l)) ∧ h' = h)) (Value.bool false = Value.bool (tr (PrfOk v q op l)) ∧ h'_1 = h)) (Value.bool false = Value.bool (tr (PrfOk v q op l)) ∧ h' = h)) = _) ?_
  refine ⟨_, _, l10View_spec _ _, bs_b (fun e1 => ?_) (fun e => ⟨congrArg _ (tr_false fun H => of_trn e H.1), rfl⟩)⟩
  refine ⟨_, _, l10Seq_spec _ _, bs_b (fun e2 => ?_) (fun e => ⟨congrArg _ (tr_false fun H => of_trn e H.2.1), rfl⟩)⟩
  refine ⟨_, _, opRight_spec _ _, bs_b (fun e3 => ?_) (fun e => ⟨congrArg _ (tr_false fun H => of_trn e H.2.2.1), rfl⟩)⟩
  exact ⟨_, _, quorumRight_spec _ l a c h1 ok, congrArg _ (tr_congr ⟨fun H => ⟨of_tr e1, of_tr e2, of_tr e3, H⟩, fun H => H.2.2.2⟩), rfl⟩
theorem isProof_spec (h : AHeap) (v q : Int) (op : ByteArray) (l : List Sh.int.T) (a : Option Addr) (c : Nat) (h1 : Sl h Sh.int l (.slice a l.length c)) (ok : (Sh.sl Sh.int).ok l) :
    ACall Try.prog 108 [.agg #[.int .i64 v, .int .i64 q, .string op, .slice a l.length c]] h (.bool (tr (PrfOk v q op l))) h := by
  refine acall_out (acall_vc (fun _ => false) (fun _ => []) (fun _ => .none) mixed Try.func108 rfl rfl rfl (Nat.le_of_ble_eq_true rfl) (by refine vc_mp (by kernel_rfl : (True ∧ True ∧ True) = _) ?_; simp only [and_self]) ?_)
  refine vc_mp (by kernel_rfl : (∃ (x : Bool), ∃ (h' : AHeap), ACall Try.prog (153 : Nat) [Value.int IntKind.i64 v, Value.int IntKind.i64 (0 : Int)] h (Value.bool x) h' ∧ bs x (∃ (x : Bool), ∃ (h'_1 : AHeap), ACall Try.prog (154 : Nat) [Value.int IntKind.i64 q] h' (Value.bool x) h'_1 ∧ bs x (∃ (x : Bool), ∃ (h' : AHeap), ACall Try.prog (111 : Nat) [Value.string op] h'_1 (Value.bool x) h' ∧ bs x (∃ (x : Bool), ∃ (h'_2 : AHeap), ACall Try.prog (168 : Nat) [Value.slice a (List.length l) c] h' (Value.bool x) h'_2 ∧ Value.bool x = Value.bool (tr (PrfOk v q op l)) ∧ h'_2 = h) (Value.bool false = Value.bool (tr (PrfOk v q op l)) ∧ h' = h)) (Value.bool false = Value.bool (tr (PrfOk v q op l)) ∧ h'_1 = h)) (Value.bool false = Value.bool (tr (PrfOk v q op l)) ∧ h' = h)) = _) ?_
  refine ⟨_, _, isView_spec _ _ _, bs_b (fun e1 => ?_) (fun e => ⟨congrArg _ (tr_false fun H => of_trn e H.1), rfl⟩)⟩
  refine ⟨_, _, isSeq_spec _ _, bs_b (fun e2 => ?_) (fun e => ⟨congrArg _ (tr_false fun H => of_trn e H.2.1), rfl⟩)⟩
  refine ⟨_, _, isOp_spec _ _, bs_b (fun e3 => ?_) (fun e => ⟨congrArg _ (tr_false fun H => of_trn e H.2.2.1), rfl⟩)⟩
  exact ⟨_, _, isQuorum_spec _ l a c h1 ok, congrArg _ (tr_congr ⟨fun H => ⟨of_tr e1, of_tr e2, of_tr e3, H⟩, fun H => H.2.2.2⟩), rfl⟩
end Go.Proofs.Ytanienlcebkijaa
