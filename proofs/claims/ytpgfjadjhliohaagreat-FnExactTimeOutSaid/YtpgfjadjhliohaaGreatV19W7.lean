/- V7, W7. -/
import Derived.Test.YtpgfjadjhliohaaGreatV19W0
import Derived.Test.YtpgfjadjhliohaaGreatV19W6
section
namespace Go.Dat
open Go.Abs
theorem Sh.flat_rd {h g : AHeap} : ∀ {s : Sh}, s.flat = true → ∀ {x : s.T} {cs : List Value}, s.rd h x cs → s.rd g x cs := fun hf _ _ r => (Sh.flat_rn hf r).ro.rd
theorem SoB.appR {s : Sh} (hf : s.flat = true) {h0 h : AHeap} {a : Option Addr} {n c : Nat} {xs : List s.T} {ids : List Nat} (B : SoB s h0 h a n c xs ids) {ys : List s.T} {a2 : Option Addr} {m c2 : Nat} (hy : Sl h0 s ys (.slice a2 m c2)) :
    ∃ rows, rowsV h (.slice a2 m c2) = some rows ∧ chkR s.cells rows ∧ rows.length = m ∧ ∃ a' c' h' ids', h.app (.slice a n c) rows s.cells = some (.slice a' (n + m) c', h') ∧ SoB s h0 h' a' (n + m) c' (xs ++ ys) ids' ∧ h.n ≤ h'.n ∧ (∀ z o, z ∉ ids → h.get z = some o → h'.get z = some o) ∧ ∀ z ∈ ids', z ∈ ids ∨ z = h.n := by
  obtain ⟨rows, h2, hl, hall, hrd⟩ := hy.rows
  have hm := hy.len
  have nb := B.len
  refine ⟨rows, B.le.rowsOf h2, hall, hl, ?_⟩
  cases rows with
  | nil =>
    have e0 : m = 0 := by rw [← hl]; rfl
    have e1 : ys = [] := List.eq_nil_of_length_eq_zero (by omega)
    subst e1; subst e0
    exact ⟨a, c, h, ids, rfl, by rw [List.append_nil]; exact B, Nat.le_refl _, fun _ _ _ e => e, fun _ e => .inl e⟩
  | cons r rs =>
    have sz : (xs ++ ys).length = n + m := by rw [List.length_append]; omega
    obtain ⟨rfl, rfl, rfl, rfl⟩ | ⟨l, rows0, idss, rfl, hg, hr, hi, rfl, hc, hx⟩ := B.at_
    · have e0 : xs = [] := List.eq_nil_of_length_eq_zero nb
      subst e0
      refine ⟨_, 0, _, [h.n], by rw [← hl, Nat.zero_add]; rfl, ?_, Nat.le_succ _, fun z o _ e => (AHeap.Le.push B.wf _).get z o e, fun z e => .inr (List.mem_singleton.1 e)⟩
      exact SoB.flat hf (B.le.trans (.push B.wf ⟨r :: rs, s.cells, true⟩)) (B.wf.push _) B.wf0 B.le.n sz AHeap.get_push_eq (by rw [hl, Nat.zero_add]) (.inl rfl) hrd
    · have hro : h.rowsOf (.slice (some ⟨l, 0, some s.cells⟩) n c) = some rows0 := by rw [get_rowsOf hg (by omega), List.drop_zero, List.take_of_length_le (by omega)]
      have hlt : l < h.n := B.wf.lt hg
      have h0l : h0.n ≤ l := (B.fr.bd l List.mem_cons_self).1
      have hrd2 : ∀ (i : Nat) (y : s.T) (row : List Value), (xs ++ ys)[i]? = some y → (rows0 ++ r :: rs)[i]? = some row → s.rd h0 y row := by
        intro i y row e1 e2
        by_cases c1 : i < n
        · rw [List.getElem?_append_left (by omega)] at e1 e2
          exact Sh.flat_rd hf (hx i y row _ e1 e2 (List.getElem?_eq_getElem (by omega))).ro.rd
        · rw [List.getElem?_append_right (by omega)] at e1 e2
          rw [nb] at e1; rw [hr] at e2
          exact hrd _ y row e1 e2
      have len2 : (rows0 ++ r :: rs).length = n + m := by rw [List.length_append]; omega
      unfold AHeap.app
      dsimp only
      rw [hro]
      dsimp only
      rw [beq_self_eq_true, cond_true]
      cases hcc : (c != 0 && decide (c ≤ n + (r :: rs).length)) with
      | true =>
        rw [cond_true]
        exact ⟨_, 0, _, [h.n], by rw [hl], SoB.flat hf (B.le.trans (.push B.wf ⟨rows0 ++ r :: rs, s.cells, true⟩)) (B.wf.push _) B.wf0 B.le.n sz AHeap.get_push_eq len2 (.inl rfl) hrd2, Nat.le_succ _, fun z o _ e => (AHeap.Le.push B.wf _).get z o e, fun z e => .inr (List.mem_singleton.1 e)⟩
      | false =>
        rw [cond_false, hg]
        dsimp only
        have hno : (c != 0 && decide (0 + n + (r :: rs).length ≤ rows0.length)) = false := by
          rw [Bool.and_eq_false_iff]; right; rw [decide_eq_false_iff_not]; rw [hl, hr]
          have : 0 < m := by rw [← hl]; simp
          omega
        rw [cond_true, hno, cond_false]
        have w2 : (h.put l none).wf := B.wf.put hlt _
        exact ⟨_, 0, _, [h.n], by rw [hl], SoB.flat hf ((B.le.put (B.wf0 l h0l) none).trans (.push w2 ⟨rows0 ++ r :: rs, s.cells, true⟩)) (w2.push _) B.wf0 B.le.n sz (by show ((h.put l none).push _).get (h.put l none).n = _; exact AHeap.get_push_eq) len2 (.inl rfl) hrd2, Nat.le_succ _, fun z o hz e => (AHeap.Le.push w2 _).get z o (by rw [AHeap.get_put_ne (fun e2 => hz (by rw [e2]; exact List.mem_cons_self))]; exact e), fun z e => .inr (List.mem_singleton.1 e)⟩
theorem rows_sub {h : AHeap} {l r e n c i m c' : Nat} {rows : List (List Value)} (hr : h.rowsOf (.slice (some ⟨l, r, some e⟩) n c) = some rows) (hi : i + m ≤ n) : h.rowsOf (.slice (some ⟨l, r + i, some e⟩) m c') = some ((rows.drop i).take m) := by
  unfold AHeap.rowsOf at hr ⊢
  dsimp only at hr ⊢
  cases hg : h.get l with
  | none => rw [hg] at hr; cases hr
  | some o =>
    rw [hg] at hr
    dsimp only at hr ⊢
    cases h1 : o.esz == e with
    | false => rw [h1] at hr; cases hr
    | true =>
      rw [h1] at hr
      simp only [Bool.true_and] at hr ⊢
      by_cases h2 : r + n ≤ o.rows.length
      · rw [decide_eq_true h2] at hr
        rw [decide_eq_true (by omega : r + i + m ≤ o.rows.length)]
        cases hr
        show some _ = some _
        rw [List.drop_take, List.drop_drop, List.take_take, Nat.min_eq_left (by omega)]
      · rw [decide_eq_false h2] at hr; cases hr
theorem Sl.sub {h : AHeap} {s : Sh} {xs : List s.T} {a : Option Addr} {n c : Nat} (x : Sl h s xs (.slice a n c)) {i m : Nat} (hi : i + m ≤ n) : Sl h s ((xs.drop i).take m) (.slice (a.map fun x => ⟨x.block, x.off + i, x.spot⟩) m (bif decide (c = 0) then 0 else c - i)) := by
  obtain ⟨a', n', c'', rows, e, h1, h2, h3, h4⟩ := x
  cases e
  rcases h1 with ⟨rfl, rfl, rfl⟩ | ⟨l, r, rfl⟩
  · have hm : m = 0 := by omega
    subst hm
    exact ⟨none, 0, 0, [], rfl, .inl ⟨rfl, rfl, rfl⟩, rfl, by simp, fun i y row hy => by simp at hy⟩
  · refine ⟨_, _, _, _, rfl, .inr ⟨_, _, rfl⟩, rows_sub h2 hi, by rw [List.length_take, List.length_drop]; omega, fun j y row hy hr => ?_⟩
    rw [List.getElem?_take] at hy hr
    split at hy
    · rename_i hj
      rw [if_pos hj, List.getElem?_drop] at hr
      rw [List.getElem?_drop] at hy
      exact h4 _ y row hy hr
    · cases hy
end Go.Dat
end
section
namespace Go.Dat
open Go.Abs
theorem _root_.Go.Dat.SoB.rebase {s : Sh} {h' h0 h : AHeap} {a : Option Addr} {n c : Nat} {xs : List s.T} {ids : List Nat} (B : SoB s h0 h a n c xs ids) (le : h'.Le h0) (wf : h'.wf) : SoB s h' h a n c xs ids :=
  ⟨le.trans B.le, B.wf, wf, B.len, B.fr.widen le.n (Nat.le_refl _), B.at_⟩
end Go.Dat
namespace Go.Proofs.YtpgfjadjhliohaaGreat
open Go.Abs Go.Dat
set_option maxRecDepth 100000
set_option maxHeartbeats 8000000
def soL (h : AHeap) (a : Option Addr) (c : Nat) (l : List voteSh.T) (k v q : Int) : Nat → LSpec
  | 0 => {
    ι := Nat × OX ByteArray
    κ := OX ByteArray
    I := fun i => i.1 ≤ l.length ∧ OXok Sh.str h i.2 ∧ (∀ t, t ∈ i.2.xs ↔ t ∈ opsL (l.take i.1) k v q) ∧ i.2.xs.length ≤ i.1
    μ := fun i => l.length - i.1
    head := fun i => ⟨[(0, .slice a l.length c), (1, .int .i64 k), (2, .int .i64 v), (3, .int .i64 q), (9, .slice i.2.a i.2.xs.length i.2.c), (10, .int .i64 i.1)], [], i.2.g⟩
    post := fun o => ⟨[(9, .slice o.a o.xs.length o.c)], [], o.g⟩
    R := fun _ o => OXok Sh.str h o ∧ (∀ t, t ∈ o.xs ↔ t ∈ opsL l k v q) ∧ o.xs.length ≤ l.length
    ret := fun _ _ _ => False }
  | _ => {
    ι := Nat × Vt × Nat × OX ByteArray
    κ := Nat × Vt × Nat × OX ByteArray
    I := fun i => i.2.2.1 ≤ i.2.2.2.xs.length ∧ OXok Sh.str h i.2.2.2 ∧ i.2.2.2.xs.length ≤ 400
    μ := fun i => i.2.2.2.xs.length - i.2.2.1
    head := fun i => ⟨[(0, .slice a l.length c), (1, .int .i64 k), (2, .int .i64 v), (3, .int .i64 q), (9, .slice i.2.2.2.a i.2.2.2.xs.length i.2.2.2.c), (10, .int .i64 i.1), (11, .complex .f32 0 0), (12, .int .i64 i.2.2.1)], [[.int .i64 i.2.1.1, .int .i64 i.2.1.2.1, .int .i64 i.2.1.2.2.1, .string i.2.1.2.2.2.1, .int .i64 i.2.1.2.2.2.2]], i.2.2.2.g⟩
    post := fun i => ⟨[(0, .slice a l.length c), (1, .int .i64 k), (2, .int .i64 v), (3, .int .i64 q), (9, .slice i.2.2.2.a i.2.2.2.xs.length i.2.2.2.c), (10, .int .i64 i.1), (11, .complex .f32 0 0), (12, .int .i64 i.2.2.1)], [[.int .i64 i.2.1.1, .int .i64 i.2.1.2.1, .int .i64 i.2.1.2.2.1, .string i.2.1.2.2.2.1, .int .i64 i.2.1.2.2.2.2]], i.2.2.2.g⟩
    R := fun i o => o.1 = i.1 ∧ o.2.1 = i.2.1 ∧ o.2.2.2 = i.2.2.2 ∧ o.2.2.1 ≤ i.2.2.2.xs.length
    ret := fun _ _ _ => False }
abbrev Qfp := Option Addr
abbrev Qfq := List (Sh.T voteSh)
abbrev Qfr := OX ByteArray
abbrev Qfs := Nat × Vt × Nat × OX ByteArray
abbrev Qft := Nat × (Int × Int × Int × ByteArray × Int) × Nat × OX ByteArray
abbrev Qfu := Nat × OX ByteArray
abbrev Qfv := List (List Value)
def Qe9 (a b c d e : Prop) := a ∧ b ∧ c ∧ d ∧ e
def Qea := True ∧ True ∧ True
def Qeb (a : Int) := Value.int IntKind.i64 a
def Qec (a b : Int) := Qeb a = Qeb b
def Qed (a : Qfp) (b : Qfq) (c : Nat) (d e f : Int) (g : Prop) := Qe9 (Value.slice a (List.length b) c = Value.slice a (List.length b) c) (Qec d d) (Qec e e) (Qec f f) g
def Qee (a : Qfr) := List.length (OX.xs a)
def Qef (a : Qfs) := Prod.snd (Prod.snd a)
def Qeg (a : Qfs) := Prod.snd (Qef a)
def Qeh (a : Qfs) := Qee (Qeg a)
def Qei (a b : Qfs) := Prod.fst (Qef a) ≤ Qeh b
def Qej (a : Qfs) := Prod.fst (Prod.snd a)
def Qek (a : Qfs) := OX.g (Qeg a)
def Qel (a : Qft) := Prod.fst (Prod.snd a)
def Qem (a : Qft) := Prod.snd (Prod.snd (Prod.snd (Qel a)))
def Qen (a : Qft) := Value.string (Prod.fst (Qem a))
def Qeo (a : Qft) := [Qeb (Prod.fst (Qel a)), Qeb (Prod.fst (Prod.snd (Qel a))), Qeb (Prod.fst (Prod.snd (Prod.snd (Qel a)))), Qen a, Qeb (Prod.snd (Qem a))]
def Qep (a : Qfu) := (↑(Prod.fst a) : Int)
def Qeq (a : Qfs) := Qep (Qef a)
def Qer := (0 : Nat)
def Qes := Value.complex FloatKind.f32 Qer Qer
def Qet (a : Qfs) := (↑(Prod.fst a) : Int)
def Qeu (a : Qfr) (b : Nat) := Value.slice (OX.a a) (Qee a) b
def Qev (a : Qfs) := OX.c (Qeg a)
def Qew (a : Qfs) := Qeu (Qeg a) (Qev a)
def Qex (a : Prop) (b c : Qfs) := a ∧ Qej b = Qej c ∧ Qeg b = Qeg c ∧ Qei b c
def Qey (a : AHeap) (b : OX (Sh.T Sh.str)) := OXok Sh.str a b
def Qez (a : Qfs) (b : AHeap) (c : Nat × Vt × Nat × OX (Sh.T Sh.str)) (d : Prop) := Qei a a ∧ Qey b (Prod.snd (Prod.snd (Prod.snd c))) ∧ d
def Qf0 (a : Int) := IntKind.wrap IntKind.i64 a
def Qf1 (a : Int) := a + 1
def Qf2 := (1 : Nat)
def Qf3 (a : Qfs) := Int.toNat (Qeq a)
def Qf4 (a : Qfs) := (↑(Qeh a) : Int)
def Qf5 (a : Qfs) := 0 ≤ Qeq a
def Qf6 (a : Qfs) (b : Addr) := OX.a (Qeg a) = some b
def Qf7 := some Qf2
def Qf8 (a : Nat) (b : Qfq) := a ≤ List.length b
def Qf9 (a : Qfr) (b : ByteArray) (c : Qfq) (d e f : Int) := Iff (Membership.mem (OX.xs a) b) (Membership.mem (opsL c d e f) b)
def Qfa (a : Qfu) := OX.g (Prod.snd a)
def Qfb (a : Qfu) := Qeu (Prod.snd a) (OX.c (Prod.snd a))
def Qfc (a : Option (List (List Value))) (b : Qfv) (c : Nat) (d : Prop) := a = some b ∧ List.all b (fun (row : List Value) =>
  decide (List.length row = (1 : Nat)) &&
    List.all row fun (v : Value) =>
      match v with
      | Value.agg cells => false
      | Value.tuple cells => false
      | Value.complex k re im => false
      | Value.chan r => false
      | x => true) = true ∧ (c + List.length b) * 16 ≤ 140737488355328 ∧ d
def Qfd (a : Qfp) (b : Qfq) (c : Nat) (d e f : Int) (g : Prop) (h : Int) (i : Qfu) (j : Prop) (k : AHeap) (l : Nat × OX (Sh.T Sh.str)) (m n : Prop) := Qed a b c d e f (Qe9 g (Qec h (Qep i)) j (Qf8 (Prod.fst i) b ∧ Qey k (Prod.snd l) ∧ m ∧ Qee (Prod.snd i) ≤ Prod.fst i) n)
def Qfe (a : Qfq) (b c : Qfu) (d e : Prop) := List.length a - Prod.fst b < List.length a - Prod.fst c ∧ d ∧ e
def Qff (a : AHeap) (b : OX (Sh.T Sh.str)) (c : Prop) (d : Qfr) (e : Qfq) := Qey a b ∧ c ∧ Qf8 (Qee d) e → Qey a b ∧ c ∧ Qf8 (Qee d) e
def Qfg (a : Qfu) (b : ByteArray) (c : Qfq) (d e f : Int) := Qf9 (Prod.snd a) b (List.take (Prod.fst a) c) d e f
def Qfh (a : AHeap) (b : Qfp) (c d : Nat) (e : Qfv) (f : Qfp) (g h : Nat) (i : AHeap) := AHeap.app a (Value.slice b c d) e Qf2 = some (Prod.mk (Value.slice f g h) i)
def Qfi (a : AHeap) (b : Qfp) (c : Nat) (d : Bool) (e : Nat) := rowsV a (Value.slice b c (cond d Qer e))
def Qfj (a : Qfs) := Qeq a ≤ Qf4 a
def Qfk (a : AHeap) (b : Qfv) := AHeap.push a (AObj.mk b Qf2 true)
def Qfl (a : AHeap) := some (Addr.mk (AHeap.n a) Qer Qf7)
def Qfm (a : Qfs) := Qfk (Qek a) List.nil
def Qfn := Int.toNat 0
def Qfo (a : Qfp) := Option.map (fun (x : Addr) => Addr.mk (Addr.block x) (Addr.off x + Int.toNat (0 : Int)) (Addr.spot x)) a
theorem l11Ops_spec (h : AHeap) (hw : h.wf) (a : Option Addr) (c : Nat) (l : List voteSh.T) (k v q : Int) (hx : Sl h voteSh l (.slice a l.length c)) (H : VotsOk l) :
    ∃ r h', ACall Tryz.prog 143 [.slice a l.length c, .int .i64 k, .int .i64 v, .int .i64 q] h r h' ∧ ∃ o : OX ByteArray, r = .slice o.a o.xs.length o.c ∧ h' = o.g ∧ OXok Sh.str h o ∧ (∀ t, t ∈ o.xs ↔ ∃ f, (k, v, q, t, f) ∈ l) ∧ o.xs.length ≤ 400 := by
  have n1 := H.1
  refine acall_q fun Q HQ => ?_
  refine acall_vc (fun _ => false) (fun r => match r with | 8 => [(0, 0, []), (1, 0, []), (2, 0, []), (3, 0, []), (4, 0, []), (5, 0, []), (6, 0, []), (7, 0, []), (9, 0, []), (8, 1, []), (10, 1, []), (11, 0, []), (12, 0, [])] | 10 => [(0, 0, []), (1, 0, []), (2, 0, []), (3, 0, []), (4, 0, []), (5, 0, []), (6, 0, []), (7, 0, []), (9, 0, []), (8, 1, []), (10, 1, []), (11, 0, []), (12, 0, [])] | _ => []) (soL h a c l k v q) mixed Tryz.func143 rfl rfl rfl (Nat.le_of_ble_eq_true rfl) ?_ ?_
  · (refine vc_mp (by kernel_rfl : (Qe9 True True (Qe9 True (∀ (i : Nat × OX ByteArray), Qf8 (Prod.fst i) l ∧ Qey h (Prod.snd i) ∧ (∀ (t : ByteArray), Qfg i t l k v q) ∧ Qee (Prod.snd i) ≤ Prod.fst i → bs (decide (Qep i < (↑(List.length l) : Int))) (∃ (l_1 r : Nat), a = some (Addr.mk l_1 r (some 5)) ∧ 0 ≤ Qep i ∧ Qep i < (↑(List.length l) : Int) ∧ (∃ (x x_1 x_2 : Int) (x_3 : ByteArray) (x_4 : Int), AHeap.ld (Qfa i) l_1 (r + Int.toNat (Qep i)) Qer 5 = some [Qeb x, Qeb x_1, Qeb x_2, Value.string x_3, Qeb x_4] ∧ bs (not (decide (x = k))) (∃ (j : Nat × OX ByteArray), Qfd a l c k v q (Qfb i = Qfb j) (Qf0 (Qf1 (Qep i))) j (Qfa j = Qfa i) h j (∀ (t : ByteArray), Qfg j t l k v q) (Qfe l j i (∀ (k_1 : OX ByteArray), Qff h k_1 (∀ (t : ByteArray), Qf9 k_1 t l k v q) k_1 l) (∀ (v : Value) (h : AHeap), False → False))) (bs (not (decide (x_1 = v))) (∃ (j : Nat × OX ByteArray), Qfd a l c k v q (Qfb i = Qfb j) (Qf0 (Qf1 (Qep i))) j (Qfa j = Qfa i) h j (∀ (t : ByteArray), Qfg j t l k v q) (Qfe l j i (∀ (k_1 : OX ByteArray), Qff h k_1 (∀ (t : ByteArray), Qf9 k_1 t l k v q) k_1 l) (∀ (v : Value) (h : AHeap), False → False))) (bs (not (decide (x_2 = q))) (∃ (j : Nat × OX ByteArray), Qfd a l c k v q (Qfb i = Qfb j) (Qf0 (Qf1 (Qep i))) j (Qfa j = Qfa i) h j (∀ (t : ByteArray), Qfg j t l k v q) (Qfe l j i (∀ (k_1 : OX ByteArray), Qff h k_1 (∀ (t : ByteArray), Qf9 k_1 t l k v q) k_1 l) (∀ (v : Value) (h : AHeap), False → False))) (∃ (i_1 : Nat × Vt × Nat × OX ByteArray), Qed a l c k v q (Qe9 (Qfb i = Qew i_1) (Qec (Qep i) (Qet i_1)) (Qes = Qes) (Qec 0 (Qeq i_1)) (Qe9 (Qeo i_1 = [Qeb x, Qeb x_1, Qeb x_2, Value.string x_3, Qeb x_4]) (Qek i_1 = Qfa i) (Qez i_1 h i_1 (Qeh i_1 ≤ 400)) (∀ (j : Nat × Vt × Nat × OX ByteArray), Qex (Prod.fst j = Prod.fst i_1) j i_1 → bs (decide (Qeq j < Qf4 j)) (∃ (l_2 r : Nat), Qf6 j (Addr.mk l_2 r Qf7) ∧ Qf5 j ∧ Qeq j < Qf4 j ∧ (∃ (x : ByteArray), AHeap.ld (Qek j) l_2 (r + Qf3 j) Qer Qf2 = some [Value.string x] ∧ bs (decide (x = Prod.fst (Qem j))) (∃ (j_1 : Nat × OX ByteArray), Qfd a l c k v q (Qew j = Qfb j_1) (Qf0 (Qf1 (Qet j))) j_1 (Qfa j_1 = Qek j) h j_1 (∀ (t : ByteArray), Qfg j_1 t l k v q) (Qfe l j_1 i (∀ (k_1 : OX ByteArray), Qff h k_1 (∀ (t : ByteArray), Qf9 k_1 t l k v q) k_1 l) (∀ (v : Value) (h : AHeap), False → False))) (Qe9 ((0 : Int) ≤ (0 : Int)) (Qf5 j) (Qfj j ∨ Qev j ≠ Qer ∧ Qeq j < (↑(Qev j) : Int)) (∀ (x : Addr), Qf6 j x → Addr.spot x = Qf7) (∃ (xs : List (List Value)), Qfc (Qfi (Qfm j) (Qfo (OX.a (Qeg j))) (Qf3 j - Qfn) (decide (Qev j = Qer)) (Qev j - Qfn)) xs Qer (∃ (a_3 : Option Addr) (n c_1 : Nat) (h' : AHeap), Qfh (Qfm j) (Qfl (Qek j)) Qer Qf2 xs a_3 n c_1 h' ∧ (∃ (xs : List (List Value)), Qfc (rowsV (Qfk h' [[Qen j]]) (Value.slice (Qfl h') Qf2 2)) xs n (∃ (a_4 : Option Addr) (n_1 c_2 : Nat) (h'_1 : AHeap), Qe9 (Qfh (Qfk h' [[Qen j]]) a_3 n c_1 xs a_4 n_1 c_2 h'_1) (Qf5 j) (Qfj j) (Qf4 j ≤ Qf4 j ∨ Qev j ≠ Qer ∧ Qf4 j < (↑(Qev j) : Int)) ((∀ (x : Addr), Qf6 j x → Addr.spot x = Qf7) ∧ (∃ (xs : List (List Value)), Qfc (Qfi h'_1 (Option.map (fun (x : Addr) => Addr.mk (Addr.block x) (Addr.off x + Qf3 j) (Addr.spot x)) (OX.a (Qeg j))) (Int.toNat (Qf4 j) - Qf3 j) (decide (Qev j = Qer)) (Qev j - Qf3 j)) xs n_1 (∃ (a_5 : Option Addr) (n c_3 : Nat) (h' : AHeap), Qfh h'_1 a_4 n_1 c_2 xs a_5 n c_3 h' ∧ (∃ (j_1 : Nat × OX ByteArray), Qfd a l c k v q (Value.slice a_5 n c_3 = Qfb j_1) (Qf0 (Qf1 (Qet j))) j_1 (Qfa j_1 = h') h j_1 (∀ (t : ByteArray), Qfg j_1 t l k v q) (Qfe l j_1 i (∀ (k_1 : OX ByteArray), Qff h k_1 (∀ (t : ByteArray), Qf9 k_1 t l k v q) k_1 l) (∀ (v : Value) (h : AHeap), False → False))))))))))))) (Qe9 ((0 : Int) ≤ (0 : Int)) (Qf5 j) (Qfj j ∨ Qev j ≠ Qer ∧ Qeq j < (↑(Qev j) : Int)) (∀ (x : Addr), Qf6 j x → Addr.spot x = Qf7) (∃ (xs : List (List Value)), Qfc (Qfi (Qfm j) (Qfo (OX.a (Qeg j))) (Qf3 j - Qfn) (decide (Qev j = Qer)) (Qev j - Qfn)) xs Qer (∃ (a_3 : Option Addr) (n c_1 : Nat) (h' : AHeap), Qfh (Qfm j) (Qfl (Qek j)) Qer Qf2 xs a_3 n c_1 h' ∧ (∃ (xs : List (List Value)), Qfc (rowsV (Qfk h' [[Qen j]]) (Value.slice (Qfl h') Qf2 2)) xs n (∃ (a_4 : Option Addr) (n_1 c_2 : Nat) (h'_1 : AHeap), Qe9 (Qfh (Qfk h' [[Qen j]]) a_3 n c_1 xs a_4 n_1 c_2 h'_1) (Qf5 j) (Qfj j) (Qf4 j ≤ Qf4 j ∨ Qev j ≠ Qer ∧ Qf4 j < (↑(Qev j) : Int)) ((∀ (x : Addr), Qf6 j x → Addr.spot x = Qf7) ∧ (∃ (xs : List (List Value)), Qfc (Qfi h'_1 (Option.map (fun (x : Addr) => Addr.mk (Addr.block x) (Addr.off x + Qf3 j) (Addr.spot x)) (OX.a (Qeg j))) (Int.toNat (Qf4 j) - Qf3 j) (decide (Qev j = Qer)) (Qev j - Qf3 j)) xs n_1 (∃ (a_5 : Option Addr) (n c_3 : Nat) (h' : AHeap), Qfh h'_1 a_4 n_1 c_2 xs a_5 n c_3 h' ∧ (∃ (j_1 : Nat × OX ByteArray), Qfd a l c k v q (Value.slice a_5 n c_3 = Qfb j_1) (Qf0 (Qf1 (Qet j))) j_1 (Qfa j_1 = h') h j_1 (∀ (t : ByteArray), Qfg j_1 t l k v q) (Qfe l j_1 i (∀ (k_1 : OX ByteArray), Qff h k_1 (∀ (t : ByteArray), Qf9 k_1 t l k v q) k_1 l) (∀ (v : Value) (h : AHeap), False → False)))))))))))) (∀ (v : Value) (h : AHeap), False → False)))))))) (∃ (j : OX ByteArray), Qe9 (Qfb i = Qeu j (OX.c j)) (OX.g j = Qfa i) (Qey h j) (∀ (t : ByteArray), Qf9 j t l k v q) (Qf8 (Qee j) l))) Qea (Qe9 True Qea True ((∀ (i : Nat × Vt × Nat × OX ByteArray), Qez i h i (Qeh i ≤ 400) → bs (decide (Qeq i < Qf4 i)) (∃ (l_1 r : Nat), Qf6 i (Addr.mk l_1 r Qf7) ∧ Qf5 i ∧ Qeq i < Qf4 i ∧ (∃ (x : ByteArray), AHeap.ld (Qek i) l_1 (r + Qf3 i) Qer Qf2 = some [Value.string x] ∧ bs (Op.bytesLess (ByteArray.toList x) (ByteArray.toList (Prod.fst (Qem i)))) (∃ (j : Nat × Vt × Nat × OX ByteArray), Qed a l c k v q (Qe9 (Qew i = Qew j) (Qec (Qet i) (Qet j)) (Qes = Qes) (Qec (Qf0 (Qf1 (Qeq i))) (Qeq j)) (Qe9 (Qeo j = Qeo i) (Qek j = Qek i) (Qez j h j (Qeh j ≤ 400)) (Qeh j - Prod.fst (Qef j) < Qeh i - Prod.fst (Qef i)) ((∀ (k : Nat × Vt × Nat × OX ByteArray), Qex (Prod.fst k = Prod.fst j) k j → Qex (Prod.fst k = Prod.fst i) k i) ∧ (∀ (v : Value) (h : AHeap), False → False))))) (∃ (j : Nat × Vt × Nat × OX ByteArray), Qed a l c k v q (Qe9 (Qew i = Qew j) (Qec (Qet i) (Qet j)) (Qes = Qes) (Qec (Qeq i) (Qeq j)) (Qe9 (Qeo j = Qeo i) (Qek j = Qek i) (Prod.fst j = Prod.fst i) (Qej j = Qej i) (Qeg j = Qeg i ∧ Qei j i)))))) (∃ (j : Nat × Vt × Nat × OX ByteArray), Qed a l c k v q (Qe9 (Qew i = Qew j) (Qec (Qet i) (Qet j)) (Qes = Qes) (Qec (Qeq i) (Qeq j)) (Qe9 (Qeo j = Qeo i) (Qek j = Qek i) (Prod.fst j = Prod.fst i) (Qej j = Qej i) (Qeg j = Qeg i ∧ Qei j i))))) ∧ Qea ∧ True) (Qea ∧ True ∧ True ∧ True)) True) True True) = _) ?_; delta Qe9 Qea Qeb Qec Qed Qee Qef Qeg Qeh Qei Qej Qek Qel Qem Qen Qeo Qep Qeq Qer Qes Qet Qeu Qev Qew Qex Qey Qez Qf0 Qf1 Qf2 Qf3 Qf4 Qf5 Qf6 Qf7 Qf8 Qf9 Qfa Qfb Qfc Qfd Qfe Qff Qfg Qfh Qfi Qfj Qfk Qfl Qfm Qfn Qfo)
    simp only [true_and, and_true]
    refine ⟨fun ⟨i, o⟩ ⟨hi, B, hm, hl⟩ => ?_, fun ⟨i, x, m, o⟩ ⟨hmo, B, h4⟩ => ?_⟩
    · dsimp only at *
      refine bs_d (fun hlt => ?_) (fun hge => ⟨o, rfl, rfl, B, by rw [List.take_of_length_le (by omega)] at hm; exact hm, by omega⟩)
      obtain ⟨⟨k', v', q', op', f'⟩, hat⟩ : ∃ y : Int × Int × Int × ByteArray × Int, l[i]? = some y := ⟨_, List.getElem?_eq_getElem (by omega)⟩
      obtain ⟨lo, r, row, ha, _, hrd, hld⟩ := (hx.mono B.le).elem hat
      obtain rfl := rd_vote.1 hrd
      dsimp only at hld
      have sk : ¬ (k' = k ∧ v' = v ∧ q' = q) ∨ op' ∈ o.xs → ∀ t, t ∈ o.xs ↔ t ∈ opsL (l.take (i + 1)) k v q := fun hne t => by
        rw [opsL_take hat, List.mem_append, ← hm]
        constructor
        · exact .inl
        · rintro (h | h)
          · exact h
          · split at h
            · rename_i c
              rcases hne with hne | hne
              · exact absurd c hne
              · rw [List.mem_singleton.1 h]; exact hne
            · cases h
      refine ⟨lo, r, ha, Int.natCast_nonneg _, hlt, _, _, _, _, _, hld, bs_dn (fun e => ?_) (fun e1 => bs_dn (fun e => ?_) (fun e2 => bs_dn (fun e => ?_) (fun e3 => ?_)))⟩
      · exact ⟨(i + 1, o), rfl, by rw [wrap_i64 (by omega)]; rfl, rfl, ⟨by dsimp only; omega, B, sk (.inl fun H => e H.1), by dsimp only; omega⟩, by dsimp only; omega, fun _ h => h, fun _ _ h => h⟩
      · exact ⟨(i + 1, o), rfl, by rw [wrap_i64 (by omega)]; rfl, rfl, ⟨by dsimp only; omega, B, sk (.inl fun H => e H.2.1), by dsimp only; omega⟩, by dsimp only; omega, fun _ h => h, fun _ _ h => h⟩
      · exact ⟨(i + 1, o), rfl, by rw [wrap_i64 (by omega)]; rfl, rfl, ⟨by dsimp only; omega, B, sk (.inl fun H => e H.2.2), by dsimp only; omega⟩, by dsimp only; omega, fun _ h => h, fun _ _ h => h⟩
      obtain rfl := e1; obtain rfl := e2; obtain rfl := e3
      refine ⟨(i, (k', v', q', op', f'), 0, o), rfl, rfl, rfl, rfl, rfl, ⟨Nat.zero_le _, B, by dsimp only; omega⟩, fun ⟨i', x', m, o'⟩ ⟨q1, q2, q3, q4⟩ => ?_, fun _ _ h => h⟩
      dsimp only at q1 q2 q3 q4
      subst q1; subst q2; subst q3
      dsimp only
      refine bs_d (fun hlt2 => ?_) (fun hge2 => ?_)
      · obtain ⟨t, hat2⟩ : ∃ y : ByteArray, o'.xs[m]? = some y := ⟨_, List.getElem?_eq_getElem (by omega)⟩
        obtain ⟨lo2, r2, row2, ha2, _, hrd2, hld2⟩ := B.sn.so.sl.elem hat2
        obtain rfl : row2 = [.string t] := hrd2
        refine ⟨lo2, r2, ha2, Int.natCast_nonneg _, hlt2, _, hld2, bs_d (fun e => ⟨(i' + 1, o'), rfl, by rw [wrap_i64 (by omega)]; rfl, rfl, ⟨by dsimp only; omega, B, sk (.inr (by rw [← e]; exact List.mem_of_getElem? hat2)), by dsimp only; omega⟩, by dsimp only; omega, fun _ h => h, fun _ _ h => h⟩) (fun e => ?_)⟩
        simp only [Int.toNat_natCast, show Int.toNat 0 = 0 from rfl, Nat.sub_zero]
        have S0 : Sl o'.g Sh.str o'.xs (.slice o'.a o'.xs.length o'.c) := B.sn.so.sl
        have sp : ∀ x : Addr, o'.a = some x → x.spot = some 1 := fun x hx => by
          rcases S0.row.1 with ⟨h1, _, _⟩ | ⟨l, r, h1⟩
          · rw [h1] at hx; cases hx
          · rw [h1] at hx; cases hx; rfl
        obtain ⟨rows1, e1, e2, e3, l1, c1, g1, e4, B1⟩ := app_clone (s := Sh.str) rfl B.wf (S0.sub (i := 0) (m := m) (by omega))
        refine ⟨by omega, by omega, .inl (by omega), sp, rows1, e1, e2, by rw [e3]; omega, _, _, _, g1, e4, ?_⟩
        obtain ⟨l2, g2, ids2, e5, B2, _, _, _⟩ := (B1.grow (.push B1.wf ⟨[[.string op']], 1, true⟩) (B1.wf.push _)).app (x := op') (cs := [.string op']) (js := []) ⟨rfl, rfl⟩ .nil (by simp)
        refine ⟨[[.string op']], rowsV_push, rfl, by simp only [List.length_cons, List.length_nil]; omega, _, _, _, g2, e5, by omega, by omega, .inl (Int.le_refl _), sp, ?_⟩
        obtain ⟨rows3, e6, e7, e8, a3, c3, g3, ids3, e9, B3, _, _, _⟩ := B2.appR (ys := (o'.xs.drop m).take (o'.xs.length - m)) rfl (S0.sub (i := m) (m := o'.xs.length - m) (by omega))
        refine ⟨rows3, e6, e7, by rw [e8]; omega, _, _, _, g3, e9, ?_⟩
        have B4 : SoB Sh.str h g3 a3 (((o'.xs.drop 0).take m ++ [op']) ++ (o'.xs.drop m).take (o'.xs.length - m)).length c3 (((o'.xs.drop 0).take m ++ [op']) ++ (o'.xs.drop m).take (o'.xs.length - m)) ids3 := by rw [B3.len]; exact B3.rebase B.le hw
        have hmem : ∀ t, t ∈ ((o'.xs.drop 0).take m ++ [op']) ++ (o'.xs.drop m).take (o'.xs.length - m) ↔ t ∈ o'.xs ∨ t = op' := fun t => by
          rw [List.drop_zero, List.take_of_length_le (l := o'.xs.drop m) (by rw [List.length_drop]; omega), List.mem_append, List.mem_append, List.mem_singleton]
          constructor
          · rintro ((h | h) | h)
            · exact .inl (List.mem_of_mem_take h)
            · exact .inr h
            · exact .inl (List.mem_of_mem_drop h)
          · rintro (h | h)
            · rw [← List.take_append_drop m o'.xs] at h
              rcases List.mem_append.1 h with h | h
              · exact .inl (.inl h)
              · exact .inr h
            · exact .inl (.inr h)
        refine ⟨(i' + 1, ⟨a3, c3, _, ids3, g3⟩), ?_, by rw [wrap_i64 (by omega)]; rfl, rfl, ⟨by dsimp only; omega, B4, fun t => ?_, ?_⟩, by dsimp only; omega, fun _ h => h, fun _ _ h => h⟩
        · dsimp only
          rw [B3.len]
        · dsimp only
          rw [hmem, hm, opsL_take hat, if_pos ⟨rfl, rfl, rfl⟩, List.mem_append, List.mem_singleton]
        · dsimp only
          rw [B3.len]; omega
      · simp only [Int.toNat_natCast, show Int.toNat 0 = 0 from rfl, Nat.sub_zero]
        have S0 : Sl o'.g Sh.str o'.xs (.slice o'.a o'.xs.length o'.c) := B.sn.so.sl
        have sp : ∀ x : Addr, o'.a = some x → x.spot = some 1 := fun x hx => by
          rcases S0.row.1 with ⟨h1, _, _⟩ | ⟨l, r, h1⟩
          · rw [h1] at hx; cases hx
          · rw [h1] at hx; cases hx; rfl
        obtain ⟨rows1, e1, e2, e3, l1, c1, g1, e4, B1⟩ := app_clone (s := Sh.str) rfl B.wf (S0.sub (i := 0) (m := m) (by omega))
        refine ⟨by omega, by omega, .inl (by omega), sp, rows1, e1, e2, by rw [e3]; omega, _, _, _, g1, e4, ?_⟩
        obtain ⟨l2, g2, ids2, e5, B2, _, _, _⟩ := (B1.grow (.push B1.wf ⟨[[.string op']], 1, true⟩) (B1.wf.push _)).app (x := op') (cs := [.string op']) (js := []) ⟨rfl, rfl⟩ .nil (by simp)
        refine ⟨[[.string op']], rowsV_push, rfl, by simp only [List.length_cons, List.length_nil]; omega, _, _, _, g2, e5, by omega, by omega, .inl (Int.le_refl _), sp, ?_⟩
        obtain ⟨rows3, e6, e7, e8, a3, c3, g3, ids3, e9, B3, _, _, _⟩ := B2.appR (ys := (o'.xs.drop m).take (o'.xs.length - m)) rfl (S0.sub (i := m) (m := o'.xs.length - m) (by omega))
        refine ⟨rows3, e6, e7, by rw [e8]; omega, _, _, _, g3, e9, ?_⟩
        have B4 : SoB Sh.str h g3 a3 (((o'.xs.drop 0).take m ++ [op']) ++ (o'.xs.drop m).take (o'.xs.length - m)).length c3 (((o'.xs.drop 0).take m ++ [op']) ++ (o'.xs.drop m).take (o'.xs.length - m)) ids3 := by rw [B3.len]; exact B3.rebase B.le hw
        have hmem : ∀ t, t ∈ ((o'.xs.drop 0).take m ++ [op']) ++ (o'.xs.drop m).take (o'.xs.length - m) ↔ t ∈ o'.xs ∨ t = op' := fun t => by
          rw [List.drop_zero, List.take_of_length_le (l := o'.xs.drop m) (by rw [List.length_drop]; omega), List.mem_append, List.mem_append, List.mem_singleton]
          constructor
          · rintro ((h | h) | h)
            · exact .inl (List.mem_of_mem_take h)
            · exact .inr h
            · exact .inl (List.mem_of_mem_drop h)
          · rintro (h | h)
            · rw [← List.take_append_drop m o'.xs] at h
              rcases List.mem_append.1 h with h | h
              · exact .inl (.inl h)
              · exact .inr h
            · exact .inl (.inr h)
        refine ⟨(i' + 1, ⟨a3, c3, _, ids3, g3⟩), ?_, by rw [wrap_i64 (by omega)]; rfl, rfl, ⟨by dsimp only; omega, B4, fun t => ?_, ?_⟩, by dsimp only; omega, fun _ h => h, fun _ _ h => h⟩
        · dsimp only
          rw [B3.len]
        · dsimp only
          rw [hmem, hm, opsL_take hat, if_pos ⟨rfl, rfl, rfl⟩, List.mem_append, List.mem_singleton]
        · dsimp only
          rw [B3.len]; omega
    · dsimp only at *
      refine bs_d (fun hlt => ?_) (fun hge => ⟨(i, x, m, o), rfl, rfl, rfl, rfl, rfl, rfl, rfl, rfl, hmo⟩)
      obtain ⟨t, hat2⟩ : ∃ y : ByteArray, o.xs[m]? = some y := ⟨_, List.getElem?_eq_getElem (by omega)⟩
      obtain ⟨lo2, r2, row2, ha2, _, hrd2, hld2⟩ := B.sn.so.sl.elem hat2
      obtain rfl : row2 = [.string t] := hrd2
      refine ⟨lo2, r2, ha2, Int.natCast_nonneg _, hlt, _, hld2, bs_of (fun e => ⟨(i, x, m + 1, o), rfl, rfl, by rw [wrap_i64 (by omega)]; rfl, rfl, rfl, ⟨by dsimp only; omega, B, h4⟩, by dsimp only; omega, fun _ h => h, fun _ _ h => h⟩) (fun e => ⟨(i, x, m, o), rfl, rfl, rfl, rfl, rfl, rfl, rfl, rfl, hmo⟩)⟩
  (refine vc_mp (by kernel_rfl : (∃ (i : Nat × OX ByteArray), Qfd a l c k v q (Value.slice (Qfl h) Qer Qf2 = Qfb i) 0 i (Qfa i = Qfk h List.nil) h i (∀ (t : ByteArray), Qfg i t l k v q) ((∀ (j : OX ByteArray), Qey h j ∧ (∀ (t : ByteArray), Qf9 j t l k v q) ∧ Qf8 (Qee j) l → Q (Qeu j (OX.c j)) (OX.g j)) ∧ (∀ (v : Value) (h : AHeap), False → Q v h))) = _) ?_; delta Qe9 Qeb Qec Qed Qee Qep Qer Qeu Qey Qf2 Qf7 Qf8 Qf9 Qfa Qfb Qfd Qfg Qfk Qfl)
  have wp := hw.push ⟨[], 1, true⟩
  have B0 : OXok Sh.str h ⟨some ⟨h.n, 0, some 1⟩, 1, [], [h.n], h.push ⟨[], 1, true⟩⟩ := SoB.flat (s := Sh.str) (g := h) rfl (AHeap.Le.push hw ⟨[], 1, true⟩) wp hw (Nat.le_refl _) rfl AHeap.get_push_eq rfl (.inr rfl) (fun i y row h1 => by cases h1)
  exact ⟨(0, ⟨some ⟨h.n, 0, some 1⟩, 1, [], [h.n], h.push ⟨[], 1, true⟩⟩), rfl, rfl, rfl, rfl, rfl, rfl, rfl, ⟨Nat.zero_le _, B0, fun t => ⟨fun h => (by cases h), fun h => (by cases h)⟩, Nat.zero_le _⟩, fun o ⟨B, hm, hl⟩ => HQ _ _ ⟨o, rfl, rfl, B, fun t => (hm t).trans mem_opsL, Nat.le_trans hl n1⟩, fun _ _ h => h.elim⟩
end Go.Proofs.YtpgfjadjhliohaaGreat
end
