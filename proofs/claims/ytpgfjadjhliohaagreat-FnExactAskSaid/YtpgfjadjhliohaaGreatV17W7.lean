/- V7, W7. -/
import Derived.Test.YtpgfjadjhliohaaGreatV17W0
import Derived.Test.YtpgfjadjhliohaaGreatV17W6
section
namespace Go.Dat
open Go.Abs
theorem Sh.flat_rd {h g : AHeap} : ∀ {s : Sh}, s.flat = true → ∀ {x : s.T} {cs : List Value}, s.rd h x cs → s.rd g x cs := fun hf _ _ r => (Sh.flat_rn hf r).ro.rd
theorem SoB.appR {s : Sh} (hf : s.flat = true) {h0 h : AHeap} {a : Option Addr} {n c : Nat} {xs : List s.T} {ids : List Nat} (B : SoB s h0 h a n c xs ids) {ys : List s.T} {a2 : Option Addr} {m c2 : Nat} (hy : Sl h0 s ys (.slice a2 m c2)) :
    ∃ rows, rowsV h (.slice a2 m c2) = some rows ∧ chkR s.cells rows ∧ rows.length = m ∧ ∃ a' c' h' ids', h.app (.slice a n c) rows s.cells = some (.slice a' (n + m) c', h') ∧ SoB s h0 h' a' (n + m) c' (xs ++ ys) ids' ∧ h.n ≤ h'.n ∧ (∀ z o, z ∉ ids → h.get z = some o → h'.get z = some o) ∧ ∀ z ∈ ids', z ∈ ids ∨ z = h.n := by
  obtain ⟨rows, h2, hl, hall, hrd⟩ := hy.rows
  have hm := hy.len
  have nb := B.len
  refine ⟨rows, B.le.rowsOf h2, hall, hl, ?_⟩
  cases rows with
  | nil =>
    have e0 : m = 0 := by rw [← hl]; rfl
    have e1 : ys = [] := List.eq_nil_of_length_eq_zero (by omega)
    subst e1; subst e0
    exact ⟨a, c, h, ids, rfl, by rw [List.append_nil]; exact B, Nat.le_refl _, fun _ _ _ e => e, fun _ e => .inl e⟩
  | cons r rs =>
    have sz : (xs ++ ys).length = n + m := by rw [List.length_append]; omega
    obtain ⟨rfl, rfl, rfl, rfl⟩ | ⟨l, rows0, idss, rfl, hg, hr, hi, rfl, hc, hx⟩ := B.at_
    · have e0 : xs = [] := List.eq_nil_of_length_eq_zero nb
      subst e0
      refine ⟨_, 0, _, [h.n], by rw [← hl, Nat.zero_add]; rfl, ?_, Nat.le_succ _, fun z o _ e => (AHeap.Le.push B.wf _).get z o e, fun z e => .inr (List.mem_singleton.1 e)⟩
      exact SoB.flat hf (B.le.trans (.push B.wf ⟨r :: rs, s.cells, true⟩)) (B.wf.push _) B.wf0 B.le.n sz AHeap.get_push_eq (by rw [hl, Nat.zero_add]) (.inl rfl) hrd
    · have hro : h.rowsOf (.slice (some ⟨l, 0, some s.cells⟩) n c) = some rows0 := by rw [get_rowsOf hg (by omega), List.drop_zero, List.take_of_length_le (by omega)]
      have hlt : l < h.n := B.wf.lt hg
      have h0l : h0.n ≤ l := (B.fr.bd l List.mem_cons_self).1
      have hrd2 : ∀ (i : Nat) (y : s.T) (row : List Value), (xs ++ ys)[i]? = some y → (rows0 ++ r :: rs)[i]? = some row → s.rd h0 y row := by
        intro i y row e1 e2
        by_cases c1 : i < n
        · rw [List.getElem?_append_left (by omega)] at e1 e2
          exact Sh.flat_rd hf (hx i y row _ e1 e2 (List.getElem?_eq_getElem (by omega))).ro.rd
        · rw [List.getElem?_append_right (by omega)] at e1 e2
          rw [nb] at e1; rw [hr] at e2
          exact hrd _ y row e1 e2
      have len2 : (rows0 ++ r :: rs).length = n + m := by rw [List.length_append]; omega
      unfold AHeap.app
      dsimp only
      rw [hro]
      dsimp only
      rw [beq_self_eq_true, cond_true]
      cases hcc : (c != 0 && decide (c ≤ n + (r :: rs).length)) with
      | true =>
        rw [cond_true]
        exact ⟨_, 0, _, [h.n], by rw [hl], SoB.flat hf (B.le.trans (.push B.wf ⟨rows0 ++ r :: rs, s.cells, true⟩)) (B.wf.push _) B.wf0 B.le.n sz AHeap.get_push_eq len2 (.inl rfl) hrd2, Nat.le_succ _, fun z o _ e => (AHeap.Le.push B.wf _).get z o e, fun z e => .inr (List.mem_singleton.1 e)⟩
      | false =>
        rw [cond_false, hg]
        dsimp only
        have hno : (c != 0 && decide (0 + n + (r :: rs).length ≤ rows0.length)) = false := by
          rw [Bool.and_eq_false_iff]; right; rw [decide_eq_false_iff_not]; rw [hl, hr]
          have : 0 < m := by rw [← hl]; simp
          omega
        rw [cond_true, hno, cond_false]
        have w2 : (h.put l none).wf := B.wf.put hlt _
        exact ⟨_, 0, _, [h.n], by rw [hl], SoB.flat hf ((B.le.put (B.wf0 l h0l) none).trans (.push w2 ⟨rows0 ++ r :: rs, s.cells, true⟩)) (w2.push _) B.wf0 B.le.n sz (by show ((h.put l none).push _).get (h.put l none).n = _; exact AHeap.get_push_eq) len2 (.inl rfl) hrd2, Nat.le_succ _, fun z o hz e => (AHeap.Le.push w2 _).get z o (by rw [AHeap.get_put_ne (fun e2 => hz (by rw [e2]; exact List.mem_cons_self))]; exact e), fun z e => .inr (List.mem_singleton.1 e)⟩
theorem rows_sub {h : AHeap} {l r e n c i m c' : Nat} {rows : List (List Value)} (hr : h.rowsOf (.slice (some ⟨l, r, some e⟩) n c) = some rows) (hi : i + m ≤ n) : h.rowsOf (.slice (some ⟨l, r + i, some e⟩) m c') = some ((rows.drop i).take m) := by
  unfold AHeap.rowsOf at hr ⊢
  dsimp only at hr ⊢
  cases hg : h.get l with
  | none => rw [hg] at hr; cases hr
  | some o =>
    rw [hg] at hr
    dsimp only at hr ⊢
    cases h1 : o.esz == e with
    | false => rw [h1] at hr; cases hr
    | true =>
      rw [h1] at hr
      simp only [Bool.true_and] at hr ⊢
      by_cases h2 : r + n ≤ o.rows.length
      · rw [decide_eq_true h2] at hr
        rw [decide_eq_true (by omega : r + i + m ≤ o.rows.length)]
        cases hr
        show some _ = some _
        rw [List.drop_take, List.drop_drop, List.take_take, Nat.min_eq_left (by omega)]
      · rw [decide_eq_false h2] at hr; cases hr
theorem Sl.sub {h : AHeap} {s : Sh} {xs : List s.T} {a : Option Addr} {n c : Nat} (x : Sl h s xs (.slice a n c)) {i m : Nat} (hi : i + m ≤ n) : Sl h s ((xs.drop i).take m) (.slice (a.map fun x => ⟨x.block, x.off + i, x.spot⟩) m (bif decide (c = 0) then 0 else c - i)) := by
  obtain ⟨a', n', c'', rows, e, h1, h2, h3, h4⟩ := x
  cases e
  rcases h1 with ⟨rfl, rfl, rfl⟩ | ⟨l, r, rfl⟩
  · have hm : m = 0 := by omega
    subst hm
    exact ⟨none, 0, 0, [], rfl, .inl ⟨rfl, rfl, rfl⟩, rfl, by simp, fun i y row hy => by simp at hy⟩
  · refine ⟨_, _, _, _, rfl, .inr ⟨_, _, rfl⟩, rows_sub h2 hi, by rw [List.length_take, List.length_drop]; omega, fun j y row hy hr => ?_⟩
    rw [List.getElem?_take] at hy hr
    split at hy
    · rename_i hj
      rw [if_pos hj, List.getElem?_drop] at hr
      rw [List.getElem?_drop] at hy
      exact h4 _ y row hy hr
    · cases hy
end Go.Dat
end
section
namespace Go.Dat
open Go.Abs
theorem _root_.Go.Dat.SoB.rebase {s : Sh} {h' h0 h : AHeap} {a : Option Addr} {n c : Nat} {xs : List s.T} {ids : List Nat} (B : SoB s h0 h a n c xs ids) (le : h'.Le h0) (wf : h'.wf) : SoB s h' h a n c xs ids :=
  ⟨le.trans B.le, B.wf, wf, B.len, B.fr.widen le.n (Nat.le_refl _), B.at_⟩
end Go.Dat
namespace Go.Proofs.YtpgfjadjhliohaaGreat
open Go.Abs Go.Dat
set_option maxRecDepth 100000
set_option maxHeartbeats 8000000
def soL (h : AHeap) (a : Option Addr) (c : Nat) (l : List voteSh.T) (k v q : Int) : Nat → LSpec
  | 0 => {
    ι := Nat × OX ByteArray
    κ := OX ByteArray
    I := fun i => i.1 ≤ l.length ∧ OXok Sh.str h i.2 ∧ (∀ t, t ∈ i.2.xs ↔ t ∈ opsL (l.take i.1) k v q) ∧ i.2.xs.length ≤ i.1
    μ := fun i => l.length - i.1
    head := fun i => ⟨[(0, .slice a l.length c), (1, .int .i64 k), (2, .int .i64 v), (3, .int .i64 q), (9, .slice i.2.a i.2.xs.length i.2.c), (10, .int .i64 i.1)], [], i.2.g⟩
    post := fun o => ⟨[(9, .slice o.a o.xs.length o.c)], [], o.g⟩
    R := fun _ o => OXok Sh.str h o ∧ (∀ t, t ∈ o.xs ↔ t ∈ opsL l k v q) ∧ o.xs.length ≤ l.length
    ret := fun _ _ _ => False }
  | _ => {
    ι := Nat × Vt × Nat × OX ByteArray
    κ := Nat × Vt × Nat × OX ByteArray
    I := fun i => i.2.2.1 ≤ i.2.2.2.xs.length ∧ OXok Sh.str h i.2.2.2 ∧ i.2.2.2.xs.length ≤ 400
    μ := fun i => i.2.2.2.xs.length - i.2.2.1
    head := fun i => ⟨[(0, .slice a l.length c), (1, .int .i64 k), (2, .int .i64 v), (3, .int .i64 q), (9, .slice i.2.2.2.a i.2.2.2.xs.length i.2.2.2.c), (10, .int .i64 i.1), (11, .complex .f32 0 0), (12, .int .i64 i.2.2.1)], [[.int .i64 i.2.1.1, .int .i64 i.2.1.2.1, .int .i64 i.2.1.2.2.1, .string i.2.1.2.2.2.1, .int .i64 i.2.1.2.2.2.2]], i.2.2.2.g⟩
    post := fun i => ⟨[(0, .slice a l.length c), (1, .int .i64 k), (2, .int .i64 v), (3, .int .i64 q), (9, .slice i.2.2.2.a i.2.2.2.xs.length i.2.2.2.c), (10, .int .i64 i.1), (11, .complex .f32 0 0), (12, .int .i64 i.2.2.1)], [[.int .i64 i.2.1.1, .int .i64 i.2.1.2.1, .int .i64 i.2.1.2.2.1, .string i.2.1.2.2.2.1, .int .i64 i.2.1.2.2.2.2]], i.2.2.2.g⟩
    R := fun i o => o.1 = i.1 ∧ o.2.1 = i.2.1 ∧ o.2.2.2 = i.2.2.2 ∧ o.2.2.1 ≤ i.2.2.2.xs.length
    ret := fun _ _ _ => False }
def Qc5 (a b c d e : Prop) := a ∧ b ∧ c ∧ d ∧ e
def Qc6 := True ∧ True ∧ True
def Qc7 (a : Int) := Value.int IntKind.i64 a
def Qc8 (a b : Int) := Qc7 a = Qc7 b
def Qc9 (a : Prop) (b c : Int) (d : Prop) (e f : Int) (g : Prop) := Qc5 a (Qc8 b c) d (Qc8 e f) g
def Qca (a : OX ByteArray) := List.length (OX.xs a)
def Qcb (a : Nat × Vt × Nat × OX ByteArray) := Prod.snd (Prod.snd a)
def Qcc (a : Nat × Vt × Nat × OX ByteArray) := Prod.snd (Qcb a)
def Qcd (a : Nat × Vt × Nat × OX ByteArray) := Qca (Qcc a)
def Qce (a b : Nat × Vt × Nat × OX ByteArray) := Prod.fst (Qcb a) ≤ Qcd b
def Qcf (a b : Nat × Vt × Nat × OX ByteArray) := Qcc a = Qcc b
def Qcg (a b : Nat × Vt × Nat × OX ByteArray) := Prod.fst (Prod.snd a) = Prod.fst (Prod.snd b)
def Qch (a : Nat × Vt × Nat × OX ByteArray) := OX.g (Qcc a)
def Qci (a : Nat × (Int × Int × Int × ByteArray × Int) × Nat × OX ByteArray) := Prod.fst (Prod.snd a)
def Qcj (a : Nat × (Int × Int × Int × ByteArray × Int) × Nat × OX ByteArray) := Prod.snd (Prod.snd (Prod.snd (Qci a)))
def Qck (a : Nat × (Int × Int × Int × ByteArray × Int) × Nat × OX ByteArray) := Value.string (Prod.fst (Qcj a))
def Qcl (a b c d e : Nat × (Int × Int × Int × ByteArray × Int) × Nat × OX ByteArray) := [Qc7 (Prod.fst (Qci a)), Qc7 (Prod.fst (Prod.snd (Qci b))), Qc7 (Prod.fst (Prod.snd (Prod.snd (Qci c)))), Qck d, Qc7 (Prod.snd (Qcj e))]
def Qcm (a : Nat × OX ByteArray) := (↑(Prod.fst a) : Int)
def Qcn (a : Nat × Vt × Nat × OX ByteArray) := Qcm (Qcb a)
def Qco := (0 : Nat)
def Qcp := Value.complex FloatKind.f32 Qco Qco
def Qcq (a : Nat × Vt × Nat × OX ByteArray) := (↑(Prod.fst a) : Int)
def Qcr (a b : OX ByteArray) (c : Nat) := Value.slice (OX.a a) (Qca b) c
def Qcs (a : Nat × Vt × Nat × OX ByteArray) := OX.c (Qcc a)
def Qct (a b c : Nat × Vt × Nat × OX ByteArray) := Qcr (Qcc a) (Qcc b) (Qcs c)
def Qcu (a : Option Addr) (b : List (Sh.T voteSh)) (c : Nat) := Value.slice a (List.length b) c
def Qcv (a b : Nat × Vt × Nat × OX ByteArray) (c : AHeap) (d : Nat × Vt × Nat × OX (Sh.T Sh.str)) (e : Prop) := Qce a b ∧ OXok Sh.str c (Prod.snd (Prod.snd (Prod.snd d))) ∧ e
def Qcw (a : Int) := IntKind.wrap IntKind.i64 a
def Qcx (a : Int) := a + 1
def Qcy := (1 : Nat)
def Qcz (a : Nat × Vt × Nat × OX ByteArray) := Int.toNat (Qcn a)
def Qd0 (a : Nat × Vt × Nat × OX ByteArray) := (↑(Qcd a) : Int)
def Qd1 (a : Nat × Vt × Nat × OX ByteArray) := 0 ≤ Qcn a
def Qd2 (a : Nat × Vt × Nat × OX ByteArray) (b : Addr) := OX.a (Qcc a) = some b
def Qd3 := some Qcy
def Qd4 (a : OX ByteArray) (b : ByteArray) (c : List (Sh.T voteSh)) (d e f : Int) (g : ByteArray) := Iff (Membership.mem (OX.xs a) b) (Membership.mem (opsL c d e f) g)
def Qd5 (a : Nat × OX ByteArray) := OX.g (Prod.snd a)
def Qd6 (a b c : Nat × OX ByteArray) := Qcr (Prod.snd a) (Prod.snd b) (OX.c (Prod.snd c))
def Qd7 (a : Option (List (List Value))) (b c : List (List Value)) (d : Nat) (e : List (List Value)) (f : Prop) := a = some b ∧ List.all c (fun (row : List Value) =>
  decide (List.length row = (1 : Nat)) &&
    List.all row fun (v : Value) =>
      match v with
      | Value.agg cells => false
      | Value.tuple cells => false
      | Value.complex k re im => false
      | Value.chan r => false
      | x => true) = true ∧ (d + List.length e) * 16 ≤ 140737488355328 ∧ f
def Qd8 (a : Option Addr) (b : List (Sh.T voteSh)) (c : Nat) (d : Option Addr) (e : List (Sh.T voteSh)) (f : Nat) (g h i j k l : Int) (m : Prop) (n : Int) (o : Nat × OX ByteArray) (p : Prop) (q : Nat × OX ByteArray) (r : List (Sh.T voteSh)) (s : AHeap) (t : Nat × OX (Sh.T Sh.str)) (u : Prop) (v w : Nat × OX ByteArray) (x : Prop) := Qc9 (Qcu a b c = Qcu d e f) g h (Qc8 i j) k l (Qc5 m (Qc8 n (Qcm o)) p (Prod.fst q ≤ List.length r ∧ OXok Sh.str s (Prod.snd t) ∧ u ∧ Qca (Prod.snd v) ≤ Prod.fst w) x)
def Qd9 (a : List (Sh.T voteSh)) (b : Nat × OX ByteArray) (c : List (Sh.T voteSh)) (d : Nat × OX ByteArray) (e f : Prop) := List.length a - Prod.fst b < List.length c - Prod.fst d ∧ e ∧ f
def Qda (a : AHeap) (b : OX (Sh.T Sh.str)) (c : Prop) (d : OX ByteArray) (e : List (Sh.T voteSh)) := OXok Sh.str a b ∧ c ∧ Qca d ≤ List.length e
def Qdb (a : Nat × OX ByteArray) (b : ByteArray) (c : Nat × OX ByteArray) (d : List (Sh.T voteSh)) (e f g : Int) (h : ByteArray) := Qd4 (Prod.snd a) b (List.take (Prod.fst c) d) e f g h
def Qdc (a : AHeap) (b : Option Addr) (c d : Nat) (e : List (List Value)) (f : Option Addr) (g h : Nat) (i : AHeap) := AHeap.app a (Value.slice b c d) e Qcy = some (Prod.mk (Value.slice f g h) i)
def Qdd (a : AHeap) (b : Option Addr) (c : Nat) (d : Bool) (e : Nat) := rowsV a (Value.slice b c (cond d Qco e))
def Qde (a : AHeap) (b : List (List Value)) := AHeap.push a (AObj.mk b Qcy true)
def Qdf (a : AHeap) := some (Addr.mk (AHeap.n a) Qco Qd3)
def Qdg (a : AHeap) := AHeap.push a (AObj.mk List.nil Qcy true)
def Qdh := Int.toNat 0
def Qdi (a : Option Addr) := Option.map (fun (x : Addr) => Addr.mk (Addr.block x) (Addr.off x + Int.toNat (0 : Int)) (Addr.spot x)) a
theorem l11Ops_spec (h : AHeap) (hw : h.wf) (a : Option Addr) (c : Nat) (l : List voteSh.T) (k v q : Int) (hx : Sl h voteSh l (.slice a l.length c)) (H : VotsOk l) :
    ∃ r h', ACall Tryz.prog 143 [.slice a l.length c, .int .i64 k, .int .i64 v, .int .i64 q] h r h' ∧ ∃ o : OX ByteArray, r = .slice o.a o.xs.length o.c ∧ h' = o.g ∧ OXok Sh.str h o ∧ (∀ t, t ∈ o.xs ↔ ∃ f, (k, v, q, t, f) ∈ l) ∧ o.xs.length ≤ 400 := by
  have n1 := H.1
  refine acall_q fun Q HQ => ?_
  refine acall_vc (fun _ => false) (fun r => match r with | 8 => [(0, 0, []), (1, 0, []), (2, 0, []), (3, 0, []), (4, 0, []), (5, 0, []), (6, 0, []), (7, 0, []), (9, 0, []), (8, 1, []), (10, 1, []), (11, 0, []), (12, 0, [])] | 10 => [(0, 0, []), (1, 0, []), (2, 0, []), (3, 0, []), (4, 0, []), (5, 0, []), (6, 0, []), (7, 0, []), (9, 0, []), (8, 1, []), (10, 1, []), (11, 0, []), (12, 0, [])] | _ => []) (soL h a c l k v q) mixed Tryz.func143 rfl rfl rfl (Nat.le_of_ble_eq_true rfl) ?_ ?_
  · (refine vc_mp (by kernel_rfl : (Qc5 True True (Qc5 True (∀ (i : Nat × OX ByteArray), Prod.fst i ≤ List.length l ∧ OXok Sh.str h (Prod.snd i) ∧ (∀ (t : ByteArray), Qdb i t i l k v q t) ∧ Qca (Prod.snd i) ≤ Prod.fst i → bs (decide (Qcm i < (↑(List.length l) : Int))) (∃ (l_1 r : Nat), a = some (Addr.mk l_1 r (some 5)) ∧ 0 ≤ Qcm i ∧ Qcm i < (↑(List.length l) : Int) ∧ (∃ (x x_1 x_2 : Int) (x_3 : ByteArray) (x_4 : Int), AHeap.ld (Qd5 i) l_1 (r + Int.toNat (Qcm i)) Qco 5 = some [Qc7 x, Qc7 x_1, Qc7 x_2, Value.string x_3, Qc7 x_4] ∧ bs (not (decide (x = k))) (∃ (j : Nat × OX ByteArray), Qd8 a l c a l c k k v v q q (Qd6 i i i = Qd6 j j j) (Qcw (Qcx (Qcm i))) j (Qd5 j = Qd5 i) j l h j (∀ (t : ByteArray), Qdb j t j l k v q t) j j (Qd9 l j l i (∀ (k_1 : OX ByteArray), Qda h k_1 (∀ (t : ByteArray), Qd4 k_1 t l k v q t) k_1 l → Qda h k_1 (∀ (t : ByteArray), Qd4 k_1 t l k v q t) k_1 l) (∀ (v : Value) (h : AHeap), False → False))) (bs (not (decide (x_1 = v))) (∃ (j : Nat × OX ByteArray), Qd8 a l c a l c k k v v q q (Qd6 i i i = Qd6 j j j) (Qcw (Qcx (Qcm i))) j (Qd5 j = Qd5 i) j l h j (∀ (t : ByteArray), Qdb j t j l k v q t) j j (Qd9 l j l i (∀ (k_1 : OX ByteArray), Qda h k_1 (∀ (t : ByteArray), Qd4 k_1 t l k v q t) k_1 l → Qda h k_1 (∀ (t : ByteArray), Qd4 k_1 t l k v q t) k_1 l) (∀ (v : Value) (h : AHeap), False → False))) (bs (not (decide (x_2 = q))) (∃ (j : Nat × OX ByteArray), Qd8 a l c a l c k k v v q q (Qd6 i i i = Qd6 j j j) (Qcw (Qcx (Qcm i))) j (Qd5 j = Qd5 i) j l h j (∀ (t : ByteArray), Qdb j t j l k v q t) j j (Qd9 l j l i (∀ (k_1 : OX ByteArray), Qda h k_1 (∀ (t : ByteArray), Qd4 k_1 t l k v q t) k_1 l → Qda h k_1 (∀ (t : ByteArray), Qd4 k_1 t l k v q t) k_1 l) (∀ (v : Value) (h : AHeap), False → False))) (∃ (i_1 : Nat × Vt × Nat × OX ByteArray), Qc9 (Qcu a l c = Qcu a l c) k k (Qc8 v v) q q (Qc9 (Qd6 i i i = Qct i_1 i_1 i_1) (Qcm i) (Qcq i_1) (Qcp = Qcp) 0 (Qcn i_1) (Qc5 (Qcl i_1 i_1 i_1 i_1 i_1 = [Qc7 x, Qc7 x_1, Qc7 x_2, Value.string x_3, Qc7 x_4]) (Qch i_1 = Qd5 i) (Qcv i_1 i_1 h i_1 (Qcd i_1 ≤ 400)) (∀ (j : Nat × Vt × Nat × OX ByteArray), Prod.fst j = Prod.fst i_1 ∧ Qcg j i_1 ∧ Qcf j i_1 ∧ Qce j i_1 → bs (decide (Qcn j < Qd0 j)) (∃ (l_2 r : Nat), Qd2 j (Addr.mk l_2 r Qd3) ∧ Qd1 j ∧ Qcn j < Qd0 j ∧ (∃ (x : ByteArray), AHeap.ld (Qch j) l_2 (r + Qcz j) Qco Qcy = some [Value.string x] ∧ bs (decide (x = Prod.fst (Qcj j))) (∃ (j_1 : Nat × OX ByteArray), Qd8 a l c a l c k k v v q q (Qct j j j = Qd6 j_1 j_1 j_1) (Qcw (Qcx (Qcq j))) j_1 (Qd5 j_1 = Qch j) j_1 l h j_1 (∀ (t : ByteArray), Qdb j_1 t j_1 l k v q t) j_1 j_1 (Qd9 l j_1 l i (∀ (k_1 : OX ByteArray), Qda h k_1 (∀ (t : ByteArray), Qd4 k_1 t l k v q t) k_1 l → Qda h k_1 (∀ (t : ByteArray), Qd4 k_1 t l k v q t) k_1 l) (∀ (v : Value) (h : AHeap), False → False))) (Qc5 ((0 : Int) ≤ (0 : Int)) (Qd1 j) (Qcn j ≤ Qd0 j ∨ Qcs j ≠ Qco ∧ Qcn j < (↑(Qcs j) : Int)) (∀ (x : Addr), Qd2 j x → Addr.spot x = Qd3) (∃ (xs : List (List Value)), Qd7 (Qdd (Qdg (Qch j)) (Qdi (OX.a (Qcc j))) (Qcz j - Qdh) (decide (Qcs j = Qco)) (Qcs j - Qdh)) xs xs Qco xs (∃ (a_3 : Option Addr) (n c_1 : Nat) (h' : AHeap), Qdc (Qdg (Qch j)) (Qdf (Qch j)) Qco Qcy xs a_3 n c_1 h' ∧ (∃ (xs : List (List Value)), Qd7 (rowsV (Qde h' [[Qck j]]) (Value.slice (Qdf h') Qcy 2)) xs xs n xs (∃ (a_4 : Option Addr) (n_1 c_2 : Nat) (h'_1 : AHeap), Qc5 (Qdc (Qde h' [[Qck j]]) a_3 n c_1 xs a_4 n_1 c_2 h'_1) (Qd1 j) (Qcn j ≤ Qd0 j) (Qd0 j ≤ Qd0 j ∨ Qcs j ≠ Qco ∧ Qd0 j < (↑(Qcs j) : Int)) ((∀ (x : Addr), Qd2 j x → Addr.spot x = Qd3) ∧ (∃ (xs : List (List Value)), Qd7 (Qdd h'_1 (Option.map (fun (x : Addr) => Addr.mk (Addr.block x) (Addr.off x + Qcz j) (Addr.spot x)) (OX.a (Qcc j))) (Int.toNat (Qd0 j) - Qcz j) (decide (Qcs j = Qco)) (Qcs j - Qcz j)) xs xs n_1 xs (∃ (a_5 : Option Addr) (n c_3 : Nat) (h' : AHeap), Qdc h'_1 a_4 n_1 c_2 xs a_5 n c_3 h' ∧ (∃ (j_1 : Nat × OX ByteArray), Qd8 a l c a l c k k v v q q (Value.slice a_5 n c_3 = Qd6 j_1 j_1 j_1) (Qcw (Qcx (Qcq j))) j_1 (Qd5 j_1 = h') j_1 l h j_1 (∀ (t : ByteArray), Qdb j_1 t j_1 l k v q t) j_1 j_1 (Qd9 l j_1 l i (∀ (k_1 : OX ByteArray), Qda h k_1 (∀ (t : ByteArray), Qd4 k_1 t l k v q t) k_1 l → Qda h k_1 (∀ (t : ByteArray), Qd4 k_1 t l k v q t) k_1 l) (∀ (v : Value) (h : AHeap), False → False))))))))))))) (Qc5 ((0 : Int) ≤ (0 : Int)) (Qd1 j) (Qcn j ≤ Qd0 j ∨ Qcs j ≠ Qco ∧ Qcn j < (↑(Qcs j) : Int)) (∀ (x : Addr), Qd2 j x → Addr.spot x = Qd3) (∃ (xs : List (List Value)), Qd7 (Qdd (Qdg (Qch j)) (Qdi (OX.a (Qcc j))) (Qcz j - Qdh) (decide (Qcs j = Qco)) (Qcs j - Qdh)) xs xs Qco xs (∃ (a_3 : Option Addr) (n c_1 : Nat) (h' : AHeap), Qdc (Qdg (Qch j)) (Qdf (Qch j)) Qco Qcy xs a_3 n c_1 h' ∧ (∃ (xs : List (List Value)), Qd7 (rowsV (Qde h' [[Qck j]]) (Value.slice (Qdf h') Qcy 2)) xs xs n xs (∃ (a_4 : Option Addr) (n_1 c_2 : Nat) (h'_1 : AHeap), Qc5 (Qdc (Qde h' [[Qck j]]) a_3 n c_1 xs a_4 n_1 c_2 h'_1) (Qd1 j) (Qcn j ≤ Qd0 j) (Qd0 j ≤ Qd0 j ∨ Qcs j ≠ Qco ∧ Qd0 j < (↑(Qcs j) : Int)) ((∀ (x : Addr), Qd2 j x → Addr.spot x = Qd3) ∧ (∃ (xs : List (List Value)), Qd7 (Qdd h'_1 (Option.map (fun (x : Addr) => Addr.mk (Addr.block x) (Addr.off x + Qcz j) (Addr.spot x)) (OX.a (Qcc j))) (Int.toNat (Qd0 j) - Qcz j) (decide (Qcs j = Qco)) (Qcs j - Qcz j)) xs xs n_1 xs (∃ (a_5 : Option Addr) (n c_3 : Nat) (h' : AHeap), Qdc h'_1 a_4 n_1 c_2 xs a_5 n c_3 h' ∧ (∃ (j_1 : Nat × OX ByteArray), Qd8 a l c a l c k k v v q q (Value.slice a_5 n c_3 = Qd6 j_1 j_1 j_1) (Qcw (Qcx (Qcq j))) j_1 (Qd5 j_1 = h') j_1 l h j_1 (∀ (t : ByteArray), Qdb j_1 t j_1 l k v q t) j_1 j_1 (Qd9 l j_1 l i (∀ (k_1 : OX ByteArray), Qda h k_1 (∀ (t : ByteArray), Qd4 k_1 t l k v q t) k_1 l → Qda h k_1 (∀ (t : ByteArray), Qd4 k_1 t l k v q t) k_1 l) (∀ (v : Value) (h : AHeap), False → False)))))))))))) (∀ (v : Value) (h : AHeap), False → False)))))))) (∃ (j : OX ByteArray), Qc5 (Qd6 i i i = Qcr j j (OX.c j)) (OX.g j = Qd5 i) (OXok Sh.str h j) (∀ (t : ByteArray), Qd4 j t l k v q t) (Qca j ≤ List.length l))) Qc6 (Qc5 True Qc6 True ((∀ (i : Nat × Vt × Nat × OX ByteArray), Qcv i i h i (Qcd i ≤ 400) → bs (decide (Qcn i < Qd0 i)) (∃ (l_1 r : Nat), Qd2 i (Addr.mk l_1 r Qd3) ∧ Qd1 i ∧ Qcn i < Qd0 i ∧ (∃ (x : ByteArray), AHeap.ld (Qch i) l_1 (r + Qcz i) Qco Qcy = some [Value.string x] ∧ bs (Op.bytesLess (ByteArray.toList x) (ByteArray.toList (Prod.fst (Qcj i)))) (∃ (j : Nat × Vt × Nat × OX ByteArray), Qc9 (Qcu a l c = Qcu a l c) k k (Qc8 v v) q q (Qc9 (Qct i i i = Qct j j j) (Qcq i) (Qcq j) (Qcp = Qcp) (Qcw (Qcx (Qcn i))) (Qcn j) (Qc5 (Qcl j j j j j = Qcl i i i i i) (Qch j = Qch i) (Qcv j j h j (Qcd j ≤ 400)) (Qcd j - Prod.fst (Qcb j) < Qcd i - Prod.fst (Qcb i)) ((∀ (k : Nat × Vt × Nat × OX ByteArray), Prod.fst k = Prod.fst j ∧ Qcg k j ∧ Qcf k j ∧ Qce k j → Prod.fst k = Prod.fst i ∧ Qcg k i ∧ Qcf k i ∧ Qce k i) ∧ (∀ (v : Value) (h : AHeap), False → False))))) (∃ (j : Nat × Vt × Nat × OX ByteArray), Qc9 (Qcu a l c = Qcu a l c) k k (Qc8 v v) q q (Qc9 (Qct i i i = Qct j j j) (Qcq i) (Qcq j) (Qcp = Qcp) (Qcn i) (Qcn j) (Qc5 (Qcl j j j j j = Qcl i i i i i) (Qch j = Qch i) (Prod.fst j = Prod.fst i) (Qcg j i) (Qcf j i ∧ Qce j i)))))) (∃ (j : Nat × Vt × Nat × OX ByteArray), Qc9 (Qcu a l c = Qcu a l c) k k (Qc8 v v) q q (Qc9 (Qct i i i = Qct j j j) (Qcq i) (Qcq j) (Qcp = Qcp) (Qcn i) (Qcn j) (Qc5 (Qcl j j j j j = Qcl i i i i i) (Qch j = Qch i) (Prod.fst j = Prod.fst i) (Qcg j i) (Qcf j i ∧ Qce j i))))) ∧ Qc6 ∧ True) (Qc6 ∧ True ∧ True ∧ True)) True) True True) = _) ?_; delta Qc5 Qc6 Qc7 Qc8 Qc9 Qca Qcb Qcc Qcd Qce Qcf Qcg Qch Qci Qcj Qck Qcl Qcm Qcn Qco Qcp Qcq Qcr Qcs Qct Qcu Qcv Qcw Qcx Qcy Qcz Qd0 Qd1 Qd2 Qd3 Qd4 Qd5 Qd6 Qd7 Qd8 Qd9 Qda Qdb Qdc Qdd Qde Qdf Qdg Qdh Qdi)
    simp only [true_and, and_true]
    refine ⟨fun ⟨i, o⟩ ⟨hi, B, hm, hl⟩ => ?_, fun ⟨i, x, m, o⟩ ⟨hmo, B, h4⟩ => ?_⟩
    · dsimp only at *
      refine bs_d (fun hlt => ?_) (fun hge => ⟨o, rfl, rfl, B, by rw [List.take_of_length_le (by omega)] at hm; exact hm, by omega⟩)
      obtain ⟨⟨k', v', q', op', f'⟩, hat⟩ : ∃ y : Int × Int × Int × ByteArray × Int, l[i]? = some y := ⟨_, List.getElem?_eq_getElem (by omega)⟩
      obtain ⟨lo, r, row, ha, _, hrd, hld⟩ := (hx.mono B.le).elem hat
      obtain rfl := rd_vote.1 hrd
      dsimp only at hld
      have sk : ¬ (k' = k ∧ v' = v ∧ q' = q) ∨ op' ∈ o.xs → ∀ t, t ∈ o.xs ↔ t ∈ opsL (l.take (i + 1)) k v q := fun hne t => by
        rw [opsL_take hat, List.mem_append, ← hm]
        constructor
        · exact .inl
        · rintro (h | h)
          · exact h
          · split at h
            · rename_i c
              rcases hne with hne | hne
              · exact absurd c hne
              · rw [List.mem_singleton.1 h]; exact hne
            · cases h
      refine ⟨lo, r, ha, Int.natCast_nonneg _, hlt, _, _, _, _, _, hld, bs_dn (fun e => ?_) (fun e1 => bs_dn (fun e => ?_) (fun e2 => bs_dn (fun e => ?_) (fun e3 => ?_)))⟩
      · exact ⟨(i + 1, o), rfl, by rw [wrap_i64 (by omega)]; rfl, rfl, ⟨by dsimp only; omega, B, sk (.inl fun H => e H.1), by dsimp only; omega⟩, by dsimp only; omega, fun _ h => h, fun _ _ h => h⟩
      · exact ⟨(i + 1, o), rfl, by rw [wrap_i64 (by omega)]; rfl, rfl, ⟨by dsimp only; omega, B, sk (.inl fun H => e H.2.1), by dsimp only; omega⟩, by dsimp only; omega, fun _ h => h, fun _ _ h => h⟩
      · exact ⟨(i + 1, o), rfl, by rw [wrap_i64 (by omega)]; rfl, rfl, ⟨by dsimp only; omega, B, sk (.inl fun H => e H.2.2), by dsimp only; omega⟩, by dsimp only; omega, fun _ h => h, fun _ _ h => h⟩
      obtain rfl := e1; obtain rfl := e2; obtain rfl := e3
      refine ⟨(i, (k', v', q', op', f'), 0, o), rfl, rfl, rfl, rfl, rfl, ⟨Nat.zero_le _, B, by dsimp only; omega⟩, fun ⟨i', x', m, o'⟩ ⟨q1, q2, q3, q4⟩ => ?_, fun _ _ h => h⟩
      dsimp only at q1 q2 q3 q4
      subst q1; subst q2; subst q3
      dsimp only
      refine bs_d (fun hlt2 => ?_) (fun hge2 => ?_)
      · obtain ⟨t, hat2⟩ : ∃ y : ByteArray, o'.xs[m]? = some y := ⟨_, List.getElem?_eq_getElem (by omega)⟩
        obtain ⟨lo2, r2, row2, ha2, _, hrd2, hld2⟩ := B.sn.so.sl.elem hat2
        obtain rfl : row2 = [.string t] := hrd2
        refine ⟨lo2, r2, ha2, Int.natCast_nonneg _, hlt2, _, hld2, bs_d (fun e => ⟨(i' + 1, o'), rfl, by rw [wrap_i64 (by omega)]; rfl, rfl, ⟨by dsimp only; omega, B, sk (.inr (by rw [← e]; exact List.mem_of_getElem? hat2)), by dsimp only; omega⟩, by dsimp only; omega, fun _ h => h, fun _ _ h => h⟩) (fun e => ?_)⟩
        simp only [Int.toNat_natCast, show Int.toNat 0 = 0 from rfl, Nat.sub_zero]
        have S0 : Sl o'.g Sh.str o'.xs (.slice o'.a o'.xs.length o'.c) := B.sn.so.sl
        have sp : ∀ x : Addr, o'.a = some x → x.spot = some 1 := fun x hx => by
          rcases S0.row.1 with ⟨h1, _, _⟩ | ⟨l, r, h1⟩
          · rw [h1] at hx; cases hx
          · rw [h1] at hx; cases hx; rfl
        obtain ⟨rows1, e1, e2, e3, l1, c1, g1, e4, B1⟩ := app_clone (s := Sh.str) rfl B.wf (S0.sub (i := 0) (m := m) (by omega))
        refine ⟨by omega, by omega, .inl (by omega), sp, rows1, e1, e2, by rw [e3]; omega, _, _, _, g1, e4, ?_⟩
        obtain ⟨l2, g2, ids2, e5, B2, _, _, _⟩ := (B1.grow (.push B1.wf ⟨[[.string op']], 1, true⟩) (B1.wf.push _)).app (x := op') (cs := [.string op']) (js := []) ⟨rfl, rfl⟩ .nil (by simp)
        refine ⟨[[.string op']], rowsV_push, rfl, by simp only [List.length_cons, List.length_nil]; omega, _, _, _, g2, e5, by omega, by omega, .inl (Int.le_refl _), sp, ?_⟩
        obtain ⟨rows3, e6, e7, e8, a3, c3, g3, ids3, e9, B3, _, _, _⟩ := B2.appR (ys := (o'.xs.drop m).take (o'.xs.length - m)) rfl (S0.sub (i := m) (m := o'.xs.length - m) (by omega))
        refine ⟨rows3, e6, e7, by rw [e8]; omega, _, _, _, g3, e9, ?_⟩
        have B4 : SoB Sh.str h g3 a3 (((o'.xs.drop 0).take m ++ [op']) ++ (o'.xs.drop m).take (o'.xs.length - m)).length c3 (((o'.xs.drop 0).take m ++ [op']) ++ (o'.xs.drop m).take (o'.xs.length - m)) ids3 := by rw [B3.len]; exact B3.rebase B.le hw
        have hmem : ∀ t, t ∈ ((o'.xs.drop 0).take m ++ [op']) ++ (o'.xs.drop m).take (o'.xs.length - m) ↔ t ∈ o'.xs ∨ t = op' := fun t => by
          rw [List.drop_zero, List.take_of_length_le (l := o'.xs.drop m) (by rw [List.length_drop]; omega), List.mem_append, List.mem_append, List.mem_singleton]
          constructor
          · rintro ((h | h) | h)
            · exact .inl (List.mem_of_mem_take h)
            · exact .inr h
            · exact .inl (List.mem_of_mem_drop h)
          · rintro (h | h)
            · rw [← List.take_append_drop m o'.xs] at h
              rcases List.mem_append.1 h with h | h
              · exact .inl (.inl h)
              · exact .inr h
            · exact .inl (.inr h)
        refine ⟨(i' + 1, ⟨a3, c3, _, ids3, g3⟩), ?_, by rw [wrap_i64 (by omega)]; rfl, rfl, ⟨by dsimp only; omega, B4, fun t => ?_, ?_⟩, by dsimp only; omega, fun _ h => h, fun _ _ h => h⟩
        · dsimp only
          rw [B3.len]
        · dsimp only
          rw [hmem, hm, opsL_take hat, if_pos ⟨rfl, rfl, rfl⟩, List.mem_append, List.mem_singleton]
        · dsimp only
          rw [B3.len]; omega
      · simp only [Int.toNat_natCast, show Int.toNat 0 = 0 from rfl, Nat.sub_zero]
        have S0 : Sl o'.g Sh.str o'.xs (.slice o'.a o'.xs.length o'.c) := B.sn.so.sl
        have sp : ∀ x : Addr, o'.a = some x → x.spot = some 1 := fun x hx => by
          rcases S0.row.1 with ⟨h1, _, _⟩ | ⟨l, r, h1⟩
          · rw [h1] at hx; cases hx
          · rw [h1] at hx; cases hx; rfl
        obtain ⟨rows1, e1, e2, e3, l1, c1, g1, e4, B1⟩ := app_clone (s := Sh.str) rfl B.wf (S0.sub (i := 0) (m := m) (by omega))
        refine ⟨by omega, by omega, .inl (by omega), sp, rows1, e1, e2, by rw [e3]; omega, _, _, _, g1, e4, ?_⟩
        obtain ⟨l2, g2, ids2, e5, B2, _, _, _⟩ := (B1.grow (.push B1.wf ⟨[[.string op']], 1, true⟩) (B1.wf.push _)).app (x := op') (cs := [.string op']) (js := []) ⟨rfl, rfl⟩ .nil (by simp)
        refine ⟨[[.string op']], rowsV_push, rfl, by simp only [List.length_cons, List.length_nil]; omega, _, _, _, g2, e5, by omega, by omega, .inl (Int.le_refl _), sp, ?_⟩
        obtain ⟨rows3, e6, e7, e8, a3, c3, g3, ids3, e9, B3, _, _, _⟩ := B2.appR (ys := (o'.xs.drop m).take (o'.xs.length - m)) rfl (S0.sub (i := m) (m := o'.xs.length - m) (by omega))
        refine ⟨rows3, e6, e7, by rw [e8]; omega, _, _, _, g3, e9, ?_⟩
        have B4 : SoB Sh.str h g3 a3 (((o'.xs.drop 0).take m ++ [op']) ++ (o'.xs.drop m).take (o'.xs.length - m)).length c3 (((o'.xs.drop 0).take m ++ [op']) ++ (o'.xs.drop m).take (o'.xs.length - m)) ids3 := by rw [B3.len]; exact B3.rebase B.le hw
        have hmem : ∀ t, t ∈ ((o'.xs.drop 0).take m ++ [op']) ++ (o'.xs.drop m).take (o'.xs.length - m) ↔ t ∈ o'.xs ∨ t = op' := fun t => by
          rw [List.drop_zero, List.take_of_length_le (l := o'.xs.drop m) (by rw [List.length_drop]; omega), List.mem_append, List.mem_append, List.mem_singleton]
          constructor
          · rintro ((h | h) | h)
            · exact .inl (List.mem_of_mem_take h)
            · exact .inr h
            · exact .inl (List.mem_of_mem_drop h)
          · rintro (h | h)
            · rw [← List.take_append_drop m o'.xs] at h
              rcases List.mem_append.1 h with h | h
              · exact .inl (.inl h)
              · exact .inr h
            · exact .inl (.inr h)
        refine ⟨(i' + 1, ⟨a3, c3, _, ids3, g3⟩), ?_, by rw [wrap_i64 (by omega)]; rfl, rfl, ⟨by dsimp only; omega, B4, fun t => ?_, ?_⟩, by dsimp only; omega, fun _ h => h, fun _ _ h => h⟩
        · dsimp only
          rw [B3.len]
        · dsimp only
          rw [hmem, hm, opsL_take hat, if_pos ⟨rfl, rfl, rfl⟩, List.mem_append, List.mem_singleton]
        · dsimp only
          rw [B3.len]; omega
    · dsimp only at *
      refine bs_d (fun hlt => ?_) (fun hge => ⟨(i, x, m, o), rfl, rfl, rfl, rfl, rfl, rfl, rfl, rfl, hmo⟩)
      obtain ⟨t, hat2⟩ : ∃ y : ByteArray, o.xs[m]? = some y := ⟨_, List.getElem?_eq_getElem (by omega)⟩
      obtain ⟨lo2, r2, row2, ha2, _, hrd2, hld2⟩ := B.sn.so.sl.elem hat2
      obtain rfl : row2 = [.string t] := hrd2
      refine ⟨lo2, r2, ha2, Int.natCast_nonneg _, hlt, _, hld2, bs_of (fun e => ⟨(i, x, m + 1, o), rfl, rfl, by rw [wrap_i64 (by omega)]; rfl, rfl, rfl, ⟨by dsimp only; omega, B, h4⟩, by dsimp only; omega, fun _ h => h, fun _ _ h => h⟩) (fun e => ⟨(i, x, m, o), rfl, rfl, rfl, rfl, rfl, rfl, rfl, rfl, hmo⟩)⟩
  (refine vc_mp (by kernel_rfl : (∃ (i : Nat × OX ByteArray), Qd8 a l c a l c k k v v q q (Value.slice (Qdf h) Qco Qcy = Qd6 i i i) 0 i (Qd5 i = Qdg h) i l h i (∀ (t : ByteArray), Qdb i t i l k v q t) i i ((∀ (j : OX ByteArray), Qda h j (∀ (t : ByteArray), Qd4 j t l k v q t) j l → Q (Qcr j j (OX.c j)) (OX.g j)) ∧ (∀ (v : Value) (h : AHeap), False → Q v h))) = _) ?_; delta Qc5 Qc7 Qc8 Qc9 Qca Qcm Qco Qcr Qcu Qcy Qd3 Qd4 Qd5 Qd6 Qd8 Qda Qdb Qdf Qdg)
  have wp := hw.push ⟨[], 1, true⟩
  have B0 : OXok Sh.str h ⟨some ⟨h.n, 0, some 1⟩, 1, [], [h.n], h.push ⟨[], 1, true⟩⟩ := SoB.flat (s := Sh.str) (g := h) rfl (AHeap.Le.push hw ⟨[], 1, true⟩) wp hw (Nat.le_refl _) rfl AHeap.get_push_eq rfl (.inr rfl) (fun i y row h1 => by cases h1)
  exact ⟨(0, ⟨some ⟨h.n, 0, some 1⟩, 1, [], [h.n], h.push ⟨[], 1, true⟩⟩), rfl, rfl, rfl, rfl, rfl, rfl, rfl, ⟨Nat.zero_le _, B0, fun t => ⟨fun h => (by cases h), fun h => (by cases h)⟩, Nat.zero_le _⟩, fun o ⟨B, hm, hl⟩ => HQ _ _ ⟨o, rfl, rfl, B, fun t => (hm t).trans mem_opsL, Nat.le_trans hl n1⟩, fun _ _ h => h.elim⟩
end Go.Proofs.YtpgfjadjhliohaaGreat
end
