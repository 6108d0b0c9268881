/- Contracts: what a client hears, in the reference. -/
import Derived.Test.YtanienlcebkijaaV11V2
import Derived.Test.YtanienlcebkijaaV11C9
import Derived.Test.YtanienlcebkijaaV11H5
namespace Go.Dat
open Go.Abs
theorem Sh.flat_rd {h g : AHeap} : ∀ {s : Sh}, s.flat = true → ∀ {x : s.T} {cs : List Value}, s.rd h x cs → s.rd g x cs := fun hf _ _ r => (Sh.flat_rn hf r).ro.rd
theorem SoB.appR {s : Sh} (hf : s.flat = true) {h0 h : AHeap} {a : Option Addr} {n c : Nat} {xs : List s.T} {ids : List Nat} (B : SoB s h0 h a n c xs ids) {ys : List s.T} {a2 : Option Addr} {m c2 : Nat} (hy : Sl h0 s ys (.slice a2 m c2)) :
    ∃ rows, rowsV h (.slice a2 m c2) = some rows ∧ chkR s.cells rows ∧ rows.length = m ∧ ∃ a' c' h' ids', h.app (.slice a n c) rows s.cells = some (.slice a' (n + m) c', h') ∧ SoB s h0 h' a' (n + m) c' (xs ++ ys) ids' ∧ h.n ≤ h'.n ∧ (∀ z o, z ∉ ids → h.get z = some o → h'.get z = some o) ∧ ∀ z ∈ ids', z ∈ ids ∨ z = h.n := by
  obtain ⟨rows, h2, hl, hall, hrd⟩ := hy.rows
  have hm := hy.len
  have nb := B.len
  refine ⟨rows, B.le.rowsOf h2, hall, hl, ?_⟩
  cases rows with
  | nil =>
    have e0 : m = 0 := by rw [← hl]; rfl
    have e1 : ys = [] := List.eq_nil_of_length_eq_zero (by omega)
    subst e1; subst e0
    exact ⟨a, c, h, ids, rfl, by rw [List.append_nil]; exact B, Nat.le_refl _, fun _ _ _ e => e, fun _ e => .inl e⟩
  | cons r rs =>
    have sz : (xs ++ ys).length = n + m := by rw [List.length_append]; omega
    obtain ⟨rfl, rfl, rfl, rfl⟩ | ⟨l, rows0, idss, rfl, hg, hr, hi, rfl, hc, hx⟩ := B.at_
    · have e0 : xs = [] := List.eq_nil_of_length_eq_zero nb
      subst e0
      refine ⟨_, 0, _, [h.n], by rw [← hl, Nat.zero_add]; rfl, ?_, Nat.le_succ _, fun z o _ e => (AHeap.Le.push B.wf _).get z o e, fun z e => .inr (List.mem_singleton.1 e)⟩
      exact SoB.flat hf (B.le.trans (.push B.wf ⟨r :: rs, s.cells, true⟩)) (B.wf.push _) B.wf0 B.le.n sz AHeap.get_push_eq (by rw [hl, Nat.zero_add]) (.inl rfl) hrd
    · have hro : h.rowsOf (.slice (some ⟨l, 0, some s.cells⟩) n c) = some rows0 := by rw [get_rowsOf hg (by omega), List.drop_zero, List.take_of_length_le (by omega)]
      have hlt : l < h.n := B.wf.lt hg
      have h0l : h0.n ≤ l := (B.fr.bd l List.mem_cons_self).1
      have hrd2 : ∀ (i : Nat) (y : s.T) (row : List Value), (xs ++ ys)[i]? = some y → (rows0 ++ r :: rs)[i]? = some row → s.rd h0 y row := by
        intro i y row e1 e2
        by_cases c1 : i < n
        · rw [List.getElem?_append_left (by omega)] at e1 e2
          exact Sh.flat_rd hf (hx i y row _ e1 e2 (List.getElem?_eq_getElem (by omega))).ro.rd
        · rw [List.getElem?_append_right (by omega)] at e1 e2
          rw [nb] at e1; rw [hr] at e2
          exact hrd _ y row e1 e2
      have len2 : (rows0 ++ r :: rs).length = n + m := by rw [List.length_append]; omega
      unfold AHeap.app
      dsimp only
      rw [hro]
      dsimp only
      rw [beq_self_eq_true, cond_true]
      cases hcc : (c != 0 && decide (c ≤ n + (r :: rs).length)) with
      | true =>
        rw [cond_true]
        exact ⟨_, 0, _, [h.n], by rw [hl], SoB.flat hf (B.le.trans (.push B.wf ⟨rows0 ++ r :: rs, s.cells, true⟩)) (B.wf.push _) B.wf0 B.le.n sz AHeap.get_push_eq len2 (.inl rfl) hrd2, Nat.le_succ _, fun z o _ e => (AHeap.Le.push B.wf _).get z o e, fun z e => .inr (List.mem_singleton.1 e)⟩
      | false =>
        rw [cond_false, hg]
        dsimp only
        have hno : (c != 0 && decide (0 + n + (r :: rs).length ≤ rows0.length)) = false := by
          rw [Bool.and_eq_false_iff]; right; rw [decide_eq_false_iff_not]; rw [hl, hr]
          have : 0 < m := by rw [← hl]; simp
          omega
        rw [cond_true, hno, cond_false]
        have w2 : (h.put l none).wf := B.wf.put hlt _
        exact ⟨_, 0, _, [h.n], by rw [hl], SoB.flat hf ((B.le.put (B.wf0 l h0l) none).trans (.push w2 ⟨rows0 ++ r :: rs, s.cells, true⟩)) (w2.push _) B.wf0 B.le.n sz (by show ((h.put l none).push _).get (h.put l none).n = _; exact AHeap.get_push_eq) len2 (.inl rfl) hrd2, Nat.le_succ _, fun z o hz e => (AHeap.Le.push w2 _).get z o (by rw [AHeap.get_put_ne (fun e2 => hz (by rw [e2]; exact List.mem_cons_self))]; exact e), fun z e => .inr (List.mem_singleton.1 e)⟩
theorem rows_sub {h : AHeap} {l r e n c i m c' : Nat} {rows : List (List Value)} (hr : h.rowsOf (.slice (some ⟨l, r, some e⟩) n c) = some rows) (hi : i + m ≤ n) : h.rowsOf (.slice (some ⟨l, r + i, some e⟩) m c') = some ((rows.drop i).take m) := by
  unfold AHeap.rowsOf at hr ⊢
  dsimp only at hr ⊢
  cases hg : h.get l with
  | none => rw [hg] at hr; cases hr
  | some o =>
    rw [hg] at hr
    dsimp only at hr ⊢
    cases h1 : o.esz == e with
    | false => rw [h1] at hr; cases hr
    | true =>
      rw [h1] at hr
      simp only [Bool.true_and] at hr ⊢
      by_cases h2 : r + n ≤ o.rows.length
      · rw [decide_eq_true h2] at hr
        rw [decide_eq_true (by omega : r + i + m ≤ o.rows.length)]
        cases hr
        show some _ = some _
        rw [List.drop_take, List.drop_drop, List.take_take, Nat.min_eq_left (by omega)]
      · rw [decide_eq_false h2] at hr; cases hr
theorem Sl.sub {h : AHeap} {s : Sh} {xs : List s.T} {a : Option Addr} {n c : Nat} (x : Sl h s xs (.slice a n c)) {i m : Nat} (hi : i + m ≤ n) : Sl h s ((xs.drop i).take m) (.slice (a.map fun x => ⟨x.block, x.off + i, x.spot⟩) m (bif decide (c = 0) then 0 else c - i)) := by
  obtain ⟨a', n', c'', rows, e, h1, h2, h3, h4⟩ := x
  cases e
  rcases h1 with ⟨rfl, rfl, rfl⟩ | ⟨l, r, rfl⟩
  · have hm : m = 0 := by omega
    subst hm
    exact ⟨none, 0, 0, [], rfl, .inl ⟨rfl, rfl, rfl⟩, rfl, by simp, fun i y row hy => by simp at hy⟩
  · refine ⟨_, _, _, _, rfl, .inr ⟨_, _, rfl⟩, rows_sub h2 hi, by rw [List.length_take, List.length_drop]; omega, fun j y row hy hr => ?_⟩
    rw [List.getElem?_take] at hy hr
    split at hy
    · rename_i hj
      rw [if_pos hj, List.getElem?_drop] at hr
      rw [List.getElem?_drop] at hy
      exact h4 _ y row hy hr
    · cases hy
def kOf (hs : List heardSh.T) (y : Int) : Nat := (hs.takeWhile fun x => decide ((show Int from x.1) < y)).length
theorem kOf_eq : ∀ {hs : List heardSh.T} {y : Int} {k : Nat}, k ≤ hs.length → (∀ (j : Nat) (x : heardSh.T), j < k → hs[j]? = some x → (show Int from x.1) < y) → (∀ x : heardSh.T, hs[k]? = some x → y ≤ (show Int from x.1)) → kOf hs y = k
  | [], y, k, h, _, _ => by have : k = 0 := by simpa using h
                            rw [this]; rfl
  | x :: xs, y, 0, _, _, h2 => by
    have := h2 x rfl
    unfold kOf
    rw [List.takeWhile_cons, decide_eq_false (by omega)]; rfl
  | x :: xs, y, k + 1, h, h1, h2 => by
    have h0 := h1 0 x (by omega) rfl
    have ih := kOf_eq (hs := xs) (y := y) (k := k) (by simpa using h) (fun j z hj hz => h1 (j + 1) z (by omega) (by simpa using hz)) (fun z hz => h2 z (by simpa using hz))
    unfold kOf at ih ⊢
    rw [List.takeWhile_cons, decide_eq_true h0]
    simp only [if_true, List.length_cons]
    rw [ih]
open Classical in
noncomputable def clientHearM (c : clientSh.T) (f : Int) (r : replySh.T) : clientOutSh.T :=
  if ¬ (ClientOk c.1 c.2.1 c.2.2.1 c.2.2.2.1 c.2.2.2.2 ∧ InR 0 3 f ∧ ByteArray.size r.2.2 ≤ 900) then outX (0, 0, false, ⟨#[]⟩, 1) else
  if (show Bool from c.2.2.1) = false ∨ (show Int from r.1) ≠ c.1 ∨ (show Int from r.2.1) ≠ c.2.1 then outX (0, 0, false, ⟨#[]⟩, 10) else
  if ∃ x : heardSh.T, c.2.2.2.1[kOf c.2.2.2.1 f]? = some x ∧ (show Int from x.1) = f then outX (0, 0, false, ⟨#[]⟩, 7) else
  if ∃ x : heardSh.T, x ∈ c.2.2.2.1 ∧ (show ByteArray from x.2) = r.2.2 then ((c.1, c.2.1, false, [], r.2.2), ⟨#[]⟩, 0) else
  ((c.1, c.2.1, true, ins c.2.2.2.1 (kOf c.2.2.2.1 f) (f, r.2.2), ⟨#[]⟩), ⟨#[]⟩, 0)
end Go.Dat
namespace Go.Proofs.Ytanienlcebkijaa
open Go.Abs Go.Dat
set_option maxRecDepth 100000
set_option maxHeartbeats 8000000
abbrev c0S : List Value := [.int .i64 (Int.ofNat 0), .int .i64 (Int.ofNat 0), .bool false, .slice none 0 0, .string ⟨#[]⟩, .string ⟨#[]⟩, .int .i64 (Int.ofNat 0)]
def hearL (id number f rc rn : Int) (asked : Bool) (hs : List heardSh.T) (told rt : ByteArray) (a : Option Addr) (c : Nat) (h : AHeap) : Nat → LSpec
  | 0 => {
    ι := Nat
    κ := Nat
    I := fun k => k ≤ hs.length ∧ ∀ (j : Nat) (x : heardSh.T), j < k → hs[j]? = some x → (show Int from x.1) < f
    μ := fun k => hs.length - k
    head := fun k => ⟨[(1, .int .i64 f), (3, .complex .f32 0 0), (5, .complex .f32 1 0), (6, .complex .f32 2 0), (7, .int .i64 k)], [[.int .i64 id, .int .i64 number, .bool asked, .slice a hs.length c, .string told], [.int .i64 rc, .int .i64 rn, .string rt], c0S], h⟩
    post := fun k => ⟨[(1, .int .i64 f), (3, .complex .f32 0 0), (5, .complex .f32 1 0), (6, .complex .f32 2 0), (7, .int .i64 k)], [[.int .i64 id, .int .i64 number, .bool asked, .slice a hs.length c, .string told], [.int .i64 rc, .int .i64 rn, .string rt], c0S], h⟩
    R := fun _ k => k ≤ hs.length ∧ kOf hs f = k
    ret := fun _ _ _ => False }
  | _ => {
    ι := Nat × Nat
    κ := Nat
    I := fun i => i.1 ≤ hs.length ∧ kOf hs f = i.1 ∧ i.2 ≤ hs.length ∧ ∀ (j : Nat) (x : heardSh.T), j < i.2 → hs[j]? = some x → ¬ (show ByteArray from x.2) = rt
    μ := fun i => hs.length - i.2
    head := fun i => ⟨[(1, .int .i64 f), (3, .complex .f32 0 0), (5, .complex .f32 1 0), (6, .complex .f32 2 0), (7, .int .i64 i.1), (8, .int .i64 i.2)], [[.int .i64 id, .int .i64 number, .bool asked, .slice a hs.length c, .string told], [.int .i64 rc, .int .i64 rn, .string rt], c0S], h⟩
    post := fun k => ⟨[(1, .int .i64 f), (3, .complex .f32 0 0), (5, .complex .f32 1 0), (6, .complex .f32 2 0), (7, .int .i64 k)], [[.int .i64 id, .int .i64 number, .bool asked, .slice a hs.length c, .string told], [.int .i64 rc, .int .i64 rn, .string rt], c0S], h⟩
    R := fun i k => i.1 = k ∧ ∀ x ∈ hs, ¬ (show ByteArray from x.2) = rt
    ret := fun _ v h' => h' = h ∧ v = .agg #[.int .i64 id, .int .i64 number, .bool false, .slice none 0 0, .string rt, .string ⟨#[]⟩, .int .i64 (Int.ofNat 0)] ∧ ∃ x ∈ hs, (show ByteArray from x.2) = rt }
theorem xsClientHear (h : AHeap) (hw : h.wf) (x : clientSh.T) (v1 : Value) (h1 : Sl h heardSh x.2.2.2.1 v1) (ok : clientSh.ok x) (sm : clientSh.small x) (f : Int) (_ : -9223372036854775808 ≤ f ∧ f ≤ 9223372036854775807) (r : replySh.T) (okr : replySh.ok r) (_ : replySh.small r) :
    ∃ v h', ACall Try.prog 21 [.agg #[.int .i64 x.1, .int .i64 x.2.1, .bool x.2.2.1, v1, .string x.2.2.2.2], .int .i64 f, .agg #[.int .i64 r.1, .int .i64 r.2.1, .string r.2.2]] h v h' ∧ h.Le h' ∧ h'.wf ∧
      ∃ y j, v = .agg #[.int .i64 (clientHearM x f r).1.1, .int .i64 (clientHearM x f r).1.2.1, .bool (clientHearM x f r).1.2.2.1, y, .string (clientHearM x f r).1.2.2.2.2, .string (clientHearM x f r).2.1, .int .i64 (clientHearM x f r).2.2] ∧ So h' heardSh (clientHearM x f r).1.2.2.2.1 y j ∧ Fresh h.n h'.n j := by
  obtain ⟨(id : Int), (number : Int), (asked : Bool), (hs : List heardSh.T), (told : ByteArray)⟩ := x
  obtain ⟨(rc : Int), (rn : Int), (rt : ByteArray)⟩ := r
  dsimp only at *
  obtain ⟨a, c, rfl⟩ := h1.isSlice
  have n1 : hs.length ≤ 1048576 := sm.2.2.2.1.1
  refine acall_q fun Q HQ => ?_
  refine acall_vc (fun t => t == 10) (fun r => match r with | 13 => [(0, 0, []), (2, 0, []), (6, 0, []), (1, 1, []), (3, 0, []), (4, 0, []), (5, 1, []), (7, 1, []), (8, 0, [])] | 17 => [(11, 2, []), (0, 0, []), (2, 0, []), (4, 0, []), (5, 0, []), (7, 0, []), (1, 1, []), (3, 1, []), (6, 1, []), (8, 0, []), (9, 3, [11, 1, 3]), (10, 0, []), (12, 3, [])] | _ => []) (hearL id number f rc rn asked hs told rt a c h) mixed Try.func21 rfl rfl rfl (Nat.le_of_ble_eq_true rfl) ?_ ?_
  · refine vc_mp (by kernel_rfl : (True ∧ (True ∧ (True ∧ True) ∧ True) ∧ (True ∧ (True ∧ True) ∧ True) ∧ True ∧ ((∀ (i : Nat), (i ≤ List.length hs ∧ ∀ (j : Nat) (x : Sh.T heardSh), j < i → hs[j]? = some x → Prod.fst x < f) → bs (decide ((↑i : Int) < (↑(List.length hs) : Int))) (∃ (l : Nat), ∃ (r : Nat), a = some (Addr.mk l r (some (2 : Nat))) ∧ (0 : Int) ≤ (↑i : Int) ∧ (↑i : Int) < (↑(List.length hs) : Int) ∧ ∃ (x : Int), AHeap.ld h l (r + Int.toNat (↑i : Int)) (0 : Nat) (1 : Nat) = some [Value.int IntKind.i64 x] ∧ bs (decide (x < f)) (∃ (j : Nat), Value.int IntKind.i64 f = Value.int IntKind.i64 f ∧ Value.complex FloatKind.f32 (0 : Nat) (0 : Nat) = Value.complex FloatKind.f32 (0 : Nat) (0 : Nat) ∧ Value.complex FloatKind.f32 (1 : Nat) (0 : Nat) = Value.complex FloatKind.f32 (1 : Nat) (0 : Nat) ∧ Value.complex FloatKind.f32 (2 : Nat) (0 : Nat) = Value.complex FloatKind.f32 (2 : Nat) (0 : Nat) ∧ Value.int IntKind.i64 (IntKind.wrap IntKind.i64 ((↑i : Int) + (1 : Int))) = Value.int IntKind.i64 (↑j : Int) ∧ [Value.int IntKind.i64 id, Value.int IntKind.i64 number, Value.bool asked, Value.slice a (List.length hs) c, Value.string told] = [Value.int IntKind.i64 id, Value.int IntKind.i64 number, Value.bool asked, Value.slice a (List.length hs) c, Value.string told] ∧ [Value.int IntKind.i64 rc, Value.int IntKind.i64 rn, Value.string rt] = [Value.int IntKind.i64 rc, Value.int IntKind.i64 rn, Value.string rt] ∧ [Value.int IntKind.i64 (Int.ofNat (0 : Nat)), Value.int IntKind.i64 (Int.ofNat (0 : Nat)), Value.bool false, Value.slice none (0 : Nat) (0 : Nat), Value.string (ByteArray.mk (Array.mk [])), Value.string (ByteArray.mk (Array.mk [])), Value.int IntKind.i64 (Int.ofNat (0 : Nat))] = [Value.int IntKind.i64 (Int.ofNat (0 : Nat)), Value.int IntKind.i64 (Int.ofNat (0 : Nat)), Value.bool false, Value.slice none (0 : Nat) (0 : Nat), Value.string (ByteArray.mk (Array.mk [])), Value.string (ByteArray.mk (Array.mk [])), Value.int IntKind.i64 (Int.ofNat (0 : Nat))] ∧ h = h ∧ (j ≤ List.length hs ∧ ∀ (j_1 : Nat) (x : Sh.T heardSh), j_1 < j → hs[j_1]? = some x → Prod.fst x < f) ∧ List.length hs - j < List.length hs - i ∧ (∀ (k : Nat), k ≤ List.length hs ∧ kOf hs f = k → k ≤ List.length hs ∧ kOf hs f = k) ∧ ∀ (v : Value) (h : AHeap), False → False) (∃ (j : Nat), Value.int IntKind.i64 f = Value.int IntKind.i64 f ∧ Value.complex FloatKind.f32 (0 : Nat) (0 : Nat) = Value.complex FloatKind.f32 (0 : Nat) (0 : Nat) ∧ Value.complex FloatKind.f32 (1 : Nat) (0 : Nat) = Value.complex FloatKind.f32 (1 : Nat) (0 : Nat) ∧ Value.complex FloatKind.f32 (2 : Nat) (0 : Nat) = Value.complex FloatKind.f32 (2 : Nat) (0 : Nat) ∧ Value.int IntKind.i64 (↑i : Int) = Value.int IntKind.i64 (↑j : Int) ∧ [Value.int IntKind.i64 id, Value.int IntKind.i64 number, Value.bool asked, Value.slice a (List.length hs) c, Value.string told] = [Value.int IntKind.i64 id, Value.int IntKind.i64 number, Value.bool asked, Value.slice a (List.length hs) c, Value.string told] ∧ [Value.int IntKind.i64 rc, Value.int IntKind.i64 rn, Value.string rt] = [Value.int IntKind.i64 rc, Value.int IntKind.i64 rn, Value.string rt] ∧ [Value.int IntKind.i64 (Int.ofNat (0 : Nat)), Value.int IntKind.i64 (Int.ofNat (0 : Nat)), Value.bool false, Value.slice none (0 : Nat) (0 : Nat), Value.string (ByteArray.mk (Array.mk [])), Value.string (ByteArray.mk (Array.mk [])), Value.int IntKind.i64 (Int.ofNat (0 : Nat))] = [Value.int IntKind.i64 (Int.ofNat (0 : Nat)), Value.int IntKind.i64 (Int.ofNat (0 : Nat)), Value.bool false, Value.slice none (0 : Nat) (0 : Nat), Value.string (ByteArray.mk (Array.mk [])), Value.string (ByteArray.mk (Array.mk [])), Value.int IntKind.i64 (Int.ofNat (0 : Nat))] ∧ h = h ∧ j ≤ List.length hs ∧ kOf hs f = j)) (∃ (j : Nat), Value.int IntKind.i64 f = Value.int IntKind.i64 f ∧ Value.complex FloatKind.f32 (0 : Nat) (0 : Nat) = Value.complex FloatKind.f32 (0 : Nat) (0 : Nat) ∧ Value.complex FloatKind.f32 (1 : Nat) (0 : Nat) = Value.complex FloatKind.f32 (1 : Nat) (0 : Nat) ∧ Value.complex FloatKind.f32 (2 : Nat) (0 : Nat) = Value.complex FloatKind.f32 (2 : Nat) (0 : Nat) ∧ Value.int IntKind.i64 (↑i : Int) = Value.int IntKind.i64 (↑j : Int) ∧ [Value.int IntKind.i64 id, Value.int IntKind.i64 number, Value.bool asked, Value.slice a (List.length hs) c, Value.string told] = [Value.int IntKind.i64 id, Value.int IntKind.i64 number, Value.bool asked, Value.slice a (List.length hs) c, Value.string told] ∧ [Value.int IntKind.i64 rc, Value.int IntKind.i64 rn, Value.string rt] = [Value.int IntKind.i64 rc, Value.int IntKind.i64 rn, Value.string rt] ∧ [Value.int IntKind.i64 (Int.ofNat (0 : Nat)), Value.int IntKind.i64 (Int.ofNat (0 : Nat)), Value.bool false, Value.slice none (0 : Nat) (0 : Nat), Value.string (ByteArray.mk (Array.mk [])), Value.string (ByteArray.mk (Array.mk [])), Value.int IntKind.i64 (Int.ofNat (0 : Nat))] = [Value.int IntKind.i64 (Int.ofNat (0 : Nat)), Value.int IntKind.i64 (Int.ofNat (0 : Nat)), Value.bool false, Value.slice none (0 : Nat) (0 : Nat), Value.string (ByteArray.mk (Array.mk [])), Value.string (ByteArray.mk (Array.mk [])), Value.int IntKind.i64 (Int.ofNat (0 : Nat))] ∧ h = h ∧ j ≤ List.length hs ∧ kOf hs f = j)) ∧ (True ∧ True ∧ True) ∧ True) ∧ (True ∧ (True ∧ True) ∧ True) ∧ (True ∧ (∀ (i : Nat × Nat), (Prod.fst i ≤ List.length hs ∧ kOf hs f = Prod.fst i ∧ Prod.snd i ≤ List.length hs ∧ ∀ (j : Nat) (x : Sh.T heardSh), j < Prod.snd i → hs[j]? = some x → ¬Prod.snd x = rt) → bs (decide ((↑(Prod.snd i) : Int) < (↑(List.length hs) : Int))) (∃ (l : Nat), ∃ (r : Nat), a = some (Addr.mk l r (some (2 : Nat))) ∧ (0 : Int) ≤ (↑(Prod.snd i) : Int) ∧ (↑(Prod.snd i) : Int) < (↑(List.length hs) : Int) ∧ ∃ (x : ByteArray), AHeap.ld h l (r + Int.toNat (↑(Prod.snd i) : Int)) (1 : Nat) (1 : Nat) = some [Value.string x] ∧ bs (decide (x = rt)) (h = h ∧ Value.agg (Array.mk [Value.int IntKind.i64 id, Value.int IntKind.i64 number, Value.bool false, Value.slice none (0 : Nat) (0 : Nat), Value.string rt, Value.string (ByteArray.mk (Array.mk [])), Value.int IntKind.i64 (Int.ofNat (0 : Nat))]) = Value.agg (Array.mk [Value.int IntKind.i64 id, Value.int IntKind.i64 number, Value.bool false, Value.slice none (0 : Nat) (0 : Nat), Value.string rt, Value.string (ByteArray.mk (Array.mk [])), Value.int IntKind.i64 (Int.ofNat (0 : Nat))]) ∧ ∃ (x : Sh.T heardSh), x ∈ hs ∧ Prod.snd x = rt) (∃ (j : Nat × Nat), Value.int IntKind.i64 f = Value.int IntKind.i64 f ∧ Value.complex FloatKind.f32 (0 : Nat) (0 : Nat) = Value.complex FloatKind.f32 (0 : Nat) (0 : Nat) ∧ Value.complex FloatKind.f32 (1 : Nat) (0 : Nat) = Value.complex FloatKind.f32 (1 : Nat) (0 : Nat) ∧ Value.complex FloatKind.f32 (2 : Nat) (0 : Nat) = Value.complex FloatKind.f32 (2 : Nat) (0 : Nat) ∧ Value.int IntKind.i64 (↑(Prod.fst i) : Int) = Value.int IntKind.i64 (↑(Prod.fst j) : Int) ∧ Value.int IntKind.i64 (IntKind.wrap IntKind.i64 ((↑(Prod.snd i) : Int) + (1 : Int))) = Value.int IntKind.i64 (↑(Prod.snd j) : Int) ∧ [Value.int IntKind.i64 id, Value.int IntKind.i64 number, Value.bool asked, Value.slice a (List.length hs) c, Value.string told] = [Value.int IntKind.i64 id, Value.int IntKind.i64 number, Value.bool asked, Value.slice a (List.length hs) c, Value.string told] ∧ [Value.int IntKind.i64 rc, Value.int IntKind.i64 rn, Value.string rt] = [Value.int IntKind.i64 rc, Value.int IntKind.i64 rn, Value.string rt] ∧ [Value.int IntKind.i64 (Int.ofNat (0 : Nat)), Value.int IntKind.i64 (Int.ofNat (0 : Nat)), Value.bool false, Value.slice none (0 : Nat) (0 : Nat), Value.string (ByteArray.mk (Array.mk [])), Value.string (ByteArray.mk (Array.mk [])), Value.int IntKind.i64 (Int.ofNat (0 : Nat))] = [Value.int IntKind.i64 (Int.ofNat (0 : Nat)), Value.int IntKind.i64 (Int.ofNat (0 : Nat)), Value.bool false, Value.slice none (0 : Nat) (0 : Nat), Value.string (ByteArray.mk (Array.mk [])), Value.string (ByteArray.mk (Array.mk [])), Value.int IntKind.i64 (Int.ofNat (0 : Nat))] ∧ h = h ∧ (Prod.fst j ≤ List.length hs ∧ kOf hs f = Prod.fst j ∧ Prod.snd j ≤ List.length hs ∧ ∀ (j_1 : Nat) (x : Sh.T heardSh), j_1 < Prod.snd j → hs[j_1]? = some x → ¬Prod.snd x = rt) ∧ List.length hs - Prod.snd j < List.length hs - Prod.snd i ∧ (∀ (k : Nat), (Prod.fst j = k ∧ ∀ (x : Sh.T heardSh), x ∈ hs → ¬Prod.snd x = rt) → Prod.fst i = k ∧ ∀ (x : Sh.T heardSh), x ∈ hs → ¬Prod.snd x = rt) ∧ ∀ (v : Value) (h_1 : AHeap), (h_1 = h ∧ v = Value.agg (Array.mk [Value.int IntKind.i64 id, Value.int IntKind.i64 number, Value.bool false, Value.slice none (0 : Nat) (0 : Nat), Value.string rt, Value.string (ByteArray.mk (Array.mk [])), Value.int IntKind.i64 (Int.ofNat (0 : Nat))]) ∧ ∃ (x : Sh.T heardSh), x ∈ hs ∧ Prod.snd x = rt) → h_1 = h ∧ v = Value.agg (Array.mk [Value.int IntKind.i64 id, Value.int IntKind.i64 number, Value.bool false, Value.slice none (0 : Nat) (0 : Nat), Value.string rt, Value.string (ByteArray.mk (Array.mk [])), Value.int IntKind.i64 (Int.ofNat (0 : Nat))]) ∧ ∃ (x : Sh.T heardSh), x ∈ hs ∧ Prod.snd x = rt)) (∃ (j : Nat), Value.int IntKind.i64 f = Value.int IntKind.i64 f ∧ Value.complex FloatKind.f32 (0 : Nat) (0 : Nat) = Value.complex FloatKind.f32 (0 : Nat) (0 : Nat) ∧ Value.complex FloatKind.f32 (1 : Nat) (0 : Nat) = Value.complex FloatKind.f32 (1 : Nat) (0 : Nat) ∧ Value.complex FloatKind.f32 (2 : Nat) (0 : Nat) = Value.complex FloatKind.f32 (2 : Nat) (0 : Nat) ∧ Value.int IntKind.i64 (↑(Prod.fst i) : Int) = Value.int IntKind.i64 (↑j : Int) ∧ [Value.int IntKind.i64 id, Value.int IntKind.i64 number, Value.bool asked, Value.slice a (List.length hs) c, Value.string told] = [Value.int IntKind.i64 id, Value.int IntKind.i64 number, Value.bool asked, Value.slice a (List.length hs) c, Value.string told] ∧ [Value.int IntKind.i64 rc, Value.int IntKind.i64 rn, Value.string rt] = [Value.int IntKind.i64 rc, Value.int IntKind.i64 rn, Value.string rt] ∧ [Value.int IntKind.i64 (Int.ofNat (0 : Nat)), Value.int IntKind.i64 (Int.ofNat (0 : Nat)), Value.bool false, Value.slice none (0 : Nat) (0 : Nat), Value.string (ByteArray.mk (Array.mk [])), Value.string (ByteArray.mk (Array.mk [])), Value.int IntKind.i64 (Int.ofNat (0 : Nat))] = [Value.int IntKind.i64 (Int.ofNat (0 : Nat)), Value.int IntKind.i64 (Int.ofNat (0 : Nat)), Value.bool false, Value.slice none (0 : Nat) (0 : Nat), Value.string (ByteArray.mk (Array.mk [])), Value.string (ByteArray.mk (Array.mk [])), Value.int IntKind.i64 (Int.ofNat (0 : Nat))] ∧ h = h ∧ Prod.fst i = j ∧ ∀ (x : Sh.T heardSh), x ∈ hs → ¬Prod.snd x = rt)) ∧ (True ∧ True ∧ True) ∧ (True ∧ (True ∧ True) ∧ True) ∧ True) ∧ True ∧ True ∧ True ∧ True ∧ True) = _) ?_
    simp only [true_and, and_true]
    refine ⟨fun (k : Nat) ⟨hk, hall⟩ => ?_, fun ⟨k, i⟩ ⟨hk, hkk, hi, hall⟩ => ?_⟩
    · refine bs_d (fun hlt => ?_) (fun hge => ⟨k, rfl, hk, kOf_eq hk hall (fun x hx => absurd (List.getElem?_eq_some_iff.1 hx).1 (by omega))⟩)
      obtain ⟨⟨g, t⟩, hat⟩ : ∃ y : Int × ByteArray, hs[k]? = some y := ⟨_, List.getElem?_eq_getElem (by omega)⟩
      obtain ⟨l, r, row, ha, _, hrd, hld⟩ := h1.elem hat
      obtain rfl := rd_heard.1 hrd
      dsimp only at hld
      refine ⟨l, r, ha, Int.natCast_nonneg _, hlt, _, ld_cells (k := 0) (m := 1) hld (by simp), bs_d (fun e => ?_) (fun e => ⟨k, rfl, hk, kOf_eq hk hall (fun x hx => by rw [hat] at hx; cases hx; show f ≤ g; omega)⟩)⟩
      refine ⟨k + 1, by rw [wrap_i64 (by omega)]; rfl, ⟨by omega, fun j x hj hx => ?_⟩, by omega, fun _ h => h, fun _ _ h => h⟩
      by_cases c1 : j = k
      · subst c1; rw [hat] at hx; cases hx; exact e
      · exact hall j x (by omega) hx
    · dsimp only at *
      refine bs_d (fun hlt => ?_) (fun hge => ⟨k, rfl, rfl, fun x hx => ?_⟩)
      · obtain ⟨⟨g, t⟩, hat⟩ : ∃ y : Int × ByteArray, hs[i]? = some y := ⟨_, List.getElem?_eq_getElem (by omega)⟩
        obtain ⟨l, r, row, ha, _, hrd, hld⟩ := h1.elem hat
        obtain rfl := rd_heard.1 hrd
        dsimp only at hld
        refine ⟨l, r, ha, Int.natCast_nonneg _, hlt, _, ld_cells (k := 1) (m := 1) hld (by simp), bs_d (fun e => ⟨(g, t), List.mem_of_getElem? hat, e⟩) (fun e => ?_)⟩
        refine ⟨(k, i + 1), rfl, by rw [wrap_i64 (by omega)]; rfl, ⟨hk, hkk, by dsimp only; omega, fun j x hj hx => ?_⟩, by dsimp only; omega, fun _ h => h, fun _ _ h => h⟩
        dsimp only at hj
        by_cases c1 : j = i
        · subst c1; rw [hat] at hx; cases hx; exact e
        · exact hall j x (by omega) hx
      · obtain ⟨j, hj⟩ := List.mem_iff_getElem?.1 hx
        have := (List.getElem?_eq_some_iff.1 hj).1
        exact hall j x (by omega) hj
  obtain ⟨M, hM⟩ : ∃ M, M = clientHearM (id, number, asked, hs, told) f (rc, rn, rt) := ⟨_, rfl⟩
  rw [← hM] at HQ
  have bad : ∀ (c : Int) (g : AHeap), M = outX (0, 0, false, ⟨#[]⟩, c) → h.Le g → g.wf → Q (.agg #[.int .i64 0, .int .i64 0, .bool false, .slice none 0 0, .string ⟨#[]⟩, .string ⟨#[]⟩, .int .i64 c]) g := fun c g e le w => HQ _ _ ⟨le, w, _, [], by rw [e]; rfl, by rw [e]; exact Sn.nil.so, .nil⟩
  unfold clientHearM at hM
  dsimp only at hM
  refine vc_mp (by kernel_rfl : (∃ (x : Bool), ∃ (h' : AHeap), ACall Try.prog (63 : Nat) [Value.agg (Array.mk [Value.int IntKind.i64 id, Value.int IntKind.i64 number, Value.bool asked, Value.slice a (List.length hs) c, Value.string told])] h (Value.bool x) h' ∧ bs (!x) (∃ (x : Int), ∃ (x_1 : Int), ∃ (x_2 : Bool), ∃ (a : Option Addr), ∃ (n : Nat), ∃ (c : Nat), ∃ (x_3 : ByteArray), ∃ (x_4 : ByteArray), ∃ (x_5 : Int), ∃ (h'_1 : AHeap), ACall Try.prog (83 : Nat) [Value.int IntKind.i64 (1 : Int)] h' (Value.agg (Array.mk [Value.int IntKind.i64 x, Value.int IntKind.i64 x_1, Value.bool x_2, Value.slice a n c, Value.string x_3, Value.string x_4, Value.int IntKind.i64 x_5])) h'_1 ∧ Q (Value.agg (Array.mk [Value.int IntKind.i64 x, Value.int IntKind.i64 x_1, Value.bool x_2, Value.slice a n c, Value.string x_3, Value.string x_4, Value.int IntKind.i64 x_5])) h'_1) (∃ (x : Bool), ∃ (h'_1 : AHeap), ACall Try.prog (73 : Nat) [Value.int IntKind.i64 f] h' (Value.bool x) h'_1 ∧ bs (!x) (∃ (x : Int), ∃ (x_1 : Int), ∃ (x_2 : Bool), ∃ (a : Option Addr), ∃ (n : Nat), ∃ (c : Nat), ∃ (x_3 : ByteArray), ∃ (x_4 : ByteArray), ∃ (x_5 : Int), ∃ (h' : AHeap), ACall Try.prog (83 : Nat) [Value.int IntKind.i64 (1 : Int)] h'_1 (Value.agg (Array.mk [Value.int IntKind.i64 x, Value.int IntKind.i64 x_1, Value.bool x_2, Value.slice a n c, Value.string x_3, Value.string x_4, Value.int IntKind.i64 x_5])) h' ∧ Q (Value.agg (Array.mk [Value.int IntKind.i64 x, Value.int IntKind.i64 x_1, Value.bool x_2, Value.slice a n c, Value.string x_3, Value.string x_4, Value.int IntKind.i64 x_5])) h') (bs (decide ((↑(ByteArray.size rt) : Int) > (900 : Int))) (∃ (x : Int), ∃ (x_1 : Int), ∃ (x_2 : Bool), ∃ (a : Option Addr), ∃ (n : Nat), ∃ (c : Nat), ∃ (x_3 : ByteArray), ∃ (x_4 : ByteArray), ∃ (x_5 : Int), ∃ (h' : AHeap), ACall Try.prog (83 : Nat) [Value.int IntKind.i64 (1 : Int)] h'_1 (Value.agg (Array.mk [Value.int IntKind.i64 x, Value.int IntKind.i64 x_1, Value.bool x_2, Value.slice a n c, Value.string x_3, Value.string x_4, Value.int IntKind.i64 x_5])) h' ∧ Q (Value.agg (Array.mk [Value.int IntKind.i64 x, Value.int IntKind.i64 x_1, Value.bool x_2, Value.slice a n c, Value.string x_3, Value.string x_4, Value.int IntKind.i64 x_5])) h') (bs (!asked) (∃ (x : Int), ∃ (x_1 : Int), ∃ (x_2 : Bool), ∃ (a : Option Addr), ∃ (n : Nat), ∃ (c : Nat), ∃ (x_3 : ByteArray), ∃ (x_4 : ByteArray), ∃ (x_5 : Int), ∃ (h' : AHeap), ACall Try.prog (83 : Nat) [Value.int IntKind.i64 (10 : Int)] h'_1 (Value.agg (Array.mk [Value.int IntKind.i64 x, Value.int IntKind.i64 x_1, Value.bool x_2, Value.slice a n c, Value.string x_3, Value.string x_4, Value.int IntKind.i64 x_5])) h' ∧ Q (Value.agg (Array.mk [Value.int IntKind.i64 x, Value.int IntKind.i64 x_1, Value.bool x_2, Value.slice a n c, Value.string x_3, Value.string x_4, Value.int IntKind.i64 x_5])) h') (bs (!decide (rc = id)) (∃ (x : Int), ∃ (x_1 : Int), ∃ (x_2 : Bool), ∃ (a : Option Addr), ∃ (n : Nat), ∃ (c : Nat), ∃ (x_3 : ByteArray), ∃ (x_4 : ByteArray), ∃ (x_5 : Int), ∃ (h' : AHeap), ACall Try.prog (83 : Nat) [Value.int IntKind.i64 (10 : Int)] h'_1 (Value.agg (Array.mk [Value.int IntKind.i64 x, Value.int IntKind.i64 x_1, Value.bool x_2, Value.slice a n c, Value.string x_3, Value.string x_4, Value.int IntKind.i64 x_5])) h' ∧ Q (Value.agg (Array.mk [Value.int IntKind.i64 x, Value.int IntKind.i64 x_1, Value.bool x_2, Value.slice a n c, Value.string x_3, Value.string x_4, Value.int IntKind.i64 x_5])) h') (bs (!decide (rn = number)) (∃ (x : Int), ∃ (x_1 : Int), ∃ (x_2 : Bool), ∃ (a : Option Addr), ∃ (n : Nat), ∃ (c : Nat), ∃ (x_3 : ByteArray), ∃ (x_4 : ByteArray), ∃ (x_5 : Int), ∃ (h' : AHeap), ACall Try.prog (83 : Nat) [Value.int IntKind.i64 (10 : Int)] h'_1 (Value.agg (Array.mk [Value.int IntKind.i64 x, Value.int IntKind.i64 x_1, Value.bool x_2, Value.slice a n c, Value.string x_3, Value.string x_4, Value.int IntKind.i64 x_5])) h' ∧ Q (Value.agg (Array.mk [Value.int IntKind.i64 x, Value.int IntKind.i64 x_1, Value.bool x_2, Value.slice a n c, Value.string x_3, Value.string x_4, Value.int IntKind.i64 x_5])) h') (∃ (i : Nat), Value.int IntKind.i64 f = Value.int IntKind.i64 f ∧ Value.complex FloatKind.f32 (0 : Nat) (0 : Nat) = Value.complex FloatKind.f32 (0 : Nat) (0 : Nat) ∧ Value.complex FloatKind.f32 (1 : Nat) (0 : Nat) = Value.complex FloatKind.f32 (1 : Nat) (0 : Nat) ∧ Value.complex FloatKind.f32 (2 : Nat) (0 : Nat) = Value.complex FloatKind.f32 (2 : Nat) (0 : Nat) ∧ Value.int IntKind.i64 (0 : Int) = Value.int IntKind.i64 (↑i : Int) ∧ [Value.int IntKind.i64 id, Value.int IntKind.i64 number, Value.bool asked, Value.slice a (List.length hs) c, Value.string told] = [Value.int IntKind.i64 id, Value.int IntKind.i64 number, Value.bool asked, Value.slice a (List.length hs) c, Value.string told] ∧ [Value.int IntKind.i64 rc, Value.int IntKind.i64 rn, Value.string rt] = [Value.int IntKind.i64 rc, Value.int IntKind.i64 rn, Value.string rt] ∧ [Value.int IntKind.i64 (Int.ofNat (0 : Nat)), Value.int IntKind.i64 (Int.ofNat (0 : Nat)), Value.bool false, Value.slice none (0 : Nat) (0 : Nat), Value.string (ByteArray.mk (Array.mk [])), Value.string (ByteArray.mk (Array.mk [])), Value.int IntKind.i64 (Int.ofNat (0 : Nat))] = [Value.int IntKind.i64 (Int.ofNat (0 : Nat)), Value.int IntKind.i64 (Int.ofNat (0 : Nat)), Value.bool false, Value.slice none (0 : Nat) (0 : Nat), Value.string (ByteArray.mk (Array.mk [])), Value.string (ByteArray.mk (Array.mk [])), Value.int IntKind.i64 (Int.ofNat (0 : Nat))] ∧ h = h'_1 ∧ (i ≤ List.length hs ∧ ∀ (j : Nat) (x : Sh.T heardSh), j < i → hs[j]? = some x → Prod.fst x < f) ∧ (∀ (j : Nat), j ≤ List.length hs ∧ kOf hs f = j → bs (decide ((↑j : Int) < (↑(List.length hs) : Int))) (∃ (l : Nat), ∃ (r : Nat), a = some (Addr.mk l r (some (2 : Nat))) ∧ (0 : Int) ≤ (↑j : Int) ∧ (↑j : Int) < (↑(List.length hs) : Int) ∧ ∃ (x : Int), AHeap.ld h l (r + Int.toNat (↑j : Int)) (0 : Nat) (1 : Nat) = some [Value.int IntKind.i64 x] ∧ bs (decide (x = f)) (∃ (x : Int), ∃ (x_1 : Int), ∃ (x_2 : Bool), ∃ (a : Option Addr), ∃ (n : Nat), ∃ (c : Nat), ∃ (x_3 : ByteArray), ∃ (x_4 : ByteArray), ∃ (x_5 : Int), ∃ (h' : AHeap), ACall Try.prog (83 : Nat) [Value.int IntKind.i64 (7 : Int)] h (Value.agg (Array.mk [Value.int IntKind.i64 x, Value.int IntKind.i64 x_1, Value.bool x_2, Value.slice a n c, Value.string x_3, Value.string x_4, Value.int IntKind.i64 x_5])) h' ∧ Q (Value.agg (Array.mk [Value.int IntKind.i64 x, Value.int IntKind.i64 x_1, Value.bool x_2, Value.slice a n c, Value.string x_3, Value.string x_4, Value.int IntKind.i64 x_5])) h') (∃ (i : Nat × Nat), Value.int IntKind.i64 f = Value.int IntKind.i64 f ∧ Value.complex FloatKind.f32 (0 : Nat) (0 : Nat) = Value.complex FloatKind.f32 (0 : Nat) (0 : Nat) ∧ Value.complex FloatKind.f32 (1 : Nat) (0 : Nat) = Value.complex FloatKind.f32 (1 : Nat) (0 : Nat) ∧ Value.complex FloatKind.f32 (2 : Nat) (0 : Nat) = Value.complex FloatKind.f32 (2 : Nat) (0 : Nat) ∧ Value.int IntKind.i64 (↑j : Int) = Value.int IntKind.i64 (↑(Prod.fst i) : Int) ∧ Value.int IntKind.i64 (0 : Int) = Value.int IntKind.i64 (↑(Prod.snd i) : Int) ∧ [Value.int IntKind.i64 id, Value.int IntKind.i64 number, Value.bool asked, Value.slice a (List.length hs) c, Value.string told] = [Value.int IntKind.i64 id, Value.int IntKind.i64 number, Value.bool asked, Value.slice a (List.length hs) c, Value.string told] ∧ [Value.int IntKind.i64 rc, Value.int IntKind.i64 rn, Value.string rt] = [Value.int IntKind.i64 rc, Value.int IntKind.i64 rn, Value.string rt] ∧ [Value.int IntKind.i64 (Int.ofNat (0 : Nat)), Value.int IntKind.i64 (Int.ofNat (0 : Nat)), Value.bool false, Value.slice none (0 : Nat) (0 : Nat), Value.string (ByteArray.mk (Array.mk [])), Value.string (ByteArray.mk (Array.mk [])), Value.int IntKind.i64 (Int.ofNat (0 : Nat))] = [Value.int IntKind.i64 (Int.ofNat (0 : Nat)), Value.int IntKind.i64 (Int.ofNat (0 : Nat)), Value.bool false, Value.slice none (0 : Nat) (0 : Nat), Value.string (ByteArray.mk (Array.mk [])), Value.string (ByteArray.mk (Array.mk [])), Value.int IntKind.i64 (Int.ofNat (0 : Nat))] ∧ h = h ∧ (Prod.fst i ≤ List.length hs ∧ kOf hs f = Prod.fst i ∧ Prod.snd i ≤ List.length hs ∧ ∀ (j : Nat) (x : Sh.T heardSh), j < Prod.snd i → hs[j]? = some x → ¬Prod.snd x = rt) ∧ (∀ (j : Nat), (Prod.fst i = j ∧ ∀ (x : Sh.T heardSh), x ∈ hs → ¬Prod.snd x = rt) → (0 : Int) ≤ (0 : Int) ∧ (0 : Int) ≤ (↑j : Int) ∧ ((↑j : Int) ≤ (↑(List.length hs) : Int) ∨ c ≠ (0 : Nat) ∧ (↑j : Int) < (↑c : Int)) ∧ (∀ (x : Addr), a = some x → Addr.spot x = some (2 : Nat)) ∧ ∃ (xs : List (List Value)), rowsV (AHeap.push h (AObj.mk [] (2 : Nat) true)) (Value.slice (Option.map (fun (x : Addr) => Addr.mk (Addr.block x) (Addr.off x + Int.toNat (0 : Int)) (Addr.spot x)) a) (Int.toNat (↑j : Int) - Int.toNat (0 : Int)) (bif decide (c = (0 : Nat)) then (0 : Nat) else c - Int.toNat (0 : Int))) = some xs ∧ (List.all xs fun (row : List Value) => decide (List.length row = (2 : Nat)) && List.all row fun (v : Value) => match v with | Value.agg cells => false | Value.tuple cells => false | Value.complex k re im => false | Value.chan r => false | x => true) = true ∧ ((0 : Nat) + List.length xs) * (24 : Nat) ≤ (140737488355328 : Nat) ∧ ∃ (a_3 : Option Addr), ∃ (n : Nat), ∃ (c_1 : Nat), ∃ (h' : AHeap), AHeap.app (AHeap.push h (AObj.mk [] (2 : Nat) true)) (Value.slice (some (Addr.mk (AHeap.n h) (0 : Nat) (some (2 : Nat)))) (0 : Nat) (1 : Nat)) xs (2 : Nat) = some (Value.slice a_3 n c_1, h') ∧ ∃ (xs : List (List Value)), rowsV (AHeap.push h' (AObj.mk [[Value.int IntKind.i64 f, Value.string rt]] (2 : Nat) true)) (Value.slice (some (Addr.mk (AHeap.n h') (0 : Nat) (some (2 : Nat)))) (1 : Nat) (2 : Nat)) = some xs ∧ (List.all xs fun (row : List Value) => decide (List.length row = (2 : Nat)) && List.all row fun (v : Value) => match v with | Value.agg cells => false | Value.tuple cells => false | Value.complex k re im => false | Value.chan r => false | x => true) = true ∧ (n + List.length xs) * (24 : Nat) ≤ (140737488355328 : Nat) ∧ ∃ (a_4 : Option Addr), ∃ (n_1 : Nat), ∃ (c_2 : Nat), ∃ (h'_2 : AHeap), AHeap.app (AHeap.push h' (AObj.mk [[Value.int IntKind.i64 f, Value.string rt]] (2 : Nat) true)) (Value.slice a_3 n c_1) xs (2 : Nat) = some (Value.slice a_4 n_1 c_2, h'_2) ∧ (0 : Int) ≤ (↑j : Int) ∧ (↑j : Int) ≤ (↑(List.length hs) : Int) ∧ ((↑(List.length hs) : Int) ≤ (↑(List.length hs) : Int) ∨ c ≠ (0 : Nat) ∧ (↑(List.length hs) : Int) < (↑c : Int)) ∧ (∀ (x : Addr), a = some x → Addr.spot x = some (2 : Nat)) ∧ ∃ (xs : List (List Value)), rowsV (AHeap.push h'_2 (AObj.mk [[Value.int IntKind.i64 (Int.ofNat (0 : Nat)), Value.int IntKind.i64 (Int.ofNat (0 : Nat)), Value.bool false, Value.slice none (0 : Nat) (0 : Nat), Value.string (ByteArray.mk (Array.mk []))]] (5 : Nat) true)) (Value.slice (Option.map (fun (x : Addr) => Addr.mk (Addr.block x) (Addr.off x + Int.toNat (↑j : Int)) (Addr.spot x)) a) (Int.toNat (↑(List.length hs) : Int) - Int.toNat (↑j : Int)) (bif decide (c = (0 : Nat)) then (0 : Nat) else c - Int.toNat (↑j : Int))) = some xs ∧ (List.all xs fun (row : List Value) => decide (List.length row = (2 : Nat)) && List.all row fun (v : Value) => match v with | Value.agg cells => false | Value.tuple cells => false | Value.complex k re im => false | Value.chan r => false | x => true) = true ∧ (n_1 + List.length xs) * (24 : Nat) ≤ (140737488355328 : Nat) ∧ ∃ (a : Option Addr), ∃ (n : Nat), ∃ (c : Nat), ∃ (h' : AHeap), AHeap.app (AHeap.push h'_2 (AObj.mk [[Value.int IntKind.i64 (Int.ofNat (0 : Nat)), Value.int IntKind.i64 (Int.ofNat (0 : Nat)), Value.bool false, Value.slice none (0 : Nat) (0 : Nat), Value.string (ByteArray.mk (Array.mk []))]] (5 : Nat) true)) (Value.slice a_4 n_1 c_2) xs (2 : Nat) = some (Value.slice a n c, h') ∧ Value.int IntKind.i64 number = Value.int IntKind.i64 number ∧ Value.int IntKind.i64 id = Value.int IntKind.i64 id ∧ (AHeap.get h' (AHeap.n h'_2) = AHeap.get (AHeap.push h'_2 (AObj.mk [[Value.int IntKind.i64 (Int.ofNat (0 : Nat)), Value.int IntKind.i64 (Int.ofNat (0 : Nat)), Value.bool false, Value.slice none (0 : Nat) (0 : Nat), Value.string (ByteArray.mk (Array.mk []))]] (5 : Nat) true)) (AHeap.n h'_2) ∧ AHeap.n (AHeap.push h'_2 (AObj.mk [[Value.int IntKind.i64 (Int.ofNat (0 : Nat)), Value.int IntKind.i64 (Int.ofNat (0 : Nat)), Value.bool false, Value.slice none (0 : Nat) (0 : Nat), Value.string (ByteArray.mk (Array.mk []))]] (5 : Nat) true)) ≤ AHeap.n h') ∧ ∃ (h'_3 : AHeap), AHeap.wr h' (AHeap.n h'_2) (0 : Nat) (0 : Nat) [Value.int IntKind.i64 id, Value.int IntKind.i64 number, Value.bool true, Value.slice a n c, Value.string (ByteArray.mk (Array.mk []))] = some h'_3 ∧ ∃ (x : Int), ∃ (x_1 : Int), ∃ (x_2 : Bool), ∃ (a : Option Addr), ∃ (n : Nat), ∃ (c : Nat), ∃ (x_3 : ByteArray), AHeap.ld h'_3 (AHeap.n h'_2) (0 : Nat) (0 : Nat) (5 : Nat) = some [Value.int IntKind.i64 x, Value.int IntKind.i64 x_1, Value.bool x_2, Value.slice a n c, Value.string x_3] ∧ Q (Value.agg (Array.mk [Value.int IntKind.i64 x, Value.int IntKind.i64 x_1, Value.bool x_2, Value.slice a n c, Value.string x_3, Value.string (ByteArray.mk (Array.mk [])), Value.int IntKind.i64 (Int.ofNat (0 : Nat))])) h'_3) ∧ ∀ (v : Value) (h_1 : AHeap), (h_1 = h ∧ v = Value.agg (Array.mk [Value.int IntKind.i64 id, Value.int IntKind.i64 number, Value.bool false, Value.slice none (0 : Nat) (0 : Nat), Value.string rt, Value.string (ByteArray.mk (Array.mk [])), Value.int IntKind.i64 (Int.ofNat (0 : Nat))]) ∧ ∃ (x : Sh.T heardSh), x ∈ hs ∧ Prod.snd x = rt) → Q v h_1)) (∃ (i : Nat × Nat), Value.int IntKind.i64 f = Value.int IntKind.i64 f ∧ Value.complex FloatKind.f32 (0 : Nat) (0 : Nat) = Value.complex FloatKind.f32 (0 : Nat) (0 : Nat) ∧ Value.complex FloatKind.f32 (1 : Nat) (0 : Nat) = Value.complex FloatKind.f32 (1 : Nat) (0 : Nat) ∧ Value.complex FloatKind.f32 (2 : Nat) (0 : Nat) = Value.complex FloatKind.f32 (2 : Nat) (0 : Nat) ∧ Value.int IntKind.i64 (↑j : Int) = Value.int IntKind.i64 (↑(Prod.fst i) : Int) ∧ Value.int IntKind.i64 (0 : Int) = Value.int IntKind.i64 (↑(Prod.snd i) : Int) ∧ [Value.int IntKind.i64 id, Value.int IntKind.i64 number, Value.bool asked, Value.slice a (List.length hs) c, Value.string told] = [Value.int IntKind.i64 id, Value.int IntKind.i64 number, Value.bool asked, Value.slice a (List.length hs) c, Value.string told] ∧ [Value.int IntKind.i64 rc, Value.int IntKind.i64 rn, Value.string rt] = [Value.int IntKind.i64 rc, Value.int IntKind.i64 rn, Value.string rt] ∧ [Value.int IntKind.i64 (Int.ofNat (0 : Nat)), Value.int IntKind.i64 (Int.ofNat (0 : Nat)), Value.bool false, Value.slice none (0 : Nat) (0 : Nat), Value.string (ByteArray.mk (Array.mk [])), Value.string (ByteArray.mk (Array.mk [])), Value.int IntKind.i64 (Int.ofNat (0 : Nat))] = [Value.int IntKind.i64 (Int.ofNat (0 : Nat)), Value.int IntKind.i64 (Int.ofNat (0 : Nat)), Value.bool false, Value.slice none (0 : Nat) (0 : Nat), Value.string (ByteArray.mk (Array.mk [])), Value.string (ByteArray.mk (Array.mk [])), Value.int IntKind.i64 (Int.ofNat (0 : Nat))] ∧ h = h ∧ (Prod.fst i ≤ List.length hs ∧ kOf hs f = Prod.fst i ∧ Prod.snd i ≤ List.length hs ∧ ∀ (j : Nat) (x : Sh.T heardSh), j < Prod.snd i → hs[j]? = some x → ¬Prod.snd x = rt) ∧ (∀ (j : Nat), (Prod.fst i = j ∧ ∀ (x : Sh.T heardSh), x ∈ hs → ¬Prod.snd x = rt) → (0 : Int) ≤ (0 : Int) ∧ (0 : Int) ≤ (↑j : Int) ∧ ((↑j : Int) ≤ (↑(List.length hs) : Int) ∨ c ≠ (0 : Nat) ∧ (↑j : Int) < (↑c : Int)) ∧ (∀ (x : Addr), a = some x → Addr.spot x = some (2 : Nat)) ∧ ∃ (xs : List (List Value)), rowsV (AHeap.push h (AObj.mk [] (2 : Nat) true)) (Value.slice (Option.map (fun (x : Addr) => Addr.mk (Addr.block x) (Addr.off x + Int.toNat (0 : Int)) (Addr.spot x)) a) (Int.toNat (↑j : Int) - Int.toNat (0 : Int)) (bif decide (c = (0 : Nat)) then (0 : Nat) else c - Int.toNat (0 : Int))) = some xs ∧ (List.all xs fun (row : List Value) => decide (List.length row = (2 : Nat)) && List.all row fun (v : Value) => match v with | Value.agg cells => false | Value.tuple cells => false | Value.complex k re im => false | Value.chan r => false | x => true) = true ∧ ((0 : Nat) + List.length xs) * (24 : Nat) ≤ (140737488355328 : Nat) ∧ ∃ (a_3 : Option Addr), ∃ (n : Nat), ∃ (c_1 : Nat), ∃ (h' : AHeap), AHeap.app (AHeap.push h (AObj.mk [] (2 : Nat) true)) (Value.slice (some (Addr.mk (AHeap.n h) (0 : Nat) (some (2 : Nat)))) (0 : Nat) (1 : Nat)) xs (2 : Nat) = some (Value.slice a_3 n c_1, h') ∧ ∃ (xs : List (List Value)), rowsV (AHeap.push h' (AObj.mk [[Value.int IntKind.i64 f, Value.string rt]] (2 : Nat) true)) (Value.slice (some (Addr.mk (AHeap.n h') (0 : Nat) (some (2 : Nat)))) (1 : Nat) (2 : Nat)) = some xs ∧ (List.all xs fun (row : List Value) => decide (List.length row = (2 : Nat)) && List.all row fun (v : Value) => match v with | Value.agg cells => false | Value.tuple cells => false | Value.complex k re im => false | Value.chan r => false | x => true) = true ∧ (n + List.length xs) * (24 : Nat) ≤ (140737488355328 : Nat) ∧ ∃ (a_4 : Option Addr), ∃ (n_1 : Nat), ∃ (c_2 : Nat), ∃ (h'_2 : AHeap), AHeap.app (AHeap.push h' (AObj.mk [[Value.int IntKind.i64 f, Value.string rt]] (2 : Nat) true)) (Value.slice a_3 n c_1) xs (2 : Nat) = some (Value.slice a_4 n_1 c_2, h'_2) ∧ (0 : Int) ≤ (↑j : Int) ∧ (↑j : Int) ≤ (↑(List.length hs) : Int) ∧ ((↑(List.length hs) : Int) ≤ (↑(List.length hs) : Int) ∨ c ≠ (0 : Nat) ∧ (↑(List.length hs) : Int) < (↑c : Int)) ∧ (∀ (x : Addr), a = some x → Addr.spot x = some (2 : Nat)) ∧ ∃ (xs : List (List Value)), rowsV (AHeap.push h'_2 (AObj.mk [[Value.int IntKind.i64 (Int.ofNat (0 : Nat)), Value.int IntKind.i64 (Int.ofNat (0 : Nat)), Value.bool false, Value.slice none (0 : Nat) (0 : Nat), Value.string (ByteArray.mk (Array.mk []))]] (5 : Nat) true)) (Value.slice (Option.map (fun (x : Addr) => Addr.mk (Addr.block x) (Addr.off x + Int.toNat (↑j : Int)) (Addr.spot x)) a) (Int.toNat (↑(List.length hs) : Int) - Int.toNat (↑j : Int)) (bif decide (c = (0 : Nat)) then (0 : Nat) else c - Int.toNat (↑j : Int))) = some xs ∧ (List.all xs fun (row : List Value) => decide (List.length row = (2 : Nat)) && List.all row fun (v : Value) => match v with | Value.agg cells => false | Value.tuple cells => false | Value.complex k re im => false | Value.chan r => false | x => true) = true ∧ (n_1 + List.length xs) * (24 : Nat) ≤ (140737488355328 : Nat) ∧ ∃ (a : Option Addr), ∃ (n : Nat), ∃ (c : Nat), ∃ (h' : AHeap), AHeap.app (AHeap.push h'_2 (AObj.mk [[Value.int IntKind.i64 (Int.ofNat (0 : Nat)), Value.int IntKind.i64 (Int.ofNat (0 : Nat)), Value.bool false, Value.slice none (0 : Nat) (0 : Nat), Value.string (ByteArray.mk (Array.mk []))]] (5 : Nat) true)) (Value.slice a_4 n_1 c_2) xs (2 : Nat) = some (Value.slice a n c, h') ∧ Value.int IntKind.i64 number = Value.int IntKind.i64 number ∧ Value.int IntKind.i64 id = Value.int IntKind.i64 id ∧ (AHeap.get h' (AHeap.n h'_2) = AHeap.get (AHeap.push h'_2 (AObj.mk [[Value.int IntKind.i64 (Int.ofNat (0 : Nat)), Value.int IntKind.i64 (Int.ofNat (0 : Nat)), Value.bool false, Value.slice none (0 : Nat) (0 : Nat), Value.string (ByteArray.mk (Array.mk []))]] (5 : Nat) true)) (AHeap.n h'_2) ∧ AHeap.n (AHeap.push h'_2 (AObj.mk [[Value.int IntKind.i64 (Int.ofNat (0 : Nat)), Value.int IntKind.i64 (Int.ofNat (0 : Nat)), Value.bool false, Value.slice none (0 : Nat) (0 : Nat), Value.string (ByteArray.mk (Array.mk []))]] (5 : Nat) true)) ≤ AHeap.n h') ∧ ∃ (h'_3 : AHeap), AHeap.wr h' (AHeap.n h'_2) (0 : Nat) (0 : Nat) [Value.int IntKind.i64 id, Value.int IntKind.i64 number, Value.bool true, Value.slice a n c, Value.string (ByteArray.mk (Array.mk []))] = some h'_3 ∧ ∃ (x : Int), ∃ (x_1 : Int), ∃ (x_2 : Bool), ∃ (a : Option Addr), ∃ (n : Nat), ∃ (c : Nat), ∃ (x_3 : ByteArray), AHeap.ld h'_3 (AHeap.n h'_2) (0 : Nat) (0 : Nat) (5 : Nat) = some [Value.int IntKind.i64 x, Value.int IntKind.i64 x_1, Value.bool x_2, Value.slice a n c, Value.string x_3] ∧ Q (Value.agg (Array.mk [Value.int IntKind.i64 x, Value.int IntKind.i64 x_1, Value.bool x_2, Value.slice a n c, Value.string x_3, Value.string (ByteArray.mk (Array.mk [])), Value.int IntKind.i64 (Int.ofNat (0 : Nat))])) h'_3) ∧ ∀ (v : Value) (h_1 : AHeap), (h_1 = h ∧ v = Value.agg (Array.mk [Value.int IntKind.i64 id, Value.int IntKind.i64 number, Value.bool false, Value.slice none (0 : Nat) (0 : Nat), Value.string rt, Value.string (ByteArray.mk (Array.mk [])), Value.int IntKind.i64 (Int.ofNat (0 : Nat))]) ∧ ∃ (x : Sh.T heardSh), x ∈ hs ∧ Prod.snd x = rt) → Q v h_1)) ∧ ∀ (v : Value) (h : AHeap), False → Q v h))))))) = _) ?_
  refine ⟨_, _, specClientRight h id number asked a c hs told h1 (by omega) ok.2.2.2.2, ?_⟩
  have B : ∀ (k : Int), ∃ x x_1 x_2 a n c x_3 x_4 x_5 h', ACall Try.prog 83 [.int .i64 k] h (.agg #[.int .i64 x, .int .i64 x_1, .bool x_2, .slice a n c, .string x_3, .string x_4, .int .i64 x_5]) h' ∧ (M = outX (0, 0, false, ⟨#[]⟩, k) → Q (.agg #[.int .i64 x, .int .i64 x_1, .bool x_2, .slice a n c, .string x_3, .string x_4, .int .i64 x_5]) h') := fun k => ⟨_, _, _, _, _, _, _, _, _, _, l15Ill_spec _ _, fun e => bad k h e (.refl _) hw⟩
  have G : ∀ (k : Int), M = outX (0, 0, false, ⟨#[]⟩, k) → ∃ x x_1 x_2 a n c x_3 x_4 x_5 h', ACall Try.prog 83 [.int .i64 k] h (.agg #[.int .i64 x, .int .i64 x_1, .bool x_2, .slice a n c, .string x_3, .string x_4, .int .i64 x_5]) h' ∧ Q (.agg #[.int .i64 x, .int .i64 x_1, .bool x_2, .slice a n c, .string x_3, .string x_4, .int .i64 x_5]) h' := fun k e => ⟨_, _, _, _, _, _, _, _, _, _, l15Ill_spec _ _, bad k h e (.refl _) hw⟩
  refine bs_nb (fun e => G 1 (by rw [hM, if_pos (fun H => of_trn e H.1)])) (fun e1 => ⟨_, _, l09Who_spec _ _, bs_nb (fun e => G 1 (by rw [hM, if_pos (fun H => inF e H.2.1)])) (fun e2 => bs_d (fun e => G 1 (by rw [hM, if_pos (fun H => by have := H.2.2; omega)])) (fun e3 => ?_))⟩)
  rw [if_neg (fun H => H ⟨of_tr e1, inT e2, by omega⟩)] at hM
  refine bs_of (fun e => G 10 (by rw [hM, if_pos (.inl (by simpa using e))])) (fun e4 => bs_dn (fun e => G 10 (by rw [hM, if_pos (.inr (.inl e))])) (fun e5 => bs_dn (fun e => G 10 (by rw [hM, if_pos (.inr (.inr e))])) (fun e6 => ?_)))
  have e4' : asked = true := by simpa using e4
  rw [if_neg (fun H => H.elim (fun h => by rw [e4'] at h; cases h) (fun h => h.elim (fun h => h e5) (fun h => h e6)))] at hM
  have sp : ∀ x : Addr, a = some x → x.spot = some 2 := fun x hx => by
    rcases h1.row.1 with ⟨rfl, _, _⟩ | ⟨l, r, rfl⟩
    · cases hx
    · cases hx; rfl
  refine ⟨(0 : Nat), rfl, rfl, rfl, rfl, rfl, rfl, rfl, rfl, rfl, ⟨Nat.zero_le _, fun j x hj => absurd hj (Nat.not_lt_zero _)⟩, fun j ⟨hj, hkj⟩ => bs_d (fun hlt => ?_) (fun hge => ?_), fun _ _ h => h.elim⟩
  · obtain ⟨⟨g, t⟩, hat⟩ : ∃ y : Int × ByteArray, hs[j]? = some y := ⟨_, List.getElem?_eq_getElem (by omega)⟩
    obtain ⟨l, r, row, ha, _, hrd, hld⟩ := h1.elem hat
    obtain rfl := rd_heard.1 hrd
    dsimp only at hld
    refine ⟨l, r, ha, Int.natCast_nonneg _, hlt, _, ld_cells (k := 0) (m := 1) hld (by simp), bs_d (fun e => G 7 (by rw [hM, if_pos ⟨(g, t), by rw [hkj]; exact hat, e⟩])) (fun e => ?_)⟩
    rw [if_neg (fun ⟨x, hx, hx2⟩ => by rw [hkj, hat] at hx; cases hx; exact e hx2)] at hM
    refine ⟨(j, 0), rfl, rfl, rfl, rfl, rfl, rfl, rfl, rfl, rfl, rfl, ⟨hj, hkj, Nat.zero_le _, fun j x hj => absurd hj (Nat.not_lt_zero _)⟩, fun j' ⟨ej, hno⟩ => ?_, fun _ _ ⟨e, e2, x, hx, hx2⟩ => ?_⟩
    · subst ej
      rw [if_neg (fun ⟨x, hx, hx2⟩ => hno x hx hx2)] at hM
      dsimp only
      simp only [Int.toNat_natCast, show Int.toNat 0 = 0 from rfl, Nat.sub_zero]
      refine ⟨by omega, by omega, .inl (by omega), sp, ?_⟩
      have s0 := h1.sub (i := 0) (m := j) (by omega)
      obtain ⟨rows1, e1, e2, e3, l1, c1, g1, e4, B1⟩ := app_clone (s := heardSh) rfl hw s0
      refine ⟨rows1, e1, e2, by rw [e3]; omega, _, _, _, g1, e4, ?_⟩
      obtain ⟨l2, g2, ids2, e5, B2, _, _, _⟩ := (B1.grow (.push B1.wf ⟨[[.int .i64 f, .string rt]], 2, true⟩) (B1.wf.push _)).app (x := (f, rt)) (cs := [.int .i64 f, .string rt]) (js := []) ⟨[.int .i64 f], [.string rt], [], [], rfl, rfl, ⟨rfl, rfl⟩, ⟨rfl, rfl⟩⟩ .nil (by simp)
      refine ⟨[[.int .i64 f, .string rt]], ?_, rfl, by simp only [List.length_cons, List.length_nil]; omega, _, _, _, g2, e5, by omega, by omega, .inl (Int.le_refl _), sp, ?_⟩
      · show (g1.push ⟨[[.int .i64 f, .string rt]], 2, true⟩).rowsOf (.slice (some ⟨g1.n, 0, some 2⟩) 1 2) = some [[.int .i64 f, .string rt]]
        rw [get_rows AHeap.get_push_eq (by simp)]; rfl
      obtain ⟨rows3, e6, e7, e8, a3, c3, g3, ids3, e9, B3, hn3, keep3, hid3⟩ := (B2.grow (.push B2.wf ⟨[[.int .i64 (Int.ofNat 0), .int .i64 (Int.ofNat 0), .bool false, .slice none 0 0, .string ⟨#[]⟩]], 5, true⟩) (B2.wf.push _)).appR rfl (h1.sub (i := j) (m := hs.length - j) (by omega))
      have q0 : (g2.push ⟨[[.int .i64 (Int.ofNat 0), .int .i64 (Int.ofNat 0), .bool false, .slice none 0 0, .string ⟨#[]⟩]], 5, true⟩).get g2.n = some ⟨[[.int .i64 (Int.ofNat 0), .int .i64 (Int.ofNat 0), .bool false, .slice none 0 0, .string ⟨#[]⟩]], 5, true⟩ := AHeap.get_push_eq
      have q3 := keep3 _ _ (fun hm => by have := (B2.fr.bd _ hm).2; omega) q0
      have wr3 : g3.wr g2.n 0 0 [.int .i64 id, .int .i64 number, .bool true, .slice a3 (j + 1 + (hs.length - j)) c3, .string ⟨#[]⟩] = some (g3.put g2.n (some ⟨[[.int .i64 id, .int .i64 number, .bool true, .slice a3 (j + 1 + (hs.length - j)) c3, .string ⟨#[]⟩]], 5, true⟩)) := by
        unfold AHeap.wr; rw [q3]; rfl
      refine ⟨rows3, e6, e7, by rw [e8]; omega, _, _, _, g3, e9, trivial, trivial, ⟨q3.trans q0.symm, hn3⟩, _, wr3, _, _, _, _, _, _, _, by unfold AHeap.ld; rw [AHeap.get_put_eq]; rfl, ?_⟩
      have lt3 := B3.wf.lt q3
      have hh : h.n ≤ g2.n := B2.le.n
      refine HQ _ _ ⟨B3.le.put (hw _ hh) _, B3.wf.put lt3 _, _, ids3, by rw [hM]; rfl, ?_, B3.fr⟩
      rw [hM]
      have e10 : ins hs (kOf hs f) (f, rt) = ((hs.drop 0).take j ++ [(f, rt)]) ++ (hs.drop j).take (hs.length - j) := by
        rw [hkj, List.drop_zero, List.take_of_length_le (l := hs.drop j) (by rw [List.length_drop]; omega), List.append_assoc]; rfl
      show So _ heardSh (ins hs (kOf hs f) (f, rt)) _ _
      rw [e10]
      exact (B3.sn.keep (fun z hz o ho => by
        rw [AHeap.get_put_ne (fun e => ?_)]; exact ho
        subst e
        rcases hid3 _ hz with h1 | h1
        · have := (B2.fr.bd _ h1).2; omega
        · have h2 : g2.n = g2.n + 1 := h1
          omega)).so
    · rw [if_pos ⟨x, hx, hx2⟩] at hM
      rw [e, e2]
      exact HQ _ _ ⟨.refl _, hw, _, [], by rw [hM]; rfl, by rw [hM]; exact Sn.nil.so, .nil⟩
  · rw [if_neg (fun ⟨x, hx, hx2⟩ => by rw [hkj] at hx; have := (List.getElem?_eq_some_iff.1 hx).1; omega)] at hM
    refine ⟨(j, 0), rfl, rfl, rfl, rfl, rfl, rfl, rfl, rfl, rfl, rfl, ⟨hj, hkj, Nat.zero_le _, fun j x hj => absurd hj (Nat.not_lt_zero _)⟩, fun j' ⟨ej, hno⟩ => ?_, fun _ _ ⟨e, e2, x, hx, hx2⟩ => ?_⟩
    · subst ej
      rw [if_neg (fun ⟨x, hx, hx2⟩ => hno x hx hx2)] at hM
      dsimp only
      simp only [Int.toNat_natCast, show Int.toNat 0 = 0 from rfl, Nat.sub_zero]
      refine ⟨by omega, by omega, .inl (by omega), sp, ?_⟩
      have s0 := h1.sub (i := 0) (m := j) (by omega)
      obtain ⟨rows1, e1, e2, e3, l1, c1, g1, e4, B1⟩ := app_clone (s := heardSh) rfl hw s0
      refine ⟨rows1, e1, e2, by rw [e3]; omega, _, _, _, g1, e4, ?_⟩
      obtain ⟨l2, g2, ids2, e5, B2, _, _, _⟩ := (B1.grow (.push B1.wf ⟨[[.int .i64 f, .string rt]], 2, true⟩) (B1.wf.push _)).app (x := (f, rt)) (cs := [.int .i64 f, .string rt]) (js := []) ⟨[.int .i64 f], [.string rt], [], [], rfl, rfl, ⟨rfl, rfl⟩, ⟨rfl, rfl⟩⟩ .nil (by simp)
      refine ⟨[[.int .i64 f, .string rt]], ?_, rfl, by simp only [List.length_cons, List.length_nil]; omega, _, _, _, g2, e5, by omega, by omega, .inl (Int.le_refl _), sp, ?_⟩
      · show (g1.push ⟨[[.int .i64 f, .string rt]], 2, true⟩).rowsOf (.slice (some ⟨g1.n, 0, some 2⟩) 1 2) = some [[.int .i64 f, .string rt]]
        rw [get_rows AHeap.get_push_eq (by simp)]; rfl
      obtain ⟨rows3, e6, e7, e8, a3, c3, g3, ids3, e9, B3, hn3, keep3, hid3⟩ := (B2.grow (.push B2.wf ⟨[[.int .i64 (Int.ofNat 0), .int .i64 (Int.ofNat 0), .bool false, .slice none 0 0, .string ⟨#[]⟩]], 5, true⟩) (B2.wf.push _)).appR rfl (h1.sub (i := j) (m := hs.length - j) (by omega))
      have q0 : (g2.push ⟨[[.int .i64 (Int.ofNat 0), .int .i64 (Int.ofNat 0), .bool false, .slice none 0 0, .string ⟨#[]⟩]], 5, true⟩).get g2.n = some ⟨[[.int .i64 (Int.ofNat 0), .int .i64 (Int.ofNat 0), .bool false, .slice none 0 0, .string ⟨#[]⟩]], 5, true⟩ := AHeap.get_push_eq
      have q3 := keep3 _ _ (fun hm => by have := (B2.fr.bd _ hm).2; omega) q0
      have wr3 : g3.wr g2.n 0 0 [.int .i64 id, .int .i64 number, .bool true, .slice a3 (j + 1 + (hs.length - j)) c3, .string ⟨#[]⟩] = some (g3.put g2.n (some ⟨[[.int .i64 id, .int .i64 number, .bool true, .slice a3 (j + 1 + (hs.length - j)) c3, .string ⟨#[]⟩]], 5, true⟩)) := by
        unfold AHeap.wr; rw [q3]; rfl
      refine ⟨rows3, e6, e7, by rw [e8]; omega, _, _, _, g3, e9, trivial, trivial, ⟨q3.trans q0.symm, hn3⟩, _, wr3, _, _, _, _, _, _, _, by unfold AHeap.ld; rw [AHeap.get_put_eq]; rfl, ?_⟩
      have lt3 := B3.wf.lt q3
      have hh : h.n ≤ g2.n := B2.le.n
      refine HQ _ _ ⟨B3.le.put (hw _ hh) _, B3.wf.put lt3 _, _, ids3, by rw [hM]; rfl, ?_, B3.fr⟩
      rw [hM]
      have e10 : ins hs (kOf hs f) (f, rt) = ((hs.drop 0).take j ++ [(f, rt)]) ++ (hs.drop j).take (hs.length - j) := by
        rw [hkj, List.drop_zero, List.take_of_length_le (l := hs.drop j) (by rw [List.length_drop]; omega), List.append_assoc]; rfl
      show So _ heardSh (ins hs (kOf hs f) (f, rt)) _ _
      rw [e10]
      exact (B3.sn.keep (fun z hz o ho => by
        rw [AHeap.get_put_ne (fun e => ?_)]; exact ho
        subst e
        rcases hid3 _ hz with h1 | h1
        · have := (B2.fr.bd _ h1).2; omega
        · have h2 : g2.n = g2.n + 1 := h1
          omega)).so
    · rw [if_pos ⟨x, hx, hx2⟩] at hM
      rw [e, e2]
      exact HQ _ _ ⟨.refl _, hw, _, [], by rw [hM]; rfl, by rw [hM]; exact Sn.nil.so, .nil⟩
end Go.Proofs.Ytanienlcebkijaa
