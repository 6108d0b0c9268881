/- Contracts: marking rows of strings, and looking whether the marks are held. -/
import Derived.Test.YtdcijleeoihlfaaC1
namespace Go.Dat
open Go.Abs
def markRows (rows : List (List Value)) (r : Nat) (k : Int) : Nat → List (List Value)
  | 0 => rows
  | n + 1 => (markRows rows r k n).set (r + n) [.string (mtext (k + n))]
theorem markRows_len {rows : List (List Value)} {r : Nat} {k : Int} : ∀ n, (markRows rows r k n).length = rows.length
  | 0 => rfl
  | n + 1 => by rw [markRows, List.length_set, markRows_len n]
end Go.Dat
namespace Go.Proofs.Ytdcijleeoihlfaa
open Go.Abs Go.Dat
set_option maxRecDepth 100000

/-- All but one object are as they were. -/
structure But (l : Nat) (h h' : AHeap) : Prop where
  n : h.n ≤ h'.n
  get : ∀ x o, x ≠ l → h.get x = some o → h'.get x = some o

def mkL (l r n c : Nat) (k : Int) (h : AHeap) (rows : List (List Value)) : LSpec where
  ι := Nat × AHeap
  κ := AHeap
  I := fun i => i.1 ≤ n ∧ i.2.wf ∧ But l h i.2 ∧ i.2.get l = some ⟨markRows rows r k i.1, 1, true⟩
  μ := fun i => n - i.1
  head := fun i => ⟨[(0, .slice (some ⟨l, r, some 1⟩) n c), (1, .int .i64 (k + i.1)), (5, .int .i64 i.1)], [], i.2⟩
  post := fun j => ⟨[(1, .int .i64 (k + n))], [], j⟩
  R := fun _ j => j.wf ∧ But l h j ∧ j.get l = some ⟨markRows rows r k n, 1, true⟩
  ret := fun _ _ _ => False

theorem mk_spec (l r n c : Nat) (k : Int) (h : AHeap) (rows : List (List Value)) (hw : h.wf) (hl : h.get l = some ⟨rows, 1, true⟩) (hr : r + n ≤ rows.length) (hrow : ∀ row ∈ rows, row.length = 1) (hk : -1000000000000 ≤ k ∧ k ≤ 1000000000000) (hn : n ≤ 1000000000000) :
    ∃ v h', ACall Try.prog 179 [.slice (some ⟨l, r, some 1⟩) n c, .int .i64 k] h v h' ∧ v = .int .i64 (k + n) ∧ h'.wf ∧ But l h h' ∧ h'.get l = some ⟨markRows rows r k n, 1, true⟩ := by
  refine acall_by (fun _ => true) (fun _ => []) (fun _ => mkL l r n c k h rows) mixed Try.func179 rfl rfl rfl (Nat.le_of_ble_eq_true rfl) ?_ ?_
  · refine Eq.mp (by kernel_rfl : (True ∧ (True ∧ (∀ (i : Nat × AHeap), Prod.fst i ≤ n ∧ AHeap.wf (Prod.snd i) ∧ But l h (Prod.snd i) ∧ AHeap.get (Prod.snd i) l = some (AObj.mk (markRows rows r k (Prod.fst i)) (1 : Nat) true) → bs (decide ((↑(Prod.fst i) : Int) < (↑n : Int))) (∃ (x : ByteArray), ∃ (h' : AHeap), ACall Try.prog (170 : Nat) [Value.int IntKind.i64 (k + (↑(Prod.fst i) : Int))] (Prod.snd i) (Value.string x) h' ∧ ∃ (l_1 : Nat), ∃ (r_1 : Nat), some (Addr.mk l r (some (1 : Nat))) = some (Addr.mk l_1 r_1 (some (1 : Nat))) ∧ (0 : Int) ≤ (↑(Prod.fst i) : Int) ∧ (↑(Prod.fst i) : Int) < (↑n : Int) ∧ ∃ (h'_1 : AHeap), AHeap.wr h' l_1 (r_1 + Int.toNat (↑(Prod.fst i) : Int)) (0 : Nat) [Value.string x] = some h'_1 ∧ ∃ (j : Nat × AHeap), Value.slice (some (Addr.mk l r (some (1 : Nat)))) n c = Value.slice (some (Addr.mk l r (some (1 : Nat)))) n c ∧ Value.int IntKind.i64 (IntKind.wrap IntKind.i64 (k + (↑(Prod.fst i) : Int) + (1 : Int))) = Value.int IntKind.i64 (k + (↑(Prod.fst j) : Int)) ∧ Value.int IntKind.i64 (IntKind.wrap IntKind.i64 ((↑(Prod.fst i) : Int) + (1 : Int))) = Value.int IntKind.i64 (↑(Prod.fst j) : Int) ∧ Prod.snd j = h'_1 ∧ (Prod.fst j ≤ n ∧ AHeap.wf (Prod.snd j) ∧ But l h (Prod.snd j) ∧ AHeap.get (Prod.snd j) l = some (AObj.mk (markRows rows r k (Prod.fst j)) (1 : Nat) true)) ∧ n - Prod.fst j < n - Prod.fst i ∧ (∀ (k_1 : AHeap), AHeap.wf k_1 ∧ But l h k_1 ∧ AHeap.get k_1 l = some (AObj.mk (markRows rows r k n) (1 : Nat) true) → AHeap.wf k_1 ∧ But l h k_1 ∧ AHeap.get k_1 l = some (AObj.mk (markRows rows r k n) (1 : Nat) true)) ∧ ∀ (v : Value) (h : AHeap), False → False) (∃ (j : AHeap), Value.int IntKind.i64 (k + (↑(Prod.fst i) : Int)) = Value.int IntKind.i64 (k + (↑n : Int)) ∧ j = Prod.snd i ∧ AHeap.wf j ∧ But l h j ∧ AHeap.get j l = some (AObj.mk (markRows rows r k n) (1 : Nat) true))) ∧ (True ∧ True ∧ True) ∧ (True ∧ True) ∧ True) ∧ True ∧ True) = _) ?_
    simp only [true_and, and_true]
    rintro ⟨i, h1⟩ ⟨hi, hw1, hb, hg⟩
    dsimp only at *
    refine bs_dec (fun hlt => ?_) (fun hge => ?_)
    · obtain ⟨v, h2, hA, hle, hw2, rfl⟩ := mt_spec (k + i) h1 hw1 (by omega)
      have hg2 := hle.get l _ hg
      have hlen : (markRows rows r k i).length = rows.length := markRows_len i
      obtain ⟨row, hrow2⟩ : ∃ row, (markRows rows r k i)[r + i]? = some row := ⟨_, List.getElem?_eq_getElem (by omega)⟩
      have hl1 : row.length = 1 := by
        have key : ∀ m, ∀ row ∈ markRows rows r k m, row.length = 1 := by
          intro m
          induction m with
          | zero => exact hrow
          | succ m ih =>
            intro row hm
            rcases List.mem_or_eq_of_mem_set hm with hm | rfl
            · exact ih row hm
            · rfl
        exact key i row (List.mem_of_getElem? hrow2)
      refine ⟨mtext (k + i), h2, hA, l, r, rfl, Int.natCast_nonneg _, hlt, h2.put l (some ⟨markRows rows r k (i + 1), 1, true⟩), ?_, (i + 1, h2.put l (some ⟨markRows rows r k (i + 1), 1, true⟩)), ?_, ?_, rfl, ⟨by dsimp only; omega, hw2.put (hw2.lt hg2) _, ⟨?_, ?_⟩, AHeap.get_put_eq⟩, by dsimp only; omega, fun _ h => h, fun _ _ h => h⟩
      · unfold AHeap.wr
        rw [hg2]
        dsimp only
        have e : r + (i : Int).toNat = r + i := rfl
        rw [e, hrow2]
        have e2 : setRange row 0 [Value.string (mtext (k + i))] = [Value.string (mtext (k + i))] := by
          match row, hl1 with
          | [x], _ => rfl
        simp only [hl1, List.length_cons, List.length_nil, Nat.zero_add, Nat.le_refl, decide_true, Bool.and_true, cond_true, e2]
        rfl
      · rw [wrap_i64 (by omega)]; dsimp only; congr 1; omega
      · rw [wrap_i64 (by omega)]; rfl
      · exact Nat.le_trans hb.n hle.n
      · intro x o hx ho
        show (h2.put l _).get x = some o
        rw [AHeap.get_put_ne hx]; exact hle.get x o (hb.get x o hx ho)
    · have e : i = n := by omega
      subst e
      exact ⟨h1, rfl, rfl, hw1, hb, hg⟩
  · refine Eq.mp (by kernel_rfl : (∃ (i : Nat × AHeap), Value.slice (some (Addr.mk l r (some (1 : Nat)))) n c = Value.slice (some (Addr.mk l r (some (1 : Nat)))) n c ∧ Value.int IntKind.i64 k = Value.int IntKind.i64 (k + (↑(Prod.fst i) : Int)) ∧ Value.int IntKind.i64 (0 : Int) = Value.int IntKind.i64 (↑(Prod.fst i) : Int) ∧ Prod.snd i = h ∧ (Prod.fst i ≤ n ∧ AHeap.wf (Prod.snd i) ∧ But l h (Prod.snd i) ∧ AHeap.get (Prod.snd i) l = some (AObj.mk (markRows rows r k (Prod.fst i)) (1 : Nat) true)) ∧ (∀ (j : AHeap), AHeap.wf j ∧ But l h j ∧ AHeap.get j l = some (AObj.mk (markRows rows r k n) (1 : Nat) true) → Value.int IntKind.i64 (k + (↑n : Int)) = Value.int IntKind.i64 (k + (↑n : Int)) ∧ AHeap.wf j ∧ But l h j ∧ AHeap.get j l = some (AObj.mk (markRows rows r k n) (1 : Nat) true)) ∧ ∀ (v : Value) (h_1 : AHeap), False → v = Value.int IntKind.i64 (k + (↑n : Int)) ∧ AHeap.wf h_1 ∧ But l h h_1 ∧ AHeap.get h_1 l = some (AObj.mk (markRows rows r k n) (1 : Nat) true)) = _) ?_
    refine ⟨(0, h), rfl, ?_, rfl, rfl, ⟨Nat.zero_le _, hw, ⟨Nat.le_refl _, fun _ _ _ e => e⟩, hl⟩, fun j hj => ⟨rfl, hj⟩, fun _ _ h => h.elim⟩
    show _ = Value.int .i64 (k + ((0 : Nat) : Int))
    simp

/-- The marks stand. -/
def heldL (l r n c : Nat) (k : Int) (h : AHeap) : LSpec where
  ι := Nat × AHeap
  κ := AHeap
  I := fun i => i.1 ≤ n ∧ i.2.wf ∧ h.Le i.2
  μ := fun i => n - i.1
  head := fun i => ⟨[(0, .slice (some ⟨l, r, some 1⟩) n c), (1, .int .i64 (k + i.1)), (5, .int .i64 i.1)], [], i.2⟩
  post := fun j => ⟨[(1, .int .i64 (k + n))], [], j⟩
  R := fun _ j => j.wf ∧ h.Le j
  ret := fun _ _ _ => False

theorem held_spec (l r n c : Nat) (k : Int) (h : AHeap) (hw : h.wf) (hr : h.rowsOf (.slice (some ⟨l, r, some 1⟩) n c) = some ((List.range n).map fun i => [.string (mtext (k + i))])) (hk : -1000000000000 ≤ k ∧ k ≤ 1000000000000) (hn : n ≤ 1000000000000) :
    PCall Try.prog 181 [.slice (some ⟨l, r, some 1⟩) n c, .int .i64 k] h fun v _ => v = .int .i64 (k + n) := by
  refine acall_by (fun _ => true) (fun _ => [(0, 0, []), (1, 0, []), (2, 0, []), (4, 0, []), (3, 1, []), (5, 3, [3]), (6, 0, [])]) (fun _ => heldL l r n c k h) mixed Try.func181 rfl rfl rfl (Nat.le_of_ble_eq_true rfl) ?_ ?_
  · refine Eq.mp (by kernel_rfl : (True ∧ (True ∧ (∀ (i : Nat × AHeap), Prod.fst i ≤ n ∧ AHeap.wf (Prod.snd i) ∧ AHeap.Le h (Prod.snd i) → bs (decide ((↑(Prod.fst i) : Int) < (↑n : Int))) (∃ (l_1 : Nat), ∃ (r_1 : Nat), some (Addr.mk l r (some (1 : Nat))) = some (Addr.mk l_1 r_1 (some (1 : Nat))) ∧ (0 : Int) ≤ (↑(Prod.fst i) : Int) ∧ (↑(Prod.fst i) : Int) < (↑n : Int) ∧ ∃ (x : ByteArray), AHeap.ld (Prod.snd i) l_1 (r_1 + Int.toNat (↑(Prod.fst i) : Int)) (0 : Nat) (1 : Nat) = some [Value.string x] ∧ ∃ (x_1 : ByteArray), ∃ (h' : AHeap), ACall Try.prog (170 : Nat) [Value.int IntKind.i64 (k + (↑(Prod.fst i) : Int))] (Prod.snd i) (Value.string x_1) h' ∧ (∃ (x_2 : ByteArray), AHeap.ld h' l_1 (r_1 + Int.toNat (↑(Prod.fst i) : Int)) (0 : Nat) (1 : Nat) = some [Value.string x_2] ∧ Value.string x_2 = Value.string x) ∧ bs (!decide (x = x_1)) False (∃ (j : Nat × AHeap), Value.slice (some (Addr.mk l r (some (1 : Nat)))) n c = Value.slice (some (Addr.mk l r (some (1 : Nat)))) n c ∧ Value.int IntKind.i64 (IntKind.wrap IntKind.i64 (k + (↑(Prod.fst i) : Int) + (1 : Int))) = Value.int IntKind.i64 (k + (↑(Prod.fst j) : Int)) ∧ Value.int IntKind.i64 (IntKind.wrap IntKind.i64 ((↑(Prod.fst i) : Int) + (1 : Int))) = Value.int IntKind.i64 (↑(Prod.fst j) : Int) ∧ Prod.snd j = h' ∧ (Prod.fst j ≤ n ∧ AHeap.wf (Prod.snd j) ∧ AHeap.Le h (Prod.snd j)) ∧ n - Prod.fst j < n - Prod.fst i ∧ (∀ (k : AHeap), AHeap.wf k ∧ AHeap.Le h k → AHeap.wf k ∧ AHeap.Le h k) ∧ ∀ (v : Value) (h : AHeap), False → False)) (∃ (j : AHeap), Value.int IntKind.i64 (k + (↑(Prod.fst i) : Int)) = Value.int IntKind.i64 (k + (↑n : Int)) ∧ j = Prod.snd i ∧ AHeap.wf j ∧ AHeap.Le h j)) ∧ (True ∧ True ∧ True) ∧ ((True ∧ (True ∧ True) ∧ True) ∧ True) ∧ True) ∧ True ∧ True) = _) ?_
    simp only [true_and, and_true]
    rintro ⟨i, h1⟩ ⟨hi, hw1, hle⟩
    dsimp only at *
    refine bs_dec (fun hlt => ?_) (fun hge => ?_)
    · have hx : ((List.range n).map fun i : Nat => [Value.string (mtext (k + i))])[i]? = some [.string (mtext (k + i))] := by
        rw [List.getElem?_map, List.getElem?_range (by omega)]; rfl
      obtain ⟨v, h2, hA, hle2, hw2, rfl⟩ := mt_spec (k + i) h1 hw1 (by omega)
      have e1 : h1.ld l (r + i) 0 1 = some [.string (mtext (k + i))] := rows_ld (hle.rowsOf hr) hx rfl
      refine ⟨l, r, rfl, Int.natCast_nonneg _, hlt, mtext (k + i), e1, mtext (k + i), h2, hA, ⟨_, hle2.ld e1, rfl⟩, bs_dec_not (fun hne => absurd rfl hne) fun _ => ⟨(i + 1, h2), ?_, ?_, rfl, ⟨by dsimp only; omega, hw2, hle.trans hle2⟩, by dsimp only; omega, fun _ h => h, fun _ _ h => h⟩⟩
      · rw [wrap_i64 (by omega)]; dsimp only; congr 1; omega
      · rw [wrap_i64 (by omega)]; rfl
    · have e : i = n := by omega
      subst e
      exact ⟨h1, rfl, rfl, hw1, hle⟩
  · refine Eq.mp (by kernel_rfl : (∃ (i : Nat × AHeap), Value.slice (some (Addr.mk l r (some (1 : Nat)))) n c = Value.slice (some (Addr.mk l r (some (1 : Nat)))) n c ∧ Value.int IntKind.i64 k = Value.int IntKind.i64 (k + (↑(Prod.fst i) : Int)) ∧ Value.int IntKind.i64 (0 : Int) = Value.int IntKind.i64 (↑(Prod.fst i) : Int) ∧ Prod.snd i = h ∧ (Prod.fst i ≤ n ∧ AHeap.wf (Prod.snd i) ∧ AHeap.Le h (Prod.snd i)) ∧ (∀ (j : AHeap), AHeap.wf j ∧ AHeap.Le h j → AHeap.Le h j ∧ AHeap.wf j ∧ Value.int IntKind.i64 (k + (↑n : Int)) = Value.int IntKind.i64 (k + (↑n : Int))) ∧ ∀ (v : Value) (h_1 : AHeap), False → AHeap.Le h h_1 ∧ AHeap.wf h_1 ∧ v = Value.int IntKind.i64 (k + (↑n : Int))) = _) ?_
    refine ⟨(0, h), rfl, ?_, rfl, rfl, ⟨Nat.zero_le _, hw, .refl _⟩, fun j hj => ⟨hj.2, hj.1, rfl⟩, fun _ _ h => h.elim⟩
    show _ = Value.int .i64 (k + ((0 : Nat) : Int))
    simp
end Go.Proofs.Ytdcijleeoihlfaa
