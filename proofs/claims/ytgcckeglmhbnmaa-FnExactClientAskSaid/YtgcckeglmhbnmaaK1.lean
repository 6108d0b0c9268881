/- Contracts: marks in rows of replies heard. -/
import Derived.Test.YtgcckeglmhbnmaaH5
import Derived.Test.YtgcckeglmhbnmaaC2
import Derived.Test.YtgcckeglmhbnmaaG2
namespace Go.Dat
open Go.Abs
def mrow (k : Int) : List Value := [.int .i64 k, .string (mtext (k + 1))]
def markH (rows : List (List Value)) (r : Nat) (k : Int) : Nat → List (List Value)
  | 0 => rows
  | m + 1 => (markH rows r k m).set (r + m) (mrow (k + 2 * m))
theorem markH_len {rows : List (List Value)} {r : Nat} {k : Int} : ∀ m, (markH rows r k m).length = rows.length
  | 0 => rfl
  | m + 1 => by rw [markH, List.length_set, markH_len m]
theorem markH_get {rows : List (List Value)} {r : Nat} {k : Int} {j : Nat} : ∀ m, m ≤ j → (markH rows r k m)[r + j]? = rows[r + j]?
  | 0, _ => rfl
  | m + 1, h => by rw [markH, List.getElem?_set, if_neg (by omega), markH_get m (by omega)]
end Go.Dat
namespace Go.Proofs.Ytgcckeglmhbnmaa
open Go.Abs Go.Dat
set_option maxRecDepth 100000
set_option maxHeartbeats 8000000

def mhL (l r n c : Nat) (k : Int) (h : AHeap) (rows : List (List Value)) : LSpec where
  ι := Nat × AHeap
  κ := AHeap
  I := fun i => i.1 ≤ n ∧ i.2.wf ∧ But l h i.2 ∧ i.2.get l = some ⟨markH rows r k i.1, 2, true⟩
  μ := fun i => n - i.1
  head := fun i => ⟨[(0, .slice (some ⟨l, r, some 2⟩) n c), (1, .int .i64 (k + 2 * i.1)), (5, .int .i64 i.1)], [], i.2⟩
  post := fun j => ⟨[(1, .int .i64 (k + 2 * n))], [], j⟩
  R := fun _ j => j.wf ∧ But l h j ∧ j.get l = some ⟨markH rows r k n, 2, true⟩
  ret := fun _ _ _ => False

theorem markHeardS_spec (l r n c : Nat) (k : Int) (h : AHeap) (rows : List (List Value)) (hw : h.wf) (hl : h.get l = some ⟨rows, 2, true⟩) (hr : r + n ≤ rows.length) (hrow : ∀ i, i < n → ∀ row, rows[r + i]? = some row → row.length = 2) (hk : -1000000000000 ≤ k ∧ k ≤ 1000000000000) (hn : n ≤ 1000000000000) :
    ∃ v h', ACall Try.prog 70 [.slice (some ⟨l, r, some 2⟩) n c, .int .i64 k] h v h' ∧ v = .int .i64 (k + 2 * n) ∧ h'.wf ∧ But l h h' ∧ h'.get l = some ⟨markH rows r k n, 2, true⟩ := by
  refine acall_q fun Q HQ => ?_
  refine acall_vc (fun _ => false) (fun _ => []) (fun _ => mhL l r n c k h rows) mixed Try.func70 rfl rfl rfl (Nat.le_of_ble_eq_true rfl) ?_ ?_
  · refine vc_mp (by kernel_rfl : (True ∧ (True ∧ (∀ (i : Nat × AHeap), Prod.fst i ≤ n ∧ AHeap.wf (Prod.snd i) ∧ But l h (Prod.snd i) ∧ AHeap.get (Prod.snd i) l = some (AObj.mk (markH rows r k (Prod.fst i)) (2 : Nat) true) → bs (decide ((↑(Prod.fst i) : Int) < (↑n : Int))) (∃ (l_1 : Nat), ∃ (r_1 : Nat), some (Addr.mk l r (some (2 : Nat))) = some (Addr.mk l_1 r_1 (some (2 : Nat))) ∧ (0 : Int) ≤ (↑(Prod.fst i) : Int) ∧ (↑(Prod.fst i) : Int) < (↑n : Int) ∧ ∃ (h' : AHeap), AHeap.wr (Prod.snd i) l_1 (r_1 + Int.toNat (↑(Prod.fst i) : Int)) (0 : Nat) [Value.int IntKind.i64 (k + (2 : Int) * (↑(Prod.fst i) : Int))] = some h' ∧ ∃ (x : ByteArray), ∃ (h'_1 : AHeap), ACall Try.prog (65 : Nat) [Value.int IntKind.i64 (IntKind.wrap IntKind.i64 (k + (2 : Int) * (↑(Prod.fst i) : Int) + (1 : Int)))] h' (Value.string x) h'_1 ∧ ∃ (l_2 : Nat), ∃ (r_2 : Nat), some (Addr.mk l r (some (2 : Nat))) = some (Addr.mk l_2 r_2 (some (2 : Nat))) ∧ (0 : Int) ≤ (↑(Prod.fst i) : Int) ∧ (↑(Prod.fst i) : Int) < (↑n : Int) ∧ ∃ (h' : AHeap), AHeap.wr h'_1 l_2 (r_2 + Int.toNat (↑(Prod.fst i) : Int)) (1 : Nat) [Value.string x] = some h' ∧ ∃ (j : Nat × AHeap), Value.slice (some (Addr.mk l r (some (2 : Nat)))) n c = Value.slice (some (Addr.mk l r (some (2 : Nat)))) n c ∧ Value.int IntKind.i64 (IntKind.wrap IntKind.i64 (IntKind.wrap IntKind.i64 (k + (2 : Int) * (↑(Prod.fst i) : Int) + (1 : Int)) + (1 : Int))) = Value.int IntKind.i64 (k + (2 : Int) * (↑(Prod.fst j) : Int)) ∧ Value.int IntKind.i64 (IntKind.wrap IntKind.i64 ((↑(Prod.fst i) : Int) + (1 : Int))) = Value.int IntKind.i64 (↑(Prod.fst j) : Int) ∧ Prod.snd j = h' ∧ (Prod.fst j ≤ n ∧ AHeap.wf (Prod.snd j) ∧ But l h (Prod.snd j) ∧ AHeap.get (Prod.snd j) l = some (AObj.mk (markH rows r k (Prod.fst j)) (2 : Nat) true)) ∧ n - Prod.fst j < n - Prod.fst i ∧ (∀ (k_1 : AHeap), AHeap.wf k_1 ∧ But l h k_1 ∧ AHeap.get k_1 l = some (AObj.mk (markH rows r k n) (2 : Nat) true) → AHeap.wf k_1 ∧ But l h k_1 ∧ AHeap.get k_1 l = some (AObj.mk (markH rows r k n) (2 : Nat) true)) ∧ ∀ (v : Value) (h : AHeap), False → False) (∃ (j : AHeap), Value.int IntKind.i64 (k + (2 : Int) * (↑(Prod.fst i) : Int)) = Value.int IntKind.i64 (k + (2 : Int) * (↑n : Int)) ∧ j = Prod.snd i ∧ AHeap.wf j ∧ But l h j ∧ AHeap.get j l = some (AObj.mk (markH rows r k n) (2 : Nat) true))) ∧ (True ∧ True ∧ True) ∧ (True ∧ True ∧ True ∧ True) ∧ True) ∧ True ∧ True) = _) ?_
    simp only [true_and, and_true]
    rintro ⟨i, h1⟩ ⟨hi, hw1, hb, hg⟩
    dsimp only at *
    refine bs_d (fun hlt => ?_) (fun hge => ?_)
    · have hlen : (markH rows r k i).length = rows.length := markH_len i
      obtain ⟨row, hrow2⟩ : ∃ row, (markH rows r k i)[r + i]? = some row := ⟨_, List.getElem?_eq_getElem (by omega)⟩
      have hl1 : row.length = 2 := hrow i (by omega) row (by rw [← hrow2, markH_get i (Nat.le_refl _)])
      obtain ⟨x, y, rfl⟩ : ∃ x y, row = [x, y] := by
        match row, hl1 with
        | [x, y], _ => exact ⟨x, y, rfl⟩
      have ek : IntKind.i64.wrap (k + 2 * (i : Int) + 1) = k + 2 * i + 1 := wrap_i64 (by omega)
      have hll : l < h1.n := hw1.lt hg
      have g1 : (h1.put l (some ⟨(markH rows r k i).set (r + i) [.int .i64 (k + 2 * i), y], 2, true⟩)).get l = some ⟨(markH rows r k i).set (r + i) [.int .i64 (k + 2 * i), y], 2, true⟩ := AHeap.get_put_eq
      obtain ⟨v, h2, hA, hle, hw2, rfl⟩ := mt_spec (k + 2 * i + 1) _ (hw1.put hll (some ⟨(markH rows r k i).set (r + i) [.int .i64 (k + 2 * i), y], 2, true⟩)) (by omega)
      have hg2 := hle.get l _ g1
      rw [ek]
      refine ⟨l, r, rfl, Int.natCast_nonneg _, hlt, h1.put l (some ⟨(markH rows r k i).set (r + i) [.int .i64 (k + 2 * i), y], 2, true⟩), ?_, mtext (k + 2 * i + 1), h2, hA, l, r, rfl, Int.natCast_nonneg _, hlt, h2.put l (some ⟨markH rows r k (i + 1), 2, true⟩), ?_, (i + 1, h2.put l (some ⟨markH rows r k (i + 1), 2, true⟩)), ?_, by rw [wrap_i64 (by omega)]; rfl, rfl, ⟨by dsimp only; omega, hw2.put (hw2.lt hg2) _, ⟨?_, ?_⟩, AHeap.get_put_eq⟩, by dsimp only; omega, fun _ h => h, fun _ _ h => h⟩
      · unfold AHeap.wr
        rw [hg]
        dsimp only
        rw [show r + (i : Int).toNat = r + i from rfl, hrow2]
        rfl
      · unfold AHeap.wr
        rw [hg2]
        dsimp only
        rw [show r + (i : Int).toNat = r + i from rfl, List.getElem?_set, if_pos rfl, if_pos (by omega)]
        dsimp only
        rw [List.set_set]
        rfl
      · rw [wrap_i64 (by omega)]; dsimp only; congr 1; omega
      · exact Nat.le_trans hb.n hle.n
      · intro z o hz ho
        show (h2.put l _).get z = some o
        rw [AHeap.get_put_ne hz]
        refine hle.get z o ?_
        rw [AHeap.get_put_ne hz]
        exact hb.get z o hz ho
    · have e : i = n := by omega
      subst e
      exact ⟨h1, rfl, rfl, hw1, hb, hg⟩
  · refine vc_mp (by kernel_rfl : (∃ (i : Nat × AHeap), Value.slice (some (Addr.mk l r (some (2 : Nat)))) n c = Value.slice (some (Addr.mk l r (some (2 : Nat)))) n c ∧ Value.int IntKind.i64 k = Value.int IntKind.i64 (k + (2 : Int) * (↑(Prod.fst i) : Int)) ∧ Value.int IntKind.i64 (0 : Int) = Value.int IntKind.i64 (↑(Prod.fst i) : Int) ∧ Prod.snd i = h ∧ (Prod.fst i ≤ n ∧ AHeap.wf (Prod.snd i) ∧ But l h (Prod.snd i) ∧ AHeap.get (Prod.snd i) l = some (AObj.mk (markH rows r k (Prod.fst i)) (2 : Nat) true)) ∧ (∀ (j : AHeap), AHeap.wf j ∧ But l h j ∧ AHeap.get j l = some (AObj.mk (markH rows r k n) (2 : Nat) true) → Q (Value.int IntKind.i64 (k + (2 : Int) * (↑n : Int))) j) ∧ ∀ (v : Value) (h : AHeap), False → Q v h) = _) ?_
    refine ⟨(0, h), rfl, ?_, rfl, rfl, ⟨Nat.zero_le _, hw, ⟨Nat.le_refl _, fun _ _ _ e => e⟩, hl⟩, fun j hj => HQ _ _ ⟨rfl, hj⟩, fun _ _ h => h.elim⟩
    show _ = Value.int .i64 (k + 2 * ((0 : Nat) : Int))
    simp

def mh0L (a : Option Addr) (c : Nat) (k : Int) (h : AHeap) : LSpec where
  ι := Unit
  κ := Unit
  I := fun _ => True
  μ := fun _ => 0
  head := fun _ => ⟨[(0, .slice a 0 c), (1, .int .i64 k), (5, .int .i64 0)], [], h⟩
  post := fun _ => ⟨[(1, .int .i64 k)], [], h⟩
  R := fun _ _ => True
  ret := fun _ _ _ => False
theorem markHeardS_none (a : Option Addr) (c : Nat) (k : Int) (h : AHeap) : ACall Try.prog 70 [.slice a 0 c, .int .i64 k] h (.int .i64 k) h := by
  refine acall_out (acall_vc (fun _ => false) (fun _ => []) (fun _ => mh0L a c k h) mixed Try.func70 rfl rfl rfl (Nat.le_of_ble_eq_true rfl) ?_ ?_)
  · refine vc_mp (by kernel_rfl : (True ∧ (True ∧ (∀ (i : Unit), True → ∃ (j : Unit), Value.int IntKind.i64 k = Value.int IntKind.i64 k ∧ h = h ∧ True) ∧ (True ∧ True ∧ True) ∧ (True ∧ True ∧ True ∧ True) ∧ True) ∧ True ∧ True) = _) ?_
    simp only [true_and, and_true]
    exact fun _ _ => ⟨(), trivial⟩
  · refine vc_mp (by kernel_rfl : (∃ (i : Unit), Value.slice a (0 : Nat) c = Value.slice a (0 : Nat) c ∧ Value.int IntKind.i64 k = Value.int IntKind.i64 k ∧ Value.int IntKind.i64 (0 : Int) = Value.int IntKind.i64 (0 : Int) ∧ h = h ∧ True ∧ (∀ (j : Unit), True → Value.int IntKind.i64 k = Value.int IntKind.i64 k ∧ h = h) ∧ ∀ (v : Value) (h_1 : AHeap), False → v = Value.int IntKind.i64 k ∧ h_1 = h) = _) ?_
    exact ⟨(), rfl, rfl, rfl, rfl, trivial, fun _ _ => ⟨rfl, rfl⟩, fun _ _ h => h.elim⟩

/-- What marks leave: all but the row's own object. -/
theorem markHeard_any (h : AHeap) (hw : h.wf) (a : Option Addr) (n c : Nat) (xs : List heardSh.T) (ids : List Nat) (so : So h heardSh xs (.slice a n c) ids) (k : Int) (hk : 0 ≤ k ∧ k ≤ 1000000000000) (hn : n ≤ 1000000000000) :
    ∃ (k' : Int) (h' : AHeap), ACall Try.prog 70 [.slice a n c, .int .i64 k] h (.int .i64 k') h' ∧ k ≤ k' ∧ h'.wf ∧ h.n ≤ h'.n ∧ ∀ x o, x ∉ ids → h.get x = some o → h'.get x = some o := by
  obtain ⟨a', n', c', e, hs, hl, ⟨rfl, rfl, h0⟩ | ⟨l, r, rows, idss, rfl, hg, hr, hil, rfl, hx⟩⟩ := so
  · cases e
    exact ⟨k, h, markHeardS_none _ _ k h, Int.le_refl _, hw, Nat.le_refl _, fun x o _ ho => ho⟩
  · cases e
    obtain ⟨v, h', hA, rfl, hw', hb, _⟩ := markHeardS_spec l r n c k h rows hw hg hr (fun i hi row hrow => by
      have hxi : xs[i]? = some xs[i] := List.getElem?_eq_getElem (by omega)
      have hj : idss[i]? = some idss[i] := List.getElem?_eq_getElem (by omega)
      exact Sh.rd_len (hx i _ _ _ hxi hrow hj).rd) (by omega) hn
    refine ⟨_, h', hA, by omega, hw', hb.n, fun x o hni ho => hb.get x o (fun e => hni ?_) ho⟩
    subst e
    exact List.mem_cons_self

theorem markClient_any (h : AHeap) (hw : h.wf) (id number : Int) (asked : Bool) (told : ByteArray) (a : Option Addr) (n c : Nat) (xs : List heardSh.T) (ids : List Nat) (so : So h heardSh xs (.slice a n c) ids) (k : Int) (hk : 0 ≤ k ∧ k ≤ 1000000000000) (hn : n ≤ 1000000000000) :
    ∃ (k' : Int) (h' : AHeap), ACall Try.prog 25 [.agg #[.int .i64 id, .int .i64 number, .bool asked, .slice a n c, .string told], .int .i64 k] h (.int .i64 k') h' ∧ k ≤ k' ∧ h'.wf ∧ h.n ≤ h'.n ∧ ∀ x o, x ∉ ids → h.get x = some o → h'.get x = some o := by
  obtain ⟨k', h', hA, rest⟩ := markHeard_any h hw a n c xs ids so k hk hn
  have : ∃ v g, ACall Try.prog 25 [.agg #[.int .i64 id, .int .i64 number, .bool asked, .slice a n c, .string told], .int .i64 k] h v g ∧ v = .int .i64 k' ∧ g = h' := by
    refine acall_vc (fun _ => false) (fun _ => []) (fun _ => .none) mixed Try.func25 rfl rfl rfl (Nat.le_of_ble_eq_true rfl) (by refine vc_mp (by kernel_rfl : (True ∧ True ∧ True ∧ True) = _) ?_; simp only [and_self]) ?_
    refine vc_mp (by kernel_rfl : (∃ (x : Int), ∃ (h'_1 : AHeap), ACall Try.prog (70 : Nat) [Value.slice a n c, Value.int IntKind.i64 k] h (Value.int IntKind.i64 x) h'_1 ∧ Value.int IntKind.i64 x = Value.int IntKind.i64 k' ∧ h'_1 = h') = _) ?_
    exact ⟨_, _, hA, rfl, rfl⟩
  obtain ⟨_, _, hB, rfl, rfl⟩ := this
  exact ⟨k', _, hB, rest⟩

theorem keepq {a b : AHeap} (le : a.Le b) {l : Nat} {o : AObj} (e : a.get l = some o) : b.get l = a.get l ∧ a.n ≤ b.n := ⟨by rw [e]; exact le.get l o e, le.n⟩

/-- What reads in the old part of a heap reads still. -/
theorem keep_sl {h h' : AHeap} {s : Sh} {xs : List s.T} {v : Value} (hx : Sl h s xs v) (hw : h.wf) (ids : List Nat) (hi : ∀ l ∈ ids, h.n ≤ l) (g : AHeap) (hg : h.Le g) (hgn : g.n ≤ h'.n) (hk : ∀ x o, x ∉ ids → g.get x = some o → h'.get x = some o) : Sl h' s xs v := by
  refine hx.mono ⟨Nat.le_trans hg.n hgn, fun l o ho => hk l o (fun hm => ?_) (hg.get l o ho)⟩
  have := hi l hm
  have := hw.lt ho
  omega

end Go.Proofs.Ytgcckeglmhbnmaa
