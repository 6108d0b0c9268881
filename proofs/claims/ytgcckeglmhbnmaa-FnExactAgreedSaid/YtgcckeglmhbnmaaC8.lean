/- The law FnExactAgreed tells true. -/
import Derived.Test.YtgcckeglmhbnmaaC7
import Derived.Test.YtgcckeglmhbnmaaG1
namespace Go.Dat
open Go.Abs
theorem flat_rows {h : AHeap} {s : Sh} {xs : List s.T} {a : Option Addr} {n c : Nat} {f : s.T → List Value} (hf : ∀ x cs, s.rd h x cs → cs = f x) (hx : Sl h s xs (.slice a n c)) : h.rowsOf (.slice a n c) = some (xs.map f) := by
  obtain ⟨a', n', c', rows, e, h1, h2, h3, h4⟩ := hx
  cases e
  rw [h2]
  have hl := rowsOf_len h1 h2
  congr 1
  apply List.ext_getElem?
  intro i
  rw [List.getElem?_map]
  cases hi : xs[i]? with
  | none =>
    have : xs.length ≤ i := by simpa using hi
    rw [List.getElem?_eq_none (by omega)]; rfl
  | some x =>
    have hlt := (List.getElem?_eq_some_iff.1 hi).1
    have hr : rows[i]? = some rows[i] := List.getElem?_eq_getElem (by omega)
    rw [hr, hf x _ (h4 i x _ hi hr)]; rfl
end Go.Dat
namespace Go.Proofs.Ytgcckeglmhbnmaa
open Go.Abs Go.Dat
set_option maxRecDepth 100000

theorem lawAgreed (h : AHeap) (hw : h.wf) (a : Option Addr) (n c : Nat) (os : List opinionSh.T) (hx : Sl h opinionSh os (.slice a n c)) (ok : (Sh.sl opinionSh).ok os) :
    ∃ v h', ACall Try.prog 6 [.slice a n c] h v h' ∧ v = .bool true := by
  refine acall_vc (fun _ => false) (fun _ => []) (fun _ => .none) mixed Try.func6 rfl rfl rfl (Nat.le_of_ble_eq_true rfl) (by refine vc_mp (by kernel_rfl : (True ∧ True ∧ True ∧ (True ∧ (True ∧ True) ∧ True) ∧ True ∧ True ∧ True ∧ (True ∧ (True ∧ True) ∧ True) ∧ (True ∧ (True ∧ True) ∧ True) ∧ True ∧ True) = _) ?_; simp only [and_self]) ?_
  have en := hx.len
  refine Eq.mp (by kernel_rfl : (Vc (∃ (x : Int), ∃ (h' : AHeap), ACall Try.prog (27 : Nat) [Value.slice a n c, Value.int IntKind.i64 (1048576 : Int)] h (Value.int IntKind.i64 x) h' ∧ bs (decide (x < (0 : Int))) (Value.bool true = Value.bool true) (∃ (a_1 : Option Addr), ∃ (n_1 : Nat), ∃ (c_1 : Nat), ∃ (h'_1 : AHeap), ACall Try.prog (29 : Nat) [Value.slice a n c] h' (Value.slice a_1 n_1 c_1) h'_1 ∧ ∃ (x : ByteArray), ∃ (h' : AHeap), ACall Try.prog (28 : Nat) [Value.slice a_1 n_1 c_1] h'_1 (Value.string x) h' ∧ ∃ (a_2 : Option Addr), ∃ (n_2 : Nat), ∃ (c_2 : Nat), ∃ (h'_2 : AHeap), ACall Try.prog (29 : Nat) [Value.slice a n c] h' (Value.slice a_2 n_2 c_2) h'_2 ∧ ∃ (x_1 : ByteArray), ∃ (h' : AHeap), ACall Try.prog (30 : Nat) [Value.slice a_2 n_2 c_2] h'_2 (Value.string x_1) h' ∧ bs (!decide (x_1 = x)) (Value.bool false = Value.bool true) (∃ (a_3 : Option Addr), ∃ (n_3 : Nat), ∃ (c_3 : Nat), ∃ (h'_3 : AHeap), ACall Try.prog (29 : Nat) [Value.slice a n c] h' (Value.slice a_3 n_3 c_3) h'_3 ∧ ∃ (x : Bool), ∃ (h' : AHeap), ACall Try.prog (31 : Nat) [Value.slice a_2 n_2 c_2, Value.slice a_3 n_3 c_3] h'_3 (Value.bool x) h' ∧ bs (!x) (Value.bool false = Value.bool true) (Value.bool true = Value.bool true))))) = _) ?_
  refine ⟨_, _, szOpinionS_spec h a n c os 1048576 hx (by omega) ok, bs_d (fun _ => rfl) (fun hge => ?_)⟩
  have sm := (Sh.sl opinionSh).sz_small os 1048576 (by omega) (by omega) (by omega)
  have hn2 : n ≤ 1048576 := by rw [← en]; exact sm.1
  have rows : ∀ {g : AHeap} {b : Option Addr} {m d : Nat}, Sl g opinionSh os (.slice b m d) → g.rowsOf (.slice b m d) = some (os.map opRow) := fun hs => flat_rows (fun x cs hc => rd_opinion.1 hc) hs
  obtain ⟨v1, h1, c1, le1, w1, i1, rfl, so1, f1⟩ := toOpinionS_spec h a n c os hw hx sm
  obtain ⟨v2, h2, c2, le2, w2, i2, rfl, so2, f2⟩ := toOpinionS_spec h1 a n c os w1 (hx.mono le1) sm
  obtain ⟨v3, h3, c3, le3, w3, rfl⟩ := implAgreed _ 0 n (n + 1) _ w2 os (rows so2.sl) hn2
  obtain ⟨v4, h4, c4, le4, w4, i4, rfl, so4, f4⟩ := toOpinionS_spec h3 a n c os w3 (hx.mono (le1.trans (le2.trans le3))) sm
  refine ⟨_, _, _, _, c1, _, _, specAgreed _ 0 n (n + 1) _ os (rows so1.sl) hn2, _, _, _, _, c2, _, _, c3, bs_dn (fun hne => absurd rfl hne) fun _ => ?_⟩
  refine ⟨_, _, _, _, c4, _, _, eqOpinionS_spec _ _ n (n + 1) _ n (n + 1) os os (so2.sl.mono (le3.trans le4)) so4.sl ok.1, ?_⟩
  exact bs_nb (fun e => by rw [eqb_self] at e; cases e) (fun _ => rfl)
end Go.Proofs.Ytgcckeglmhbnmaa
