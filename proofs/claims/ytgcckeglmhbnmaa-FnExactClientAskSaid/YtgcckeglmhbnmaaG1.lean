/- Contracts of the data functions of laws. Written by gen.py. -/
import Derived.Test.YtgcckeglmhbnmaaG0
namespace Go.Proofs.Ytgcckeglmhbnmaa
open Go.Abs Go.Dat
set_option maxRecDepth 100000
set_option maxHeartbeats 4000000
theorem eqInt64S_spec (h : AHeap) (a : Option Addr) (n c : Nat) (a' : Option Addr) (n' c' : Nat) (xs ys : List (Sh.T Sh.int)) (hx : Sl h Sh.int xs (.slice a n c)) (hy : Sl h Sh.int ys (.slice a' n' c')) (hn : xs.length ≤ 9223372036854775807) :
    ACall Try.prog 179 [.slice a n c, .slice a' n' c'] h (.bool (eqb xs ys)) h := by
  have en := hx.len
  have en' := hy.len
  refine acall_out (acall_vc (fun _ => false) (fun _ => [(0, 0, []), (1, 0, []), (2, 0, []), (4, 0, []), (5, 0, []), (6, 0, []), (3, 1, []), (7, 1, []), (8, 0, [])]) (fun _ => eqLp h a n c a' n' c' xs ys) mixed Try.func179 rfl rfl rfl (Nat.le_of_ble_eq_true rfl) ?_ ?_)
  · refine vc_mp (by kernel_rfl : (True ∧ (True ∧ (True ∧ True) ∧ True) ∧ (True ∧ (∀ (i : Nat), EqI xs ys i → bs (decide ((↑i : Int) < (↑n : Int))) (∃ (l : Nat), ∃ (r : Nat), a = some (Addr.mk l r (some (1 : Nat))) ∧ (0 : Int) ≤ (↑i : Int) ∧ (↑i : Int) < (↑n : Int) ∧ ∃ (l_1 : Nat), ∃ (r_1 : Nat), a' = some (Addr.mk l_1 r_1 (some (1 : Nat))) ∧ (0 : Int) ≤ (↑i : Int) ∧ (↑i : Int) < (↑n' : Int) ∧ ∃ (x : Int), AHeap.ld h l (r + Int.toNat (↑i : Int)) (0 : Nat) (1 : Nat) = some [Value.int IntKind.i64 x] ∧ ∃ (x_1 : Int), AHeap.ld h l_1 (r_1 + Int.toNat (↑i : Int)) (0 : Nat) (1 : Nat) = some [Value.int IntKind.i64 x_1] ∧ bs (!decide (x = x_1)) (Value.bool false = Value.bool (eqb xs ys) ∧ h = h) (∃ (j : Nat), Value.slice a n c = Value.slice a n c ∧ Value.slice a' n' c' = Value.slice a' n' c' ∧ Value.int IntKind.i64 (IntKind.wrap IntKind.i64 ((↑i : Int) + (1 : Int))) = Value.int IntKind.i64 (↑j : Int) ∧ h = h ∧ EqI xs ys j ∧ List.length xs - j < List.length xs - i ∧ (∀ (k : Unit), xs = ys → xs = ys) ∧ ∀ (v : Value) (h_1 : AHeap), v = Value.bool (eqb xs ys) ∧ h_1 = h → v = Value.bool (eqb xs ys) ∧ h_1 = h)) (∃ (j : Unit), h = h ∧ xs = ys)) ∧ (True ∧ True ∧ True) ∧ (True ∧ (True ∧ True) ∧ True) ∧ True) ∧ True ∧ True) = _) ?_
    simp only [true_and, and_true]
    rintro (i : Nat) I
    have hl := I.len
    have hi := I.hi
    refine bs_d (fun hlt => ?_) (fun hge => ?_)
    · have hxi : i < xs.length := by omega
      have hyi : i < ys.length := by omega
      obtain ⟨l, r, row, ha, hin, hrd, hld⟩ := hx.elem (List.getElem?_eq_getElem hxi)
      obtain ⟨l', r', row', ha', hin', hrd', hld'⟩ := hy.elem (List.getElem?_eq_getElem hyi)
      obtain rfl : row = [.int .i64 xs[i]] := hrd
      obtain rfl : row' = [.int .i64 ys[i]] := hrd'
      refine ⟨l, r, ha, Int.natCast_nonneg _, hlt, l', r', ha', Int.natCast_nonneg _, by omega, _, hld, _, hld', bs_dn (fun hb => ?_) (fun hb => ?_)⟩
      · exact congrArg _ (eqb_false fun e => hb (by subst e; rfl))
      · exact ⟨i + 1, by rw [wrap_i64 (by omega)] <;> rfl, I.step hxi hyi hb, by omega, fun _ h => h, fun _ _ h => h⟩
    · have e : i = xs.length := by omega
      subst e
      exact ⟨(), I.all⟩
  · refine vc_mp (by kernel_rfl : (bs (!decide ((↑n : Int) = (↑n' : Int))) (Value.bool false = Value.bool (eqb xs ys) ∧ h = h) (∃ (i : Nat), Value.slice a n c = Value.slice a n c ∧ Value.slice a' n' c' = Value.slice a' n' c' ∧ Value.int IntKind.i64 (0 : Int) = Value.int IntKind.i64 (↑i : Int) ∧ h = h ∧ EqI xs ys i ∧ (∀ (j : Unit), xs = ys → Value.bool true = Value.bool (eqb xs ys) ∧ h = h) ∧ ∀ (v : Value) (h_1 : AHeap), v = Value.bool (eqb xs ys) ∧ h_1 = h → v = Value.bool (eqb xs ys) ∧ h_1 = h)) = _) ?_
    refine bs_dn (fun hne => ⟨congrArg _ (eqb_false fun e => hne (by rw [← en, ← en', e])), rfl⟩) (fun he => ?_)
    exact ⟨(0 : Nat), rfl, rfl, rfl, rfl, ⟨by omega, Nat.zero_le _, rfl⟩, fun j e => ⟨congrArg _ (eqb_true e), rfl⟩, fun _ _ h => h⟩

theorem szStringS_spec (h : AHeap) (a : Option Addr) (n c : Nat) (xs : List Sh.str.T) (left : Int) (hx : Sl h Sh.str xs (.slice a n c)) (hl : 0 ≤ left ∧ left ≤ 1048576) (ok : (Sh.sl Sh.str).ok xs) :
    ACall Try.prog 36 [.slice a n c, .int .i64 left] h (.int .i64 ((Sh.sl Sh.str).sz xs left)) h := by
  have en := hx.len
  have ok1 : xs.length ≤ 9223372036854775807 := ok.1
  have key : (Sh.sl Sh.str).sz xs left = (if left - (xs.length : Int) < 0 then -1 else szL Sh.str.sz xs (left - (xs.length : Int))) := rfl
  rw [key, en]
  refine acall_out (acall_vc (fun _ => false) (fun _ => []) (fun _ => szLp Sh.str a n c h xs (szL Sh.str.sz xs (left - n))) mixed Try.func36 rfl rfl rfl (Nat.le_of_ble_eq_true rfl) ?_ ?_)
  · refine vc_mp (by kernel_rfl : (True ∧ True ∧ (True ∧ (True ∧ True) ∧ True) ∧ (True ∧ (∀ (i : Nat × Int), Prod.fst i ≤ n ∧ (0 : Int) ≤ Prod.snd i ∧ Prod.snd i ≤ (1048576 : Int) ∧ szL (Sh.sz Sh.str) (List.drop (Prod.fst i) xs) (Prod.snd i) = szL (Sh.sz Sh.str) xs (left - (↑n : Int)) → bs (decide ((↑(Prod.fst i) : Int) < (↑n : Int))) (∃ (l : Nat), ∃ (r : Nat), a = some (Addr.mk l r (some (1 : Nat))) ∧ (0 : Int) ≤ (↑(Prod.fst i) : Int) ∧ (↑(Prod.fst i) : Int) < (↑n : Int) ∧ ∃ (x : ByteArray), AHeap.ld h l (r + Int.toNat (↑(Prod.fst i) : Int)) (0 : Nat) (1 : Nat) = some [Value.string x] ∧ bs (decide (IntKind.wrap IntKind.i64 (Prod.snd i - (↑(ByteArray.size x) : Int)) < (0 : Int))) (Value.int IntKind.i64 (-1 : Int) = Value.int IntKind.i64 (szL (Sh.sz Sh.str) xs (left - (↑n : Int))) ∧ h = h) (∃ (j : Nat × Int), Value.slice a n c = Value.slice a n c ∧ Value.int IntKind.i64 (IntKind.wrap IntKind.i64 (Prod.snd i - (↑(ByteArray.size x) : Int))) = Value.int IntKind.i64 (Prod.snd j) ∧ Value.int IntKind.i64 (IntKind.wrap IntKind.i64 ((↑(Prod.fst i) : Int) + (1 : Int))) = Value.int IntKind.i64 (↑(Prod.fst j) : Int) ∧ h = h ∧ (Prod.fst j ≤ n ∧ (0 : Int) ≤ Prod.snd j ∧ Prod.snd j ≤ (1048576 : Int) ∧ szL (Sh.sz Sh.str) (List.drop (Prod.fst j) xs) (Prod.snd j) = szL (Sh.sz Sh.str) xs (left - (↑n : Int))) ∧ n - Prod.fst j < n - Prod.fst i ∧ (∀ (k : Int), k = szL (Sh.sz Sh.str) xs (left - (↑n : Int)) → k = szL (Sh.sz Sh.str) xs (left - (↑n : Int))) ∧ ∀ (v : Value) (h_1 : AHeap), v = Value.int IntKind.i64 (szL (Sh.sz Sh.str) xs (left - (↑n : Int))) ∧ h_1 = h → v = Value.int IntKind.i64 (szL (Sh.sz Sh.str) xs (left - (↑n : Int))) ∧ h_1 = h)) (∃ (j : Int), Value.int IntKind.i64 (Prod.snd i) = Value.int IntKind.i64 j ∧ h = h ∧ j = szL (Sh.sz Sh.str) xs (left - (↑n : Int)))) ∧ (True ∧ True ∧ True) ∧ (True ∧ True ∧ (True ∧ True) ∧ True) ∧ True) ∧ True ∧ True) = _) ?_
    simp only [true_and, and_true]
    rintro ⟨i, x⟩ ⟨hi, h0, h1, he⟩
    dsimp only at *
    refine bs_d (fun hlt => ?_) (fun hge => ?_)
    · have hio : i < xs.length := by omega
      obtain ⟨l, r, row, ha, _, hrd, hld⟩ := hx.elem (List.getElem?_eq_getElem hio)
      have hoi : (xs[i] : ByteArray).size ≤ 9223372036854775807 := ok.2 xs[i] (List.getElem_mem hio)
      obtain rfl : row = [.string xs[i]] := hrd
      rw [List.drop_eq_getElem_cons hio] at he
      have he : (if Sh.str.sz xs[i] x < 0 then -1 else szL Sh.str.sz (xs.drop (i + 1)) (Sh.str.sz xs[i] x)) = szL Sh.str.sz xs (left - n) := he
      refine ⟨l, r, ha, Int.natCast_nonneg _, hlt, _, hld, ?_⟩
      rw [wrap_i64 (by omega)]
      refine bs_d (fun hneg => ?_) (fun hpos => ?_)
      · rw [sz_strn hneg, if_pos (by omega)] at he; exact congrArg _ he
      · rw [sz_str hpos, if_neg hpos] at he
        exact ⟨(i + 1, x - ((xs[i] : ByteArray).size : Int)), rfl, by rw [wrap_i64 (by omega)] <;> rfl, ⟨by dsimp only; omega, by dsimp only; omega, by dsimp only; omega, he⟩, by dsimp only; omega, fun _ h => h, fun _ _ h => h⟩
    · have e : i = xs.length := by omega
      subst e
      rw [List.drop_length] at he
      exact ⟨x, rfl, he⟩
  · refine vc_mp (by kernel_rfl : (bs (decide (IntKind.wrap IntKind.i64 (left - (↑n : Int)) < (0 : Int))) (Value.int IntKind.i64 (-1 : Int) = Value.int IntKind.i64 (if left - (↑n : Int) < (0 : Int) then (-1 : Int) else szL (Sh.sz Sh.str) xs (left - (↑n : Int))) ∧ h = h) (∃ (i : Nat × Int), Value.slice a n c = Value.slice a n c ∧ Value.int IntKind.i64 (IntKind.wrap IntKind.i64 (left - (↑n : Int))) = Value.int IntKind.i64 (Prod.snd i) ∧ Value.int IntKind.i64 (0 : Int) = Value.int IntKind.i64 (↑(Prod.fst i) : Int) ∧ h = h ∧ (Prod.fst i ≤ n ∧ (0 : Int) ≤ Prod.snd i ∧ Prod.snd i ≤ (1048576 : Int) ∧ szL (Sh.sz Sh.str) (List.drop (Prod.fst i) xs) (Prod.snd i) = szL (Sh.sz Sh.str) xs (left - (↑n : Int))) ∧ (∀ (j : Int), j = szL (Sh.sz Sh.str) xs (left - (↑n : Int)) → Value.int IntKind.i64 j = Value.int IntKind.i64 (if left - (↑n : Int) < (0 : Int) then (-1 : Int) else szL (Sh.sz Sh.str) xs (left - (↑n : Int))) ∧ h = h) ∧ ∀ (v : Value) (h_1 : AHeap), v = Value.int IntKind.i64 (szL (Sh.sz Sh.str) xs (left - (↑n : Int))) ∧ h_1 = h → v = Value.int IntKind.i64 (if left - (↑n : Int) < (0 : Int) then (-1 : Int) else szL (Sh.sz Sh.str) xs (left - (↑n : Int))) ∧ h_1 = h)) = _) ?_
    rw [wrap_i64 (by omega)]
    refine bs_d (fun e => ?_) (fun e => ?_)
    · rw [if_pos e]; exact ⟨rfl, rfl⟩
    · rw [if_neg e]
      exact ⟨(0, left - n), rfl, rfl, rfl, rfl, ⟨Nat.zero_le _, by dsimp only; omega, by dsimp only; omega, rfl⟩, fun j hj => ⟨by rw [hj], rfl⟩, fun _ _ h => h⟩

theorem toStringS_spec (h : AHeap) (a : Option Addr) (n c : Nat) (xs : List (Sh.T Sh.str)) (hw : h.wf) (hx : Sl h Sh.str xs (.slice a n c)) (ok : (Sh.sl Sh.str).small xs) :
    ∃ v h', ACall Try.prog 38 [.slice a n c] h v h' ∧ h.Le h' ∧ h'.wf ∧ ∃ ids, v = .slice (some ⟨h.n, 0, some 1⟩) n (n + 1) ∧ So h' Sh.str xs (.slice (some ⟨h.n, 0, some 1⟩) n (n + 1)) ids ∧ Fresh h.n h'.n ids := by
  have en := hx.len
  have ok1 : xs.length ≤ 1048576 := ok.1
  refine acall_vc (fun _ => false) (fun _ => []) (fun _ => toL Sh.str [.string ⟨#[]⟩] a n c h xs) mixed Try.func38 rfl rfl rfl (Nat.le_of_ble_eq_true rfl) ?_ ?_
  · refine vc_mp (by kernel_rfl : (True ∧ True ∧ (True ∧ (∀ (i : Nat × AHeap × List (List Value) × List (List Nat)), ToI Sh.str [Value.string (ByteArray.mk (Array.mk []))] n h xs (Prod.fst i) (Prod.fst (Prod.snd i)) (Prod.fst (Prod.snd (Prod.snd i))) (Prod.snd (Prod.snd (Prod.snd i))) → bs (decide ((↑(Prod.fst i) : Int) < (↑n : Int))) (∃ (l : Nat), ∃ (r : Nat), a = some (Addr.mk l r (some (1 : Nat))) ∧ (0 : Int) ≤ (↑(Prod.fst i) : Int) ∧ (↑(Prod.fst i) : Int) < (↑n : Int) ∧ ∃ (x : ByteArray), AHeap.ld (Prod.fst (Prod.snd i)) l (r + Int.toNat (↑(Prod.fst i) : Int)) (0 : Nat) (1 : Nat) = some [Value.string x] ∧ ∃ (l : Nat), ∃ (r : Nat), some (Addr.mk (AHeap.n h) (0 : Nat) (some (Sh.cells Sh.str))) = some (Addr.mk l r (some (1 : Nat))) ∧ (0 : Int) ≤ (↑(Prod.fst i) : Int) ∧ (↑(Prod.fst i) : Int) < (↑n : Int) ∧ ∃ (h' : AHeap), AHeap.wr (Prod.fst (Prod.snd i)) l (r + Int.toNat (↑(Prod.fst i) : Int)) (0 : Nat) [Value.string x] = some h' ∧ ∃ (j : Nat × AHeap × List (List Value) × List (List Nat)), Value.slice a n c = Value.slice a n c ∧ Value.slice (some (Addr.mk (AHeap.n h) (0 : Nat) (some (Sh.cells Sh.str)))) n (n + (1 : Nat)) = Value.slice (some (Addr.mk (AHeap.n h) (0 : Nat) (some (Sh.cells Sh.str)))) n (n + (1 : Nat)) ∧ Value.int IntKind.i64 (IntKind.wrap IntKind.i64 ((↑(Prod.fst i) : Int) + (1 : Int))) = Value.int IntKind.i64 (↑(Prod.fst j) : Int) ∧ Prod.fst (Prod.snd j) = h' ∧ ToI Sh.str [Value.string (ByteArray.mk (Array.mk []))] n h xs (Prod.fst j) (Prod.fst (Prod.snd j)) (Prod.fst (Prod.snd (Prod.snd j))) (Prod.snd (Prod.snd (Prod.snd j))) ∧ n - Prod.fst j < n - Prod.fst i ∧ (∀ (k : AHeap × List (List Value) × List (List Nat)), ToI Sh.str [Value.string (ByteArray.mk (Array.mk []))] n h xs n (Prod.fst k) (Prod.fst (Prod.snd k)) (Prod.snd (Prod.snd k)) → ToI Sh.str [Value.string (ByteArray.mk (Array.mk []))] n h xs n (Prod.fst k) (Prod.fst (Prod.snd k)) (Prod.snd (Prod.snd k))) ∧ ∀ (v : Value) (h : AHeap), False → False) (∃ (j : AHeap × List (List Value) × List (List Nat)), Value.slice (some (Addr.mk (AHeap.n h) (0 : Nat) (some (Sh.cells Sh.str)))) n (n + (1 : Nat)) = Value.slice (some (Addr.mk (AHeap.n h) (0 : Nat) (some (Sh.cells Sh.str)))) n (n + (1 : Nat)) ∧ Prod.fst j = Prod.fst (Prod.snd i) ∧ ToI Sh.str [Value.string (ByteArray.mk (Array.mk []))] n h xs n (Prod.fst j) (Prod.fst (Prod.snd j)) (Prod.snd (Prod.snd j)))) ∧ (True ∧ True ∧ True) ∧ True ∧ True) ∧ True ∧ True) = _) ?_
    simp only [true_and, and_true]
    rintro ⟨i, h1, rows, idss⟩ I
    dsimp only at *
    refine bs_d (fun hlt => ?_) (fun hge => ?_)
    · have hio : i < xs.length := by omega
      obtain ⟨l, r, row, ha, _, hrd, hld⟩ := (hx.mono I.le).elem (List.getElem?_eq_getElem hio)
      obtain rfl : row = [.string xs[i]] := hrd
      obtain ⟨h3, e3, I3⟩ := I.step (cs := [.string xs[i]]) (ids := []) (by omega) (List.getElem?_eq_getElem hio) (.refl _) I.wf ⟨rfl, rfl⟩ .nil
      refine ⟨l, r, ha, Int.natCast_nonneg _, hlt, _, hld, h.n, 0, rfl, Int.natCast_nonneg _, hlt, h3, e3, (i + 1, h3, _, _), by rw [wrap_i64 (by omega)] <;> rfl, rfl, I3, by dsimp only; omega, fun _ h => h, fun _ _ h => h⟩
    · have hi := I.hi
      have e : i = n := by omega
      subst e
      exact ⟨(h1, rows, idss), rfl, I⟩
  · refine vc_mp (by kernel_rfl : ((0 : Int) ≤ (↑n : Int) ∧ (↑n : Int) ≤ (↑n : Int) ∧ (↑n : Int) * (↑(16 : Nat) : Int) ≤ (140737488355328 : Int) ∧ ∃ (i : Nat × AHeap × List (List Value) × List (List Nat)), Value.slice a n c = Value.slice a n c ∧ Value.slice (some (Addr.mk (AHeap.n h) (0 : Nat) (some (1 : Nat)))) (Int.toNat (↑n : Int)) (Int.toNat (↑n : Int) + (1 : Nat)) = Value.slice (some (Addr.mk (AHeap.n h) (0 : Nat) (some (Sh.cells Sh.str)))) n (n + (1 : Nat)) ∧ Value.int IntKind.i64 (0 : Int) = Value.int IntKind.i64 (↑(Prod.fst i) : Int) ∧ Prod.fst (Prod.snd i) = AHeap.push h (AObj.mk (List.replicate (Int.toNat (↑n : Int)) [Value.string (ByteArray.mk (Array.mk []))]) (1 : Nat) true) ∧ ToI Sh.str [Value.string (ByteArray.mk (Array.mk []))] n h xs (Prod.fst i) (Prod.fst (Prod.snd i)) (Prod.fst (Prod.snd (Prod.snd i))) (Prod.snd (Prod.snd (Prod.snd i))) ∧ (∀ (j : AHeap × List (List Value) × List (List Nat)), ToI Sh.str [Value.string (ByteArray.mk (Array.mk []))] n h xs n (Prod.fst j) (Prod.fst (Prod.snd j)) (Prod.snd (Prod.snd j)) → AHeap.Le h (Prod.fst j) ∧ AHeap.wf (Prod.fst j) ∧ ∃ (ids : List Nat), Value.slice (some (Addr.mk (AHeap.n h) (0 : Nat) (some (Sh.cells Sh.str)))) n (n + (1 : Nat)) = Value.slice (some (Addr.mk (AHeap.n h) (0 : Nat) (some (1 : Nat)))) n (n + (1 : Nat)) ∧ So (Prod.fst j) Sh.str xs (Value.slice (some (Addr.mk (AHeap.n h) (0 : Nat) (some (1 : Nat)))) n (n + (1 : Nat))) ids ∧ Fresh (AHeap.n h) (AHeap.n (Prod.fst j)) ids) ∧ ∀ (v : Value) (h_1 : AHeap), False → AHeap.Le h h_1 ∧ AHeap.wf h_1 ∧ ∃ (ids : List Nat), v = Value.slice (some (Addr.mk (AHeap.n h) (0 : Nat) (some (1 : Nat)))) n (n + (1 : Nat)) ∧ So h_1 Sh.str xs (Value.slice (some (Addr.mk (AHeap.n h) (0 : Nat) (some (1 : Nat)))) n (n + (1 : Nat))) ids ∧ Fresh (AHeap.n h) (AHeap.n h_1) ids) = _) ?_
    refine ⟨Int.natCast_nonneg _, Int.le_refl _, by omega, (0, _, _, _), rfl, rfl, rfl, rfl, ToI.start hw rfl, ?_, fun _ _ h => h.elim⟩
    rintro ⟨h1, rows, idss⟩ I
    obtain ⟨ids, h2, h3⟩ := ToI.finish I en (n + 1)
    exact ⟨I.le, I.wf, ids, rfl, h2, h3⟩

theorem eqStringS_spec (h : AHeap) (a : Option Addr) (n c : Nat) (a' : Option Addr) (n' c' : Nat) (xs ys : List (Sh.T Sh.str)) (hx : Sl h Sh.str xs (.slice a n c)) (hy : Sl h Sh.str ys (.slice a' n' c')) (hn : xs.length ≤ 9223372036854775807) :
    ACall Try.prog 17 [.slice a n c, .slice a' n' c'] h (.bool (eqb xs ys)) h := by
  have en := hx.len
  have en' := hy.len
  refine acall_out (acall_vc (fun _ => false) (fun _ => [(0, 0, []), (1, 0, []), (2, 0, []), (4, 0, []), (5, 0, []), (6, 0, []), (3, 1, []), (7, 1, []), (8, 0, [])]) (fun _ => eqLp h a n c a' n' c' xs ys) mixed Try.func17 rfl rfl rfl (Nat.le_of_ble_eq_true rfl) ?_ ?_)
  · refine vc_mp (by kernel_rfl : (True ∧ (True ∧ (True ∧ True) ∧ True) ∧ (True ∧ (∀ (i : Nat), EqI xs ys i → bs (decide ((↑i : Int) < (↑n : Int))) (∃ (l : Nat), ∃ (r : Nat), a = some (Addr.mk l r (some (1 : Nat))) ∧ (0 : Int) ≤ (↑i : Int) ∧ (↑i : Int) < (↑n : Int) ∧ ∃ (l_1 : Nat), ∃ (r_1 : Nat), a' = some (Addr.mk l_1 r_1 (some (1 : Nat))) ∧ (0 : Int) ≤ (↑i : Int) ∧ (↑i : Int) < (↑n' : Int) ∧ ∃ (x : ByteArray), AHeap.ld h l (r + Int.toNat (↑i : Int)) (0 : Nat) (1 : Nat) = some [Value.string x] ∧ ∃ (x_1 : ByteArray), AHeap.ld h l_1 (r_1 + Int.toNat (↑i : Int)) (0 : Nat) (1 : Nat) = some [Value.string x_1] ∧ bs (!decide (x = x_1)) (Value.bool false = Value.bool (eqb xs ys) ∧ h = h) (∃ (j : Nat), Value.slice a n c = Value.slice a n c ∧ Value.slice a' n' c' = Value.slice a' n' c' ∧ Value.int IntKind.i64 (IntKind.wrap IntKind.i64 ((↑i : Int) + (1 : Int))) = Value.int IntKind.i64 (↑j : Int) ∧ h = h ∧ EqI xs ys j ∧ List.length xs - j < List.length xs - i ∧ (∀ (k : Unit), xs = ys → xs = ys) ∧ ∀ (v : Value) (h_1 : AHeap), v = Value.bool (eqb xs ys) ∧ h_1 = h → v = Value.bool (eqb xs ys) ∧ h_1 = h)) (∃ (j : Unit), h = h ∧ xs = ys)) ∧ (True ∧ True ∧ True) ∧ (True ∧ (True ∧ True) ∧ True) ∧ True) ∧ True ∧ True) = _) ?_
    simp only [true_and, and_true]
    rintro (i : Nat) I
    have hl := I.len
    have hi := I.hi
    refine bs_d (fun hlt => ?_) (fun hge => ?_)
    · have hxi : i < xs.length := by omega
      have hyi : i < ys.length := by omega
      obtain ⟨l, r, row, ha, hin, hrd, hld⟩ := hx.elem (List.getElem?_eq_getElem hxi)
      obtain ⟨l', r', row', ha', hin', hrd', hld'⟩ := hy.elem (List.getElem?_eq_getElem hyi)
      obtain rfl : row = [.string xs[i]] := hrd
      obtain rfl : row' = [.string ys[i]] := hrd'
      refine ⟨l, r, ha, Int.natCast_nonneg _, hlt, l', r', ha', Int.natCast_nonneg _, by omega, _, hld, _, hld', bs_dn (fun hb => ?_) (fun hb => ?_)⟩
      · exact congrArg _ (eqb_false fun e => hb (by subst e; rfl))
      · exact ⟨i + 1, by rw [wrap_i64 (by omega)] <;> rfl, I.step hxi hyi hb, by omega, fun _ h => h, fun _ _ h => h⟩
    · have e : i = xs.length := by omega
      subst e
      exact ⟨(), I.all⟩
  · refine vc_mp (by kernel_rfl : (bs (!decide ((↑n : Int) = (↑n' : Int))) (Value.bool false = Value.bool (eqb xs ys) ∧ h = h) (∃ (i : Nat), Value.slice a n c = Value.slice a n c ∧ Value.slice a' n' c' = Value.slice a' n' c' ∧ Value.int IntKind.i64 (0 : Int) = Value.int IntKind.i64 (↑i : Int) ∧ h = h ∧ EqI xs ys i ∧ (∀ (j : Unit), xs = ys → Value.bool true = Value.bool (eqb xs ys) ∧ h = h) ∧ ∀ (v : Value) (h_1 : AHeap), v = Value.bool (eqb xs ys) ∧ h_1 = h → v = Value.bool (eqb xs ys) ∧ h_1 = h)) = _) ?_
    refine bs_dn (fun hne => ⟨congrArg _ (eqb_false fun e => hne (by rw [← en, ← en', e])), rfl⟩) (fun he => ?_)
    exact ⟨(0 : Nat), rfl, rfl, rfl, rfl, ⟨by omega, Nat.zero_le _, rfl⟩, fun j e => ⟨congrArg _ (eqb_true e), rfl⟩, fun _ _ h => h⟩

theorem szCommand_spec (h : AHeap) (x : commandSh.T) (left : Int) (hl : 0 ≤ left ∧ left ≤ 1048576) (ok : commandSh.ok x) :
    ACall Try.prog 49 [.agg #[.int .i64 x.1, .int .i64 x.2.1, .int .i64 x.2.2.1, .string x.2.2.2.1, .string x.2.2.2.2.1, .string x.2.2.2.2.2.1, .int .i64 x.2.2.2.2.2.2], .int .i64 left] h (.int .i64 (commandSh.sz x left)) h := by
  obtain ⟨x1, x2, x3, x4, x5, x6, x7⟩ := x
  try dsimp only at *
  refine acall_out (acall_vc (fun _ => false) (fun _ => []) (fun _ => .none) mixed Try.func49 rfl rfl rfl (Nat.le_of_ble_eq_true rfl) (by refine vc_mp (by kernel_rfl : (True ∧ True ∧ (True ∧ (True ∧ True) ∧ True) ∧ True ∧ (True ∧ (True ∧ True) ∧ True) ∧ True ∧ (True ∧ (True ∧ True) ∧ True) ∧ True ∧ True) = _) ?_; simp only [and_self]) ?_)
  refine vc_mp (by kernel_rfl : (bs (decide (IntKind.wrap IntKind.i64 (left - (↑(ByteArray.size x4) : Int)) < (0 : Int))) (Value.int IntKind.i64 (-1 : Int) = Value.int IntKind.i64 (Sh.sz commandSh (x1, x2, x3, x4, x5, x6, x7) left) ∧ h = h) (bs (decide (IntKind.wrap IntKind.i64 (IntKind.wrap IntKind.i64 (left - (↑(ByteArray.size x4) : Int)) - (↑(ByteArray.size x5) : Int)) < (0 : Int))) (Value.int IntKind.i64 (-1 : Int) = Value.int IntKind.i64 (Sh.sz commandSh (x1, x2, x3, x4, x5, x6, x7) left) ∧ h = h) (bs (decide (IntKind.wrap IntKind.i64 (IntKind.wrap IntKind.i64 (IntKind.wrap IntKind.i64 (left - (↑(ByteArray.size x4) : Int)) - (↑(ByteArray.size x5) : Int)) - (↑(ByteArray.size x6) : Int)) < (0 : Int))) (Value.int IntKind.i64 (-1 : Int) = Value.int IntKind.i64 (Sh.sz commandSh (x1, x2, x3, x4, x5, x6, x7) left) ∧ h = h) (Value.int IntKind.i64 (IntKind.wrap IntKind.i64 (IntKind.wrap IntKind.i64 (IntKind.wrap IntKind.i64 (left - (↑(ByteArray.size x4) : Int)) - (↑(ByteArray.size x5) : Int)) - (↑(ByteArray.size x6) : Int))) = Value.int IntKind.i64 (Sh.sz commandSh (x1, x2, x3, x4, x5, x6, x7) left) ∧ h = h)))) = _) ?_
  have o1 : (x4 : ByteArray).size ≤ 9223372036854775807 := ok.2.2.2.1
  rw [wrap_i64 (by omega)]
  refine bs_d (fun e1 => by refine ⟨congrArg _ (Eq.symm ?_), rfl⟩; exact sz_step rfl hl.1 (sz_step rfl hl.1 (sz_step rfl hl.1 (sz_stop (neg1 (sz_strn e1)))))) (fun e1 => ?_)
  have o2 : (x5 : ByteArray).size ≤ 9223372036854775807 := ok.2.2.2.2.1
  rw [wrap_i64 (by omega)]
  refine bs_d (fun e2 => by refine ⟨congrArg _ (Eq.symm ?_), rfl⟩; exact sz_step rfl hl.1 (sz_step rfl hl.1 (sz_step rfl hl.1 (sz_step (sz_str e1) (Int.not_lt.1 e1) (sz_stop (neg1 (sz_strn e2))))))) (fun e2 => ?_)
  have o3 : (x6 : ByteArray).size ≤ 9223372036854775807 := ok.2.2.2.2.2.1
  rw [wrap_i64 (by omega)]
  refine bs_d (fun e3 => by refine ⟨congrArg _ (Eq.symm ?_), rfl⟩; exact sz_step rfl hl.1 (sz_step rfl hl.1 (sz_step rfl hl.1 (sz_step (sz_str e1) (Int.not_lt.1 e1) (sz_step (sz_str e2) (Int.not_lt.1 e2) (sz_stop (neg1 (sz_strn e3)))))))) (fun e3 => ?_)
  refine ⟨congrArg _ (Eq.symm ?_), rfl⟩
  exact sz_step rfl hl.1 (sz_step rfl hl.1 (sz_step rfl hl.1 (sz_step (sz_str e1) (Int.not_lt.1 e1) (sz_step (sz_str e2) (Int.not_lt.1 e2) (sz_step (sz_str e3) (Int.not_lt.1 e3) (rfl))))))

theorem toCommand_spec (h : AHeap) (x : commandSh.T) (hw : h.wf) :
    ∃ v h', ACall Try.prog 51 [.agg #[.int .i64 x.1, .int .i64 x.2.1, .int .i64 x.2.2.1, .string x.2.2.2.1, .string x.2.2.2.2.1, .string x.2.2.2.2.2.1, .int .i64 x.2.2.2.2.2.2]] h v h' ∧ h.Le h' ∧ h'.wf ∧ ∃ ids, v = .agg #[.int .i64 x.1, .int .i64 x.2.1, .int .i64 x.2.2.1, .string x.2.2.2.1, .string x.2.2.2.2.1, .string x.2.2.2.2.2.1, .int .i64 x.2.2.2.2.2.2] ∧ commandSh.ro h' x [.int .i64 x.1, .int .i64 x.2.1, .int .i64 x.2.2.1, .string x.2.2.2.1, .string x.2.2.2.2.1, .string x.2.2.2.2.2.1, .int .i64 x.2.2.2.2.2.2] ids ∧ Fresh h.n h'.n ids := by
  obtain ⟨x1, x2, x3, x4, x5, x6, x7⟩ := x
  try dsimp only at *
  refine acall_q fun Q HQ => ?_
  refine acall_vc (fun _ => false) (fun _ => []) (fun _ => .none) mixed Try.func51 rfl rfl rfl (Nat.le_of_ble_eq_true rfl) (by refine vc_mp (by kernel_rfl : (True ∧ True ∧ True ∧ True ∧ True ∧ True ∧ True ∧ True ∧ True ∧ True ∧ True) = _) ?_; simp only [and_self]) ?_
  refine vc_mp (by kernel_rfl : (Q (Value.agg (Array.mk [Value.int IntKind.i64 x1, Value.int IntKind.i64 x2, Value.int IntKind.i64 x3, Value.string x4, Value.string x5, Value.string x6, Value.int IntKind.i64 x7])) h) = _) ?_
  exact HQ _ _ ⟨.refl _, hw, [], rfl, (ro_command (x := (x1, x2, x3, x4, x5, x6, x7))).2 ⟨rfl, rfl⟩, .nil⟩

theorem szGroup_spec (h : AHeap) (x : groupSh.T) (left : Int) (hl : 0 ≤ left ∧ left ≤ 1048576) (ok : groupSh.ok x) :
    ACall Try.prog 180 [.agg #[.string x.1, .int .i64 x.2], .int .i64 left] h (.int .i64 (groupSh.sz x left)) h := by
  obtain ⟨x1, x2⟩ := x
  try dsimp only at *
  refine acall_out (acall_vc (fun _ => false) (fun _ => []) (fun _ => .none) mixed Try.func180 rfl rfl rfl (Nat.le_of_ble_eq_true rfl) (by refine vc_mp (by kernel_rfl : (True ∧ True ∧ (True ∧ (True ∧ True) ∧ True) ∧ True ∧ True) = _) ?_; simp only [and_self]) ?_)
  refine vc_mp (by kernel_rfl : (bs (decide (IntKind.wrap IntKind.i64 (left - (↑(ByteArray.size x1) : Int)) < (0 : Int))) (Value.int IntKind.i64 (-1 : Int) = Value.int IntKind.i64 (Sh.sz groupSh (x1, x2) left) ∧ h = h) (Value.int IntKind.i64 (IntKind.wrap IntKind.i64 (left - (↑(ByteArray.size x1) : Int))) = Value.int IntKind.i64 (Sh.sz groupSh (x1, x2) left) ∧ h = h)) = _) ?_
  have o1 : (x1 : ByteArray).size ≤ 9223372036854775807 := ok.1
  rw [wrap_i64 (by omega)]
  refine bs_d (fun e1 => by refine ⟨congrArg _ (Eq.symm ?_), rfl⟩; exact sz_stop (neg1 (sz_strn e1))) (fun e1 => ?_)
  refine ⟨congrArg _ (Eq.symm ?_), rfl⟩
  exact sz_step (sz_str e1) (Int.not_lt.1 e1) (rfl)

theorem szGroupS_spec (h : AHeap) (a : Option Addr) (n c : Nat) (xs : List groupSh.T) (left : Int) (hx : Sl h groupSh xs (.slice a n c)) (hl : 0 ≤ left ∧ left ≤ 1048576) (ok : (Sh.sl groupSh).ok xs) :
    ACall Try.prog 173 [.slice a n c, .int .i64 left] h (.int .i64 ((Sh.sl groupSh).sz xs left)) h := by
  have en := hx.len
  have ok1 : xs.length ≤ 9223372036854775807 := ok.1
  have key : (Sh.sl groupSh).sz xs left = (if left - (xs.length : Int) < 0 then -1 else szL groupSh.sz xs (left - (xs.length : Int))) := rfl
  rw [key, en]
  refine acall_out (acall_vc (fun _ => false) (fun _ => []) (fun _ => szLp groupSh a n c h xs (szL groupSh.sz xs (left - n))) mixed Try.func173 rfl rfl rfl (Nat.le_of_ble_eq_true rfl) ?_ ?_)
  · refine vc_mp (by kernel_rfl : (True ∧ True ∧ (True ∧ (True ∧ True) ∧ True) ∧ (True ∧ (∀ (i : Nat × Int), Prod.fst i ≤ n ∧ (0 : Int) ≤ Prod.snd i ∧ Prod.snd i ≤ (1048576 : Int) ∧ szL (Sh.sz groupSh) (List.drop (Prod.fst i) xs) (Prod.snd i) = szL (Sh.sz groupSh) xs (left - (↑n : Int)) → bs (decide ((↑(Prod.fst i) : Int) < (↑n : Int))) (∃ (l : Nat), ∃ (r : Nat), a = some (Addr.mk l r (some (2 : Nat))) ∧ (0 : Int) ≤ (↑(Prod.fst i) : Int) ∧ (↑(Prod.fst i) : Int) < (↑n : Int) ∧ ∃ (x : ByteArray), ∃ (x_1 : Int), AHeap.ld h l (r + Int.toNat (↑(Prod.fst i) : Int)) (0 : Nat) (2 : Nat) = some [Value.string x, Value.int IntKind.i64 x_1] ∧ ∃ (x_2 : Int), ∃ (h' : AHeap), ACall Try.prog (180 : Nat) [Value.agg (Array.mk [Value.string x, Value.int IntKind.i64 x_1]), Value.int IntKind.i64 (Prod.snd i)] h (Value.int IntKind.i64 x_2) h' ∧ bs (decide (x_2 < (0 : Int))) (Value.int IntKind.i64 (-1 : Int) = Value.int IntKind.i64 (szL (Sh.sz groupSh) xs (left - (↑n : Int))) ∧ h' = h) (∃ (j : Nat × Int), Value.slice a n c = Value.slice a n c ∧ Value.int IntKind.i64 x_2 = Value.int IntKind.i64 (Prod.snd j) ∧ Value.int IntKind.i64 (IntKind.wrap IntKind.i64 ((↑(Prod.fst i) : Int) + (1 : Int))) = Value.int IntKind.i64 (↑(Prod.fst j) : Int) ∧ h = h' ∧ (Prod.fst j ≤ n ∧ (0 : Int) ≤ Prod.snd j ∧ Prod.snd j ≤ (1048576 : Int) ∧ szL (Sh.sz groupSh) (List.drop (Prod.fst j) xs) (Prod.snd j) = szL (Sh.sz groupSh) xs (left - (↑n : Int))) ∧ n - Prod.fst j < n - Prod.fst i ∧ (∀ (k : Int), k = szL (Sh.sz groupSh) xs (left - (↑n : Int)) → k = szL (Sh.sz groupSh) xs (left - (↑n : Int))) ∧ ∀ (v : Value) (h_1 : AHeap), v = Value.int IntKind.i64 (szL (Sh.sz groupSh) xs (left - (↑n : Int))) ∧ h_1 = h → v = Value.int IntKind.i64 (szL (Sh.sz groupSh) xs (left - (↑n : Int))) ∧ h_1 = h)) (∃ (j : Int), Value.int IntKind.i64 (Prod.snd i) = Value.int IntKind.i64 j ∧ h = h ∧ j = szL (Sh.sz groupSh) xs (left - (↑n : Int)))) ∧ (True ∧ True ∧ True) ∧ (True ∧ True ∧ (True ∧ True) ∧ True) ∧ True) ∧ True ∧ True) = _) ?_
    simp only [true_and, and_true]
    rintro ⟨i, x⟩ ⟨hi, h0, h1, he⟩
    dsimp only at *
    refine bs_d (fun hlt => ?_) (fun hge => ?_)
    · have hio : i < xs.length := by omega
      obtain ⟨l, r, row, ha, _, hrd, hld⟩ := hx.elem (List.getElem?_eq_getElem hio)
      have hoi := ok.2 xs[i] (List.getElem_mem hio)
      obtain rfl := rd_group.1 hrd
      rw [List.drop_eq_getElem_cons hio] at he
      have he : (if groupSh.sz xs[i] x < 0 then -1 else szL groupSh.sz (xs.drop (i + 1)) (groupSh.sz xs[i] x)) = szL groupSh.sz xs (left - n) := he
      have b1 := groupSh.sz_le xs[i] x h0
      refine ⟨l, r, ha, Int.natCast_nonneg _, hlt, _, _, hld, groupSh.sz xs[i] x, h, szGroup_spec h xs[i] x   ⟨h0, h1⟩ hoi, bs_d (fun hneg => ?_) (fun hpos => ?_)⟩
      · rw [if_pos hneg] at he; rw [← he]; exact ⟨rfl, rfl⟩
      · rw [if_neg hpos] at he
        exact ⟨(i + 1, groupSh.sz xs[i] x), rfl, by rw [wrap_i64 (by omega)] <;> rfl, rfl, ⟨by dsimp only; omega, by dsimp only; omega, by dsimp only; omega, he⟩, by dsimp only; omega, fun _ h => h, fun _ _ h => h⟩
    · have e : i = xs.length := by omega
      subst e
      rw [List.drop_length] at he
      exact ⟨x, rfl, he⟩
  · refine vc_mp (by kernel_rfl : (bs (decide (IntKind.wrap IntKind.i64 (left - (↑n : Int)) < (0 : Int))) (Value.int IntKind.i64 (-1 : Int) = Value.int IntKind.i64 (if left - (↑n : Int) < (0 : Int) then (-1 : Int) else szL (Sh.sz groupSh) xs (left - (↑n : Int))) ∧ h = h) (∃ (i : Nat × Int), Value.slice a n c = Value.slice a n c ∧ Value.int IntKind.i64 (IntKind.wrap IntKind.i64 (left - (↑n : Int))) = Value.int IntKind.i64 (Prod.snd i) ∧ Value.int IntKind.i64 (0 : Int) = Value.int IntKind.i64 (↑(Prod.fst i) : Int) ∧ h = h ∧ (Prod.fst i ≤ n ∧ (0 : Int) ≤ Prod.snd i ∧ Prod.snd i ≤ (1048576 : Int) ∧ szL (Sh.sz groupSh) (List.drop (Prod.fst i) xs) (Prod.snd i) = szL (Sh.sz groupSh) xs (left - (↑n : Int))) ∧ (∀ (j : Int), j = szL (Sh.sz groupSh) xs (left - (↑n : Int)) → Value.int IntKind.i64 j = Value.int IntKind.i64 (if left - (↑n : Int) < (0 : Int) then (-1 : Int) else szL (Sh.sz groupSh) xs (left - (↑n : Int))) ∧ h = h) ∧ ∀ (v : Value) (h_1 : AHeap), v = Value.int IntKind.i64 (szL (Sh.sz groupSh) xs (left - (↑n : Int))) ∧ h_1 = h → v = Value.int IntKind.i64 (if left - (↑n : Int) < (0 : Int) then (-1 : Int) else szL (Sh.sz groupSh) xs (left - (↑n : Int))) ∧ h_1 = h)) = _) ?_
    rw [wrap_i64 (by omega)]
    refine bs_d (fun e => ?_) (fun e => ?_)
    · rw [if_pos e]; exact ⟨rfl, rfl⟩
    · rw [if_neg e]
      exact ⟨(0, left - n), rfl, rfl, rfl, rfl, ⟨Nat.zero_le _, by dsimp only; omega, by dsimp only; omega, rfl⟩, fun j hj => ⟨by rw [hj], rfl⟩, fun _ _ h => h⟩

theorem toGroup_spec (h : AHeap) (x : groupSh.T) (hw : h.wf) :
    ∃ v h', ACall Try.prog 181 [.agg #[.string x.1, .int .i64 x.2]] h v h' ∧ h.Le h' ∧ h'.wf ∧ ∃ ids, v = .agg #[.string x.1, .int .i64 x.2] ∧ groupSh.ro h' x [.string x.1, .int .i64 x.2] ids ∧ Fresh h.n h'.n ids := by
  obtain ⟨x1, x2⟩ := x
  try dsimp only at *
  refine acall_q fun Q HQ => ?_
  refine acall_vc (fun _ => false) (fun _ => []) (fun _ => .none) mixed Try.func181 rfl rfl rfl (Nat.le_of_ble_eq_true rfl) (by refine vc_mp (by kernel_rfl : (True ∧ True ∧ True ∧ True ∧ True ∧ True) = _) ?_; simp only [and_self]) ?_
  refine vc_mp (by kernel_rfl : (Q (Value.agg (Array.mk [Value.string x1, Value.int IntKind.i64 x2])) h) = _) ?_
  exact HQ _ _ ⟨.refl _, hw, [], rfl, (ro_group (x := (x1, x2))).2 ⟨rfl, rfl⟩, .nil⟩

theorem toGroupS_spec (h : AHeap) (a : Option Addr) (n c : Nat) (xs : List groupSh.T) (hw : h.wf) (hx : Sl h groupSh xs (.slice a n c)) (ok : (Sh.sl groupSh).small xs) :
    ∃ v h', ACall Try.prog 174 [.slice a n c] h v h' ∧ h.Le h' ∧ h'.wf ∧ ∃ ids, v = .slice (some ⟨h.n, 0, some 2⟩) n (n + 1) ∧ So h' groupSh xs (.slice (some ⟨h.n, 0, some 2⟩) n (n + 1)) ids ∧ Fresh h.n h'.n ids := by
  have en := hx.len
  have ok1 : xs.length ≤ 1048576 := ok.1
  refine acall_vc (fun _ => false) (fun _ => []) (fun _ => toL groupSh [.string ⟨#[]⟩, .int .i64 0] a n c h xs) mixed Try.func174 rfl rfl rfl (Nat.le_of_ble_eq_true rfl) ?_ ?_
  · refine vc_mp (by kernel_rfl : (True ∧ True ∧ (True ∧ (∀ (i : Nat × AHeap × List (List Value) × List (List Nat)), ToI groupSh [Value.string (ByteArray.mk (Array.mk [])), Value.int IntKind.i64 (0 : Int)] n h xs (Prod.fst i) (Prod.fst (Prod.snd i)) (Prod.fst (Prod.snd (Prod.snd i))) (Prod.snd (Prod.snd (Prod.snd i))) → bs (decide ((↑(Prod.fst i) : Int) < (↑n : Int))) (∃ (l : Nat), ∃ (r : Nat), a = some (Addr.mk l r (some (2 : Nat))) ∧ (0 : Int) ≤ (↑(Prod.fst i) : Int) ∧ (↑(Prod.fst i) : Int) < (↑n : Int) ∧ ∃ (x : ByteArray), ∃ (x_1 : Int), AHeap.ld (Prod.fst (Prod.snd i)) l (r + Int.toNat (↑(Prod.fst i) : Int)) (0 : Nat) (2 : Nat) = some [Value.string x, Value.int IntKind.i64 x_1] ∧ ∃ (x_2 : ByteArray), ∃ (x_3 : Int), ∃ (h' : AHeap), ACall Try.prog (181 : Nat) [Value.agg (Array.mk [Value.string x, Value.int IntKind.i64 x_1])] (Prod.fst (Prod.snd i)) (Value.agg (Array.mk [Value.string x_2, Value.int IntKind.i64 x_3])) h' ∧ ∃ (l : Nat), ∃ (r : Nat), some (Addr.mk (AHeap.n h) (0 : Nat) (some (Sh.cells groupSh))) = some (Addr.mk l r (some (2 : Nat))) ∧ (0 : Int) ≤ (↑(Prod.fst i) : Int) ∧ (↑(Prod.fst i) : Int) < (↑n : Int) ∧ ∃ (h'_1 : AHeap), AHeap.wr h' l (r + Int.toNat (↑(Prod.fst i) : Int)) (0 : Nat) [Value.string x_2, Value.int IntKind.i64 x_3] = some h'_1 ∧ ∃ (j : Nat × AHeap × List (List Value) × List (List Nat)), Value.slice a n c = Value.slice a n c ∧ Value.slice (some (Addr.mk (AHeap.n h) (0 : Nat) (some (Sh.cells groupSh)))) n (n + (1 : Nat)) = Value.slice (some (Addr.mk (AHeap.n h) (0 : Nat) (some (Sh.cells groupSh)))) n (n + (1 : Nat)) ∧ Value.int IntKind.i64 (IntKind.wrap IntKind.i64 ((↑(Prod.fst i) : Int) + (1 : Int))) = Value.int IntKind.i64 (↑(Prod.fst j) : Int) ∧ Prod.fst (Prod.snd j) = h'_1 ∧ ToI groupSh [Value.string (ByteArray.mk (Array.mk [])), Value.int IntKind.i64 (0 : Int)] n h xs (Prod.fst j) (Prod.fst (Prod.snd j)) (Prod.fst (Prod.snd (Prod.snd j))) (Prod.snd (Prod.snd (Prod.snd j))) ∧ n - Prod.fst j < n - Prod.fst i ∧ (∀ (k : AHeap × List (List Value) × List (List Nat)), ToI groupSh [Value.string (ByteArray.mk (Array.mk [])), Value.int IntKind.i64 (0 : Int)] n h xs n (Prod.fst k) (Prod.fst (Prod.snd k)) (Prod.snd (Prod.snd k)) → ToI groupSh [Value.string (ByteArray.mk (Array.mk [])), Value.int IntKind.i64 (0 : Int)] n h xs n (Prod.fst k) (Prod.fst (Prod.snd k)) (Prod.snd (Prod.snd k))) ∧ ∀ (v : Value) (h : AHeap), False → False) (∃ (j : AHeap × List (List Value) × List (List Nat)), Value.slice (some (Addr.mk (AHeap.n h) (0 : Nat) (some (Sh.cells groupSh)))) n (n + (1 : Nat)) = Value.slice (some (Addr.mk (AHeap.n h) (0 : Nat) (some (Sh.cells groupSh)))) n (n + (1 : Nat)) ∧ Prod.fst j = Prod.fst (Prod.snd i) ∧ ToI groupSh [Value.string (ByteArray.mk (Array.mk [])), Value.int IntKind.i64 (0 : Int)] n h xs n (Prod.fst j) (Prod.fst (Prod.snd j)) (Prod.snd (Prod.snd j)))) ∧ (True ∧ True ∧ True) ∧ True ∧ True) ∧ True ∧ True) = _) ?_
    simp only [true_and, and_true]
    rintro ⟨i, h1, rows, idss⟩ I
    dsimp only at *
    refine bs_d (fun hlt => ?_) (fun hge => ?_)
    · have hio : i < xs.length := by omega
      obtain ⟨l, r, row, ha, _, hrd, hld⟩ := (hx.mono I.le).elem (List.getElem?_eq_getElem hio)
      obtain rfl := rd_group.1 hrd
      obtain ⟨v, h2, hA, hle, hw2, ids, rfl, hro, hf⟩ := toGroup_spec h1 xs[i]   I.wf
      obtain ⟨h3, e3, I3⟩ := I.step (by omega) (List.getElem?_eq_getElem hio) hle hw2 hro hf
      refine ⟨l, r, ha, Int.natCast_nonneg _, hlt, _, _, hld, _, _, _, hA, h.n, 0, rfl, Int.natCast_nonneg _, hlt, h3, e3, (i + 1, h3, _, _), by rw [wrap_i64 (by omega)] <;> rfl, rfl, I3, by dsimp only; omega, fun _ h => h, fun _ _ h => h⟩
    · have hi := I.hi
      have e : i = n := by omega
      subst e
      exact ⟨(h1, rows, idss), rfl, I⟩
  · refine vc_mp (by kernel_rfl : ((0 : Int) ≤ (↑n : Int) ∧ (↑n : Int) ≤ (↑n : Int) ∧ (↑n : Int) * (↑(24 : Nat) : Int) ≤ (140737488355328 : Int) ∧ ∃ (i : Nat × AHeap × List (List Value) × List (List Nat)), Value.slice a n c = Value.slice a n c ∧ Value.slice (some (Addr.mk (AHeap.n h) (0 : Nat) (some (2 : Nat)))) (Int.toNat (↑n : Int)) (Int.toNat (↑n : Int) + (1 : Nat)) = Value.slice (some (Addr.mk (AHeap.n h) (0 : Nat) (some (Sh.cells groupSh)))) n (n + (1 : Nat)) ∧ Value.int IntKind.i64 (0 : Int) = Value.int IntKind.i64 (↑(Prod.fst i) : Int) ∧ Prod.fst (Prod.snd i) = AHeap.push h (AObj.mk (List.replicate (Int.toNat (↑n : Int)) [Value.string (ByteArray.mk (Array.mk [])), Value.int IntKind.i64 (Int.ofNat (0 : Nat))]) (2 : Nat) true) ∧ ToI groupSh [Value.string (ByteArray.mk (Array.mk [])), Value.int IntKind.i64 (0 : Int)] n h xs (Prod.fst i) (Prod.fst (Prod.snd i)) (Prod.fst (Prod.snd (Prod.snd i))) (Prod.snd (Prod.snd (Prod.snd i))) ∧ (∀ (j : AHeap × List (List Value) × List (List Nat)), ToI groupSh [Value.string (ByteArray.mk (Array.mk [])), Value.int IntKind.i64 (0 : Int)] n h xs n (Prod.fst j) (Prod.fst (Prod.snd j)) (Prod.snd (Prod.snd j)) → AHeap.Le h (Prod.fst j) ∧ AHeap.wf (Prod.fst j) ∧ ∃ (ids : List Nat), Value.slice (some (Addr.mk (AHeap.n h) (0 : Nat) (some (Sh.cells groupSh)))) n (n + (1 : Nat)) = Value.slice (some (Addr.mk (AHeap.n h) (0 : Nat) (some (2 : Nat)))) n (n + (1 : Nat)) ∧ So (Prod.fst j) groupSh xs (Value.slice (some (Addr.mk (AHeap.n h) (0 : Nat) (some (2 : Nat)))) n (n + (1 : Nat))) ids ∧ Fresh (AHeap.n h) (AHeap.n (Prod.fst j)) ids) ∧ ∀ (v : Value) (h_1 : AHeap), False → AHeap.Le h h_1 ∧ AHeap.wf h_1 ∧ ∃ (ids : List Nat), v = Value.slice (some (Addr.mk (AHeap.n h) (0 : Nat) (some (2 : Nat)))) n (n + (1 : Nat)) ∧ So h_1 groupSh xs (Value.slice (some (Addr.mk (AHeap.n h) (0 : Nat) (some (2 : Nat)))) n (n + (1 : Nat))) ids ∧ Fresh (AHeap.n h) (AHeap.n h_1) ids) = _) ?_
    refine ⟨Int.natCast_nonneg _, Int.le_refl _, by omega, (0, _, _, _), rfl, rfl, rfl, rfl, ToI.start hw rfl, ?_, fun _ _ h => h.elim⟩
    rintro ⟨h1, rows, idss⟩ I
    obtain ⟨ids, h2, h3⟩ := ToI.finish I en (n + 1)
    exact ⟨I.le, I.wf, ids, rfl, h2, h3⟩

theorem eqGroup_spec (h : AHeap) (x y : groupSh.T) :
    ACall Try.prog 183 [.agg #[.string x.1, .int .i64 x.2], .agg #[.string y.1, .int .i64 y.2]] h (.bool (eqb x y)) h := by
  obtain ⟨x1, x2⟩ := x
  obtain ⟨y1, y2⟩ := y
  try dsimp only at *
  refine acall_out (acall_vc (fun _ => false) (fun _ => []) (fun _ => .none) mixed Try.func183 rfl rfl rfl (Nat.le_of_ble_eq_true rfl) (by refine vc_mp (by kernel_rfl : (True ∧ (True ∧ (True ∧ True) ∧ True) ∧ (True ∧ (True ∧ True) ∧ True) ∧ True ∧ True) = _) ?_; simp only [and_self]) ?_)
  refine vc_mp (by kernel_rfl : (bs (!decide (x1 = y1)) (Value.bool false = Value.bool (eqb (x1, x2) (y1, y2)) ∧ h = h) (bs (!decide (x2 = y2)) (Value.bool false = Value.bool (eqb (x1, x2) (y1, y2)) ∧ h = h) (Value.bool true = Value.bool (eqb (x1, x2) (y1, y2)) ∧ h = h))) = _) ?_
  refine bs_dn (fun e => ⟨congrArg _ (eqb_false fun e' => e (by cases e'; rfl)), rfl⟩) (fun e1 => ?_)
  refine bs_dn (fun e => ⟨congrArg _ (eqb_false fun e' => e (by cases e'; rfl)), rfl⟩) (fun e2 => ?_)
  exact ⟨congrArg _ (eqb_true (Prod.ext e1 e2)), rfl⟩

theorem eqGroupS_spec (h : AHeap) (a : Option Addr) (n c : Nat) (a' : Option Addr) (n' c' : Nat) (xs ys : List groupSh.T) (hx : Sl h groupSh xs (.slice a n c)) (hy : Sl h groupSh ys (.slice a' n' c')) (ok : xs.length ≤ 9223372036854775807) :
    ACall Try.prog 177 [.slice a n c, .slice a' n' c'] h (.bool (eqb xs ys)) h := by
  have en := hx.len
  have en' := hy.len
  have hn : xs.length ≤ 9223372036854775807 := ok
  refine acall_out (acall_vc (fun _ => false) (fun _ => [(0, 0, []), (1, 0, []), (2, 0, []), (4, 0, []), (5, 0, []), (6, 0, []), (3, 1, []), (7, 1, []), (8, 3, []), (9, 0, [])]) (fun _ => eqLp h a n c a' n' c' xs ys) mixed Try.func177 rfl rfl rfl (Nat.le_of_ble_eq_true rfl) ?_ ?_)
  · refine vc_mp (by kernel_rfl : (True ∧ (True ∧ (True ∧ True) ∧ True) ∧ (True ∧ (∀ (i : Nat), EqI xs ys i → bs (decide ((↑i : Int) < (↑n : Int))) (∃ (l : Nat), ∃ (r : Nat), a = some (Addr.mk l r (some (2 : Nat))) ∧ (0 : Int) ≤ (↑i : Int) ∧ (↑i : Int) < (↑n : Int) ∧ ∃ (l_1 : Nat), ∃ (r_1 : Nat), a' = some (Addr.mk l_1 r_1 (some (2 : Nat))) ∧ (0 : Int) ≤ (↑i : Int) ∧ (↑i : Int) < (↑n' : Int) ∧ ∃ (x : ByteArray), ∃ (x_1 : Int), AHeap.ld h l (r + Int.toNat (↑i : Int)) (0 : Nat) (2 : Nat) = some [Value.string x, Value.int IntKind.i64 x_1] ∧ ∃ (x_2 : ByteArray), ∃ (x_3 : Int), AHeap.ld h l_1 (r_1 + Int.toNat (↑i : Int)) (0 : Nat) (2 : Nat) = some [Value.string x_2, Value.int IntKind.i64 x_3] ∧ ∃ (x_4 : Bool), ∃ (h' : AHeap), ACall Try.prog (183 : Nat) [Value.agg (Array.mk [Value.string x, Value.int IntKind.i64 x_1]), Value.agg (Array.mk [Value.string x_2, Value.int IntKind.i64 x_3])] h (Value.bool x_4) h' ∧ bs (!x_4) (Value.bool false = Value.bool (eqb xs ys) ∧ h' = h) (∃ (j : Nat), Value.slice a n c = Value.slice a n c ∧ Value.slice a' n' c' = Value.slice a' n' c' ∧ Value.int IntKind.i64 (IntKind.wrap IntKind.i64 ((↑i : Int) + (1 : Int))) = Value.int IntKind.i64 (↑j : Int) ∧ h = h' ∧ EqI xs ys j ∧ List.length xs - j < List.length xs - i ∧ (∀ (k : Unit), xs = ys → xs = ys) ∧ ∀ (v : Value) (h_1 : AHeap), v = Value.bool (eqb xs ys) ∧ h_1 = h → v = Value.bool (eqb xs ys) ∧ h_1 = h)) (∃ (j : Unit), h = h ∧ xs = ys)) ∧ (True ∧ True ∧ True) ∧ (True ∧ (True ∧ True) ∧ True) ∧ True) ∧ True ∧ True) = _) ?_
    simp only [true_and, and_true]
    rintro (i : Nat) I
    have hl := I.len
    have hi := I.hi
    refine bs_d (fun hlt => ?_) (fun hge => ?_)
    · have hxi : i < xs.length := by omega
      have hyi : i < ys.length := by omega
      obtain ⟨l, r, row, ha, hin, hrd, hld⟩ := hx.elem (List.getElem?_eq_getElem hxi)
      obtain ⟨l', r', row', ha', hin', hrd', hld'⟩ := hy.elem (List.getElem?_eq_getElem hyi)
      obtain rfl := rd_group.1 hrd
      obtain rfl := rd_group.1 hrd'
      refine ⟨l, r, ha, Int.natCast_nonneg _, hlt, l', r', ha', Int.natCast_nonneg _, by omega, _, _, hld, _, _, hld', _, _, eqGroup_spec h xs[i] ys[i], bs_nb (fun hb => ?_) (fun hb => ?_)⟩
      · exact ⟨congrArg _ (eqb_false fun e => of_eqb_false hb (by subst e; rfl)), rfl⟩
      · exact ⟨i + 1, by rw [wrap_i64 (by omega)] <;> rfl, rfl, I.step hxi hyi (of_eqb hb), by omega, fun _ h => h, fun _ _ h => h⟩
    · have e : i = xs.length := by omega
      subst e
      exact ⟨(), I.all⟩
  · refine vc_mp (by kernel_rfl : (bs (!decide ((↑n : Int) = (↑n' : Int))) (Value.bool false = Value.bool (eqb xs ys) ∧ h = h) (∃ (i : Nat), Value.slice a n c = Value.slice a n c ∧ Value.slice a' n' c' = Value.slice a' n' c' ∧ Value.int IntKind.i64 (0 : Int) = Value.int IntKind.i64 (↑i : Int) ∧ h = h ∧ EqI xs ys i ∧ (∀ (j : Unit), xs = ys → Value.bool true = Value.bool (eqb xs ys) ∧ h = h) ∧ ∀ (v : Value) (h_1 : AHeap), v = Value.bool (eqb xs ys) ∧ h_1 = h → v = Value.bool (eqb xs ys) ∧ h_1 = h)) = _) ?_
    refine bs_dn (fun hne => ⟨congrArg _ (eqb_false fun e => hne (by rw [← en, ← en', e])), rfl⟩) (fun he => ?_)
    exact ⟨(0 : Nat), rfl, rfl, rfl, rfl, ⟨by omega, Nat.zero_le _, rfl⟩, fun j e => ⟨congrArg _ (eqb_true e), rfl⟩, fun _ _ h => h⟩

theorem szTopic_spec (h : AHeap) (x : topicSh.T) (left : Int) (v1 : Value) (v2 : Value) (h1 : Sl h Sh.str x.2.2.1 v1) (h2 : Sl h groupSh x.2.2.2 v2) (hl : 0 ≤ left ∧ left ≤ 1048576) (ok : topicSh.ok x) :
    ACall Try.prog 162 [.agg #[.string x.1, .int .i64 x.2.1, v1, v2], .int .i64 left] h (.int .i64 (topicSh.sz x left)) h := by
  obtain ⟨x1, x2, x3, x4⟩ := x
  try dsimp only at *
  obtain ⟨a1, c1, rfl⟩ := h1.isSlice
  obtain ⟨a2, c2, rfl⟩ := h2.isSlice
  refine acall_out (acall_vc (fun _ => false) (fun _ => []) (fun _ => .none) mixed Try.func162 rfl rfl rfl (Nat.le_of_ble_eq_true rfl) (by refine vc_mp (by kernel_rfl : (True ∧ True ∧ (True ∧ (True ∧ True) ∧ True) ∧ True ∧ (True ∧ (True ∧ True) ∧ True) ∧ True ∧ (True ∧ (True ∧ True) ∧ True) ∧ True ∧ True) = _) ?_; simp only [and_self]) ?_)
  refine vc_mp (by kernel_rfl : (bs (decide (IntKind.wrap IntKind.i64 (left - (↑(ByteArray.size x1) : Int)) < (0 : Int))) (Value.int IntKind.i64 (-1 : Int) = Value.int IntKind.i64 (Sh.sz topicSh (x1, x2, x3, x4) left) ∧ h = h) (∃ (x : Int), ∃ (h' : AHeap), ACall Try.prog (36 : Nat) [Value.slice a1 (List.length x3) c1, Value.int IntKind.i64 (IntKind.wrap IntKind.i64 (left - (↑(ByteArray.size x1) : Int)))] h (Value.int IntKind.i64 x) h' ∧ bs (decide (x < (0 : Int))) (Value.int IntKind.i64 (-1 : Int) = Value.int IntKind.i64 (Sh.sz topicSh (x1, x2, x3, x4) left) ∧ h' = h) (∃ (x_1 : Int), ∃ (h'_1 : AHeap), ACall Try.prog (173 : Nat) [Value.slice a2 (List.length x4) c2, Value.int IntKind.i64 x] h' (Value.int IntKind.i64 x_1) h'_1 ∧ bs (decide (x_1 < (0 : Int))) (Value.int IntKind.i64 (-1 : Int) = Value.int IntKind.i64 (Sh.sz topicSh (x1, x2, x3, x4) left) ∧ h'_1 = h) (Value.int IntKind.i64 x_1 = Value.int IntKind.i64 (Sh.sz topicSh (x1, x2, x3, x4) left) ∧ h'_1 = h)))) = _) ?_
  have o1 : (x1 : ByteArray).size ≤ 9223372036854775807 := ok.1
  rw [wrap_i64 (by omega)]
  refine bs_d (fun e1 => by refine ⟨congrArg _ (Eq.symm ?_), rfl⟩; exact sz_stop (neg1 (sz_strn e1))) (fun e1 => ?_)
  have b2 := (Sh.sl Sh.str).sz_le x3 (left - ((x1 : ByteArray).size : Int)) (by omega)
  refine ⟨_, _, szStringS_spec h a1 _ c1 _ (left - ((x1 : ByteArray).size : Int)) h1 (by omega) ok.2.2.1, bs_d (fun e2 => by refine ⟨congrArg _ (Eq.symm ?_), rfl⟩; exact sz_step (sz_str e1) (Int.not_lt.1 e1) (sz_step rfl (Int.not_lt.1 e1) (sz_stop e2))) (fun e2 => ?_)⟩
  have b3 := (Sh.sl groupSh).sz_le x4 ((Sh.sl Sh.str).sz x3 (left - ((x1 : ByteArray).size : Int))) (by omega)
  refine ⟨_, _, szGroupS_spec h a2 _ c2 _ ((Sh.sl Sh.str).sz x3 (left - ((x1 : ByteArray).size : Int))) h2 (by omega) ok.2.2.2, bs_d (fun e3 => by refine ⟨congrArg _ (Eq.symm ?_), rfl⟩; exact sz_step (sz_str e1) (Int.not_lt.1 e1) (sz_step rfl (Int.not_lt.1 e1) (sz_step rfl (Int.not_lt.1 e2) (sz_neg (Int.not_lt.1 e2) e3)))) (fun e3 => ?_)⟩
  refine ⟨congrArg _ (Eq.symm ?_), rfl⟩
  exact sz_step (sz_str e1) (Int.not_lt.1 e1) (sz_step rfl (Int.not_lt.1 e1) (sz_step rfl (Int.not_lt.1 e2) (rfl)))

theorem szTopicS_spec (h : AHeap) (a : Option Addr) (n c : Nat) (xs : List topicSh.T) (left : Int) (hx : Sl h topicSh xs (.slice a n c)) (hl : 0 ≤ left ∧ left ≤ 1048576) (ok : (Sh.sl topicSh).ok xs) :
    ACall Try.prog 139 [.slice a n c, .int .i64 left] h (.int .i64 ((Sh.sl topicSh).sz xs left)) h := by
  have en := hx.len
  have ok1 : xs.length ≤ 9223372036854775807 := ok.1
  have key : (Sh.sl topicSh).sz xs left = (if left - (xs.length : Int) < 0 then -1 else szL topicSh.sz xs (left - (xs.length : Int))) := rfl
  rw [key, en]
  refine acall_out (acall_vc (fun _ => false) (fun _ => []) (fun _ => szLp topicSh a n c h xs (szL topicSh.sz xs (left - n))) mixed Try.func139 rfl rfl rfl (Nat.le_of_ble_eq_true rfl) ?_ ?_)
  · refine vc_mp (by kernel_rfl : (True ∧ True ∧ (True ∧ (True ∧ True) ∧ True) ∧ (True ∧ (∀ (i : Nat × Int), Prod.fst i ≤ n ∧ (0 : Int) ≤ Prod.snd i ∧ Prod.snd i ≤ (1048576 : Int) ∧ szL (Sh.sz topicSh) (List.drop (Prod.fst i) xs) (Prod.snd i) = szL (Sh.sz topicSh) xs (left - (↑n : Int)) → bs (decide ((↑(Prod.fst i) : Int) < (↑n : Int))) (∃ (l : Nat), ∃ (r : Nat), a = some (Addr.mk l r (some (4 : Nat))) ∧ (0 : Int) ≤ (↑(Prod.fst i) : Int) ∧ (↑(Prod.fst i) : Int) < (↑n : Int) ∧ ∃ (x : ByteArray), ∃ (x_1 : Int), ∃ (a_2 : Option Addr), ∃ (n_1 : Nat), ∃ (c_1 : Nat), ∃ (a_3 : Option Addr), ∃ (n_2 : Nat), ∃ (c_2 : Nat), AHeap.ld h l (r + Int.toNat (↑(Prod.fst i) : Int)) (0 : Nat) (4 : Nat) = some [Value.string x, Value.int IntKind.i64 x_1, Value.slice a_2 n_1 c_1, Value.slice a_3 n_2 c_2] ∧ ∃ (x_2 : Int), ∃ (h' : AHeap), ACall Try.prog (162 : Nat) [Value.agg (Array.mk [Value.string x, Value.int IntKind.i64 x_1, Value.slice a_2 n_1 c_1, Value.slice a_3 n_2 c_2]), Value.int IntKind.i64 (Prod.snd i)] h (Value.int IntKind.i64 x_2) h' ∧ bs (decide (x_2 < (0 : Int))) (Value.int IntKind.i64 (-1 : Int) = Value.int IntKind.i64 (szL (Sh.sz topicSh) xs (left - (↑n : Int))) ∧ h' = h) (∃ (j : Nat × Int), Value.slice a n c = Value.slice a n c ∧ Value.int IntKind.i64 x_2 = Value.int IntKind.i64 (Prod.snd j) ∧ Value.int IntKind.i64 (IntKind.wrap IntKind.i64 ((↑(Prod.fst i) : Int) + (1 : Int))) = Value.int IntKind.i64 (↑(Prod.fst j) : Int) ∧ h = h' ∧ (Prod.fst j ≤ n ∧ (0 : Int) ≤ Prod.snd j ∧ Prod.snd j ≤ (1048576 : Int) ∧ szL (Sh.sz topicSh) (List.drop (Prod.fst j) xs) (Prod.snd j) = szL (Sh.sz topicSh) xs (left - (↑n : Int))) ∧ n - Prod.fst j < n - Prod.fst i ∧ (∀ (k : Int), k = szL (Sh.sz topicSh) xs (left - (↑n : Int)) → k = szL (Sh.sz topicSh) xs (left - (↑n : Int))) ∧ ∀ (v : Value) (h_1 : AHeap), v = Value.int IntKind.i64 (szL (Sh.sz topicSh) xs (left - (↑n : Int))) ∧ h_1 = h → v = Value.int IntKind.i64 (szL (Sh.sz topicSh) xs (left - (↑n : Int))) ∧ h_1 = h)) (∃ (j : Int), Value.int IntKind.i64 (Prod.snd i) = Value.int IntKind.i64 j ∧ h = h ∧ j = szL (Sh.sz topicSh) xs (left - (↑n : Int)))) ∧ (True ∧ True ∧ True) ∧ (True ∧ True ∧ (True ∧ True) ∧ True) ∧ True) ∧ True ∧ True) = _) ?_
    simp only [true_and, and_true]
    rintro ⟨i, x⟩ ⟨hi, h0, h1, he⟩
    dsimp only at *
    refine bs_d (fun hlt => ?_) (fun hge => ?_)
    · have hio : i < xs.length := by omega
      obtain ⟨l, r, row, ha, _, hrd, hld⟩ := hx.elem (List.getElem?_eq_getElem hio)
      have hoi := ok.2 xs[i] (List.getElem_mem hio)
      obtain ⟨v1, v2, rfl, k1, k2⟩ := rd_topic.1 hrd
      rw [List.drop_eq_getElem_cons hio] at he
      have he : (if topicSh.sz xs[i] x < 0 then -1 else szL topicSh.sz (xs.drop (i + 1)) (topicSh.sz xs[i] x)) = szL topicSh.sz xs (left - n) := he
      have b1 := topicSh.sz_le xs[i] x h0
      obtain ⟨a1, c1, rfl⟩ := k1.isSlice
      obtain ⟨a2, c2, rfl⟩ := k2.isSlice
      refine ⟨l, r, ha, Int.natCast_nonneg _, hlt, _, _, _, _, _, _, _, _, hld, topicSh.sz xs[i] x, h, szTopic_spec h xs[i] x _ _ k1 k2 ⟨h0, h1⟩ hoi, bs_d (fun hneg => ?_) (fun hpos => ?_)⟩
      · rw [if_pos hneg] at he; rw [← he]; exact ⟨rfl, rfl⟩
      · rw [if_neg hpos] at he
        exact ⟨(i + 1, topicSh.sz xs[i] x), rfl, by rw [wrap_i64 (by omega)] <;> rfl, rfl, ⟨by dsimp only; omega, by dsimp only; omega, by dsimp only; omega, he⟩, by dsimp only; omega, fun _ h => h, fun _ _ h => h⟩
    · have e : i = xs.length := by omega
      subst e
      rw [List.drop_length] at he
      exact ⟨x, rfl, he⟩
  · refine vc_mp (by kernel_rfl : (bs (decide (IntKind.wrap IntKind.i64 (left - (↑n : Int)) < (0 : Int))) (Value.int IntKind.i64 (-1 : Int) = Value.int IntKind.i64 (if left - (↑n : Int) < (0 : Int) then (-1 : Int) else szL (Sh.sz topicSh) xs (left - (↑n : Int))) ∧ h = h) (∃ (i : Nat × Int), Value.slice a n c = Value.slice a n c ∧ Value.int IntKind.i64 (IntKind.wrap IntKind.i64 (left - (↑n : Int))) = Value.int IntKind.i64 (Prod.snd i) ∧ Value.int IntKind.i64 (0 : Int) = Value.int IntKind.i64 (↑(Prod.fst i) : Int) ∧ h = h ∧ (Prod.fst i ≤ n ∧ (0 : Int) ≤ Prod.snd i ∧ Prod.snd i ≤ (1048576 : Int) ∧ szL (Sh.sz topicSh) (List.drop (Prod.fst i) xs) (Prod.snd i) = szL (Sh.sz topicSh) xs (left - (↑n : Int))) ∧ (∀ (j : Int), j = szL (Sh.sz topicSh) xs (left - (↑n : Int)) → Value.int IntKind.i64 j = Value.int IntKind.i64 (if left - (↑n : Int) < (0 : Int) then (-1 : Int) else szL (Sh.sz topicSh) xs (left - (↑n : Int))) ∧ h = h) ∧ ∀ (v : Value) (h_1 : AHeap), v = Value.int IntKind.i64 (szL (Sh.sz topicSh) xs (left - (↑n : Int))) ∧ h_1 = h → v = Value.int IntKind.i64 (if left - (↑n : Int) < (0 : Int) then (-1 : Int) else szL (Sh.sz topicSh) xs (left - (↑n : Int))) ∧ h_1 = h)) = _) ?_
    rw [wrap_i64 (by omega)]
    refine bs_d (fun e => ?_) (fun e => ?_)
    · rw [if_pos e]; exact ⟨rfl, rfl⟩
    · rw [if_neg e]
      exact ⟨(0, left - n), rfl, rfl, rfl, rfl, ⟨Nat.zero_le _, by dsimp only; omega, by dsimp only; omega, rfl⟩, fun j hj => ⟨by rw [hj], rfl⟩, fun _ _ h => h⟩

theorem toTopic_spec (h : AHeap) (x : topicSh.T) (v1 : Value) (v2 : Value) (h1 : Sl h Sh.str x.2.2.1 v1) (h2 : Sl h groupSh x.2.2.2 v2) (hw : h.wf) (ok : topicSh.small x) :
    ∃ v h', ACall Try.prog 164 [.agg #[.string x.1, .int .i64 x.2.1, v1, v2]] h v h' ∧ h.Le h' ∧ h'.wf ∧ ∃ w1 w2 ids, v = .agg #[.string x.1, .int .i64 x.2.1, w1, w2] ∧ topicSh.ro h' x [.string x.1, .int .i64 x.2.1, w1, w2] ids ∧ Fresh h.n h'.n ids := by
  obtain ⟨x1, x2, x3, x4⟩ := x
  try dsimp only at *
  obtain ⟨a1, c1, rfl⟩ := h1.isSlice
  obtain ⟨a2, c2, rfl⟩ := h2.isSlice
  refine acall_q fun Q HQ => ?_
  refine acall_vc (fun _ => false) (fun _ => []) (fun _ => .none) mixed Try.func164 rfl rfl rfl (Nat.le_of_ble_eq_true rfl) (by refine vc_mp (by kernel_rfl : (True ∧ True ∧ True ∧ True ∧ True ∧ True ∧ True ∧ True) = _) ?_; simp only [and_self]) ?_
  refine vc_mp (by kernel_rfl : (∃ (a : Option Addr), ∃ (n : Nat), ∃ (c : Nat), ∃ (h' : AHeap), ACall Try.prog (38 : Nat) [Value.slice a1 (List.length x3) c1] h (Value.slice a n c) h' ∧ ∃ (a_1 : Option Addr), ∃ (n_1 : Nat), ∃ (c_1 : Nat), ∃ (h'_1 : AHeap), ACall Try.prog (174 : Nat) [Value.slice a2 (List.length x4) c2] h' (Value.slice a_1 n_1 c_1) h'_1 ∧ Q (Value.agg (Array.mk [Value.string x1, Value.int IntKind.i64 x2, Value.slice a n c, Value.slice a_1 n_1 c_1])) h'_1) = _) ?_
  obtain ⟨u1, g1, A1, l1, W1, ids1, rfl, r1, f1⟩ := toStringS_spec h a1 _ c1 _ hw h1 ok.2.2.1
  have L1 : h.Le g1 := l1
  obtain ⟨u2, g2, A2, l2, W2, ids2, rfl, r2, f2⟩ := toGroupS_spec g1 a2 _ c2 _ W1 (h2.mono L1) ok.2.2.2
  have L2 : h.Le g2 := L1.trans l2
  refine ⟨_, _, _, _, A1, _, _, _, _, A2, HQ _ _ ⟨L2, W2, _, _, [] ++ ([] ++ (ids1 ++ (ids2))), rfl, ?_, ?_⟩⟩
  · exact ⟨[_], _, [], _, rfl, rfl, ⟨rfl, rfl⟩, [_], _, [], _, rfl, rfl, ⟨rfl, rfl⟩, [_], _, ids1, _, rfl, rfl, ro_sl.2 ⟨_, rfl, r1.le l2⟩, ro_sl.2 ⟨_, rfl, r2⟩⟩
  · exact (show Fresh h.n g2.n (ids1 ++ (ids2)) from .append l1.n l2.n f1 (f2))

theorem toTopicS_spec (h : AHeap) (a : Option Addr) (n c : Nat) (xs : List topicSh.T) (hw : h.wf) (hx : Sl h topicSh xs (.slice a n c)) (ok : (Sh.sl topicSh).small xs) :
    ∃ v h', ACall Try.prog 142 [.slice a n c] h v h' ∧ h.Le h' ∧ h'.wf ∧ ∃ ids, v = .slice (some ⟨h.n, 0, some 4⟩) n (n + 1) ∧ So h' topicSh xs (.slice (some ⟨h.n, 0, some 4⟩) n (n + 1)) ids ∧ Fresh h.n h'.n ids := by
  have en := hx.len
  have ok1 : xs.length ≤ 1048576 := ok.1
  refine acall_vc (fun _ => false) (fun _ => []) (fun _ => toL topicSh [.string ⟨#[]⟩, .int .i64 0, .slice none 0 0, .slice none 0 0] a n c h xs) mixed Try.func142 rfl rfl rfl (Nat.le_of_ble_eq_true rfl) ?_ ?_
  · refine vc_mp (by kernel_rfl : (True ∧ True ∧ (True ∧ (∀ (i : Nat × AHeap × List (List Value) × List (List Nat)), ToI topicSh [Value.string (ByteArray.mk (Array.mk [])), Value.int IntKind.i64 (0 : Int), Value.slice none (0 : Nat) (0 : Nat), Value.slice none (0 : Nat) (0 : Nat)] n h xs (Prod.fst i) (Prod.fst (Prod.snd i)) (Prod.fst (Prod.snd (Prod.snd i))) (Prod.snd (Prod.snd (Prod.snd i))) → bs (decide ((↑(Prod.fst i) : Int) < (↑n : Int))) (∃ (l : Nat), ∃ (r : Nat), a = some (Addr.mk l r (some (4 : Nat))) ∧ (0 : Int) ≤ (↑(Prod.fst i) : Int) ∧ (↑(Prod.fst i) : Int) < (↑n : Int) ∧ ∃ (x : ByteArray), ∃ (x_1 : Int), ∃ (a_2 : Option Addr), ∃ (n_1 : Nat), ∃ (c_1 : Nat), ∃ (a_3 : Option Addr), ∃ (n_2 : Nat), ∃ (c_2 : Nat), AHeap.ld (Prod.fst (Prod.snd i)) l (r + Int.toNat (↑(Prod.fst i) : Int)) (0 : Nat) (4 : Nat) = some [Value.string x, Value.int IntKind.i64 x_1, Value.slice a_2 n_1 c_1, Value.slice a_3 n_2 c_2] ∧ ∃ (x_2 : ByteArray), ∃ (x_3 : Int), ∃ (a_4 : Option Addr), ∃ (n_3 : Nat), ∃ (c_3 : Nat), ∃ (a_5 : Option Addr), ∃ (n_4 : Nat), ∃ (c_4 : Nat), ∃ (h' : AHeap), ACall Try.prog (164 : Nat) [Value.agg (Array.mk [Value.string x, Value.int IntKind.i64 x_1, Value.slice a_2 n_1 c_1, Value.slice a_3 n_2 c_2])] (Prod.fst (Prod.snd i)) (Value.agg (Array.mk [Value.string x_2, Value.int IntKind.i64 x_3, Value.slice a_4 n_3 c_3, Value.slice a_5 n_4 c_4])) h' ∧ ∃ (l : Nat), ∃ (r : Nat), some (Addr.mk (AHeap.n h) (0 : Nat) (some (Sh.cells topicSh))) = some (Addr.mk l r (some (4 : Nat))) ∧ (0 : Int) ≤ (↑(Prod.fst i) : Int) ∧ (↑(Prod.fst i) : Int) < (↑n : Int) ∧ ∃ (h'_1 : AHeap), AHeap.wr h' l (r + Int.toNat (↑(Prod.fst i) : Int)) (0 : Nat) [Value.string x_2, Value.int IntKind.i64 x_3, Value.slice a_4 n_3 c_3, Value.slice a_5 n_4 c_4] = some h'_1 ∧ ∃ (j : Nat × AHeap × List (List Value) × List (List Nat)), Value.slice a n c = Value.slice a n c ∧ Value.slice (some (Addr.mk (AHeap.n h) (0 : Nat) (some (Sh.cells topicSh)))) n (n + (1 : Nat)) = Value.slice (some (Addr.mk (AHeap.n h) (0 : Nat) (some (Sh.cells topicSh)))) n (n + (1 : Nat)) ∧ Value.int IntKind.i64 (IntKind.wrap IntKind.i64 ((↑(Prod.fst i) : Int) + (1 : Int))) = Value.int IntKind.i64 (↑(Prod.fst j) : Int) ∧ Prod.fst (Prod.snd j) = h'_1 ∧ ToI topicSh [Value.string (ByteArray.mk (Array.mk [])), Value.int IntKind.i64 (0 : Int), Value.slice none (0 : Nat) (0 : Nat), Value.slice none (0 : Nat) (0 : Nat)] n h xs (Prod.fst j) (Prod.fst (Prod.snd j)) (Prod.fst (Prod.snd (Prod.snd j))) (Prod.snd (Prod.snd (Prod.snd j))) ∧ n - Prod.fst j < n - Prod.fst i ∧ (∀ (k : AHeap × List (List Value) × List (List Nat)), ToI topicSh [Value.string (ByteArray.mk (Array.mk [])), Value.int IntKind.i64 (0 : Int), Value.slice none (0 : Nat) (0 : Nat), Value.slice none (0 : Nat) (0 : Nat)] n h xs n (Prod.fst k) (Prod.fst (Prod.snd k)) (Prod.snd (Prod.snd k)) → ToI topicSh [Value.string (ByteArray.mk (Array.mk [])), Value.int IntKind.i64 (0 : Int), Value.slice none (0 : Nat) (0 : Nat), Value.slice none (0 : Nat) (0 : Nat)] n h xs n (Prod.fst k) (Prod.fst (Prod.snd k)) (Prod.snd (Prod.snd k))) ∧ ∀ (v : Value) (h : AHeap), False → False) (∃ (j : AHeap × List (List Value) × List (List Nat)), Value.slice (some (Addr.mk (AHeap.n h) (0 : Nat) (some (Sh.cells topicSh)))) n (n + (1 : Nat)) = Value.slice (some (Addr.mk (AHeap.n h) (0 : Nat) (some (Sh.cells topicSh)))) n (n + (1 : Nat)) ∧ Prod.fst j = Prod.fst (Prod.snd i) ∧ ToI topicSh [Value.string (ByteArray.mk (Array.mk [])), Value.int IntKind.i64 (0 : Int), Value.slice none (0 : Nat) (0 : Nat), Value.slice none (0 : Nat) (0 : Nat)] n h xs n (Prod.fst j) (Prod.fst (Prod.snd j)) (Prod.snd (Prod.snd j)))) ∧ (True ∧ True ∧ True) ∧ True ∧ True) ∧ True ∧ True) = _) ?_
    simp only [true_and, and_true]
    rintro ⟨i, h1, rows, idss⟩ I
    dsimp only at *
    refine bs_d (fun hlt => ?_) (fun hge => ?_)
    · have hio : i < xs.length := by omega
      obtain ⟨l, r, row, ha, _, hrd, hld⟩ := (hx.mono I.le).elem (List.getElem?_eq_getElem hio)
      obtain ⟨v1, v2, rfl, k1, k2⟩ := rd_topic.1 hrd
      obtain ⟨a1, c1, rfl⟩ := k1.isSlice
      obtain ⟨a2, c2, rfl⟩ := k2.isSlice
      obtain ⟨v, h2, hA, hle, hw2, w1, w2, ids, rfl, hro, hf⟩ := toTopic_spec h1 xs[i] _ _ k1 k2 I.wf (ok.2 _ (List.getElem_mem hio))
      obtain ⟨z1, z2, ez, q1, q2⟩ := rd_topic.1 hro.rd
      cases ez
      obtain ⟨b1, d1, rfl⟩ := q1.isSlice
      obtain ⟨b2, d2, rfl⟩ := q2.isSlice
      obtain ⟨h3, e3, I3⟩ := I.step (by omega) (List.getElem?_eq_getElem hio) hle hw2 hro hf
      refine ⟨l, r, ha, Int.natCast_nonneg _, hlt, _, _, _, _, _, _, _, _, hld, _, _, _, _, _, _, _, _, _, hA, h.n, 0, rfl, Int.natCast_nonneg _, hlt, h3, e3, (i + 1, h3, _, _), by rw [wrap_i64 (by omega)] <;> rfl, rfl, I3, by dsimp only; omega, fun _ h => h, fun _ _ h => h⟩
    · have hi := I.hi
      have e : i = n := by omega
      subst e
      exact ⟨(h1, rows, idss), rfl, I⟩
  · refine vc_mp (by kernel_rfl : ((0 : Int) ≤ (↑n : Int) ∧ (↑n : Int) ≤ (↑n : Int) ∧ (↑n : Int) * (↑(72 : Nat) : Int) ≤ (140737488355328 : Int) ∧ ∃ (i : Nat × AHeap × List (List Value) × List (List Nat)), Value.slice a n c = Value.slice a n c ∧ Value.slice (some (Addr.mk (AHeap.n h) (0 : Nat) (some (4 : Nat)))) (Int.toNat (↑n : Int)) (Int.toNat (↑n : Int) + (1 : Nat)) = Value.slice (some (Addr.mk (AHeap.n h) (0 : Nat) (some (Sh.cells topicSh)))) n (n + (1 : Nat)) ∧ Value.int IntKind.i64 (0 : Int) = Value.int IntKind.i64 (↑(Prod.fst i) : Int) ∧ Prod.fst (Prod.snd i) = AHeap.push h (AObj.mk (List.replicate (Int.toNat (↑n : Int)) [Value.string (ByteArray.mk (Array.mk [])), Value.int IntKind.i64 (Int.ofNat (0 : Nat)), Value.slice none (0 : Nat) (0 : Nat), Value.slice none (0 : Nat) (0 : Nat)]) (4 : Nat) true) ∧ ToI topicSh [Value.string (ByteArray.mk (Array.mk [])), Value.int IntKind.i64 (0 : Int), Value.slice none (0 : Nat) (0 : Nat), Value.slice none (0 : Nat) (0 : Nat)] n h xs (Prod.fst i) (Prod.fst (Prod.snd i)) (Prod.fst (Prod.snd (Prod.snd i))) (Prod.snd (Prod.snd (Prod.snd i))) ∧ (∀ (j : AHeap × List (List Value) × List (List Nat)), ToI topicSh [Value.string (ByteArray.mk (Array.mk [])), Value.int IntKind.i64 (0 : Int), Value.slice none (0 : Nat) (0 : Nat), Value.slice none (0 : Nat) (0 : Nat)] n h xs n (Prod.fst j) (Prod.fst (Prod.snd j)) (Prod.snd (Prod.snd j)) → AHeap.Le h (Prod.fst j) ∧ AHeap.wf (Prod.fst j) ∧ ∃ (ids : List Nat), Value.slice (some (Addr.mk (AHeap.n h) (0 : Nat) (some (Sh.cells topicSh)))) n (n + (1 : Nat)) = Value.slice (some (Addr.mk (AHeap.n h) (0 : Nat) (some (4 : Nat)))) n (n + (1 : Nat)) ∧ So (Prod.fst j) topicSh xs (Value.slice (some (Addr.mk (AHeap.n h) (0 : Nat) (some (4 : Nat)))) n (n + (1 : Nat))) ids ∧ Fresh (AHeap.n h) (AHeap.n (Prod.fst j)) ids) ∧ ∀ (v : Value) (h_1 : AHeap), False → AHeap.Le h h_1 ∧ AHeap.wf h_1 ∧ ∃ (ids : List Nat), v = Value.slice (some (Addr.mk (AHeap.n h) (0 : Nat) (some (4 : Nat)))) n (n + (1 : Nat)) ∧ So h_1 topicSh xs (Value.slice (some (Addr.mk (AHeap.n h) (0 : Nat) (some (4 : Nat)))) n (n + (1 : Nat))) ids ∧ Fresh (AHeap.n h) (AHeap.n h_1) ids) = _) ?_
    refine ⟨Int.natCast_nonneg _, Int.le_refl _, by omega, (0, _, _, _), rfl, rfl, rfl, rfl, ToI.start hw rfl, ?_, fun _ _ h => h.elim⟩
    rintro ⟨h1, rows, idss⟩ I
    obtain ⟨ids, h2, h3⟩ := ToI.finish I en (n + 1)
    exact ⟨I.le, I.wf, ids, rfl, h2, h3⟩

theorem eqTopic_spec (h : AHeap) (x y : topicSh.T) (v1 : Value) (v2 : Value) (h1 : Sl h Sh.str x.2.2.1 v1) (h2 : Sl h groupSh x.2.2.2 v2) (w1 : Value) (w2 : Value) (j1 : Sl h Sh.str y.2.2.1 w1) (j2 : Sl h groupSh y.2.2.2 w2) (ok : topicSh.ok x) :
    ACall Try.prog 166 [.agg #[.string x.1, .int .i64 x.2.1, v1, v2], .agg #[.string y.1, .int .i64 y.2.1, w1, w2]] h (.bool (eqb x y)) h := by
  obtain ⟨x1, x2, x3, x4⟩ := x
  obtain ⟨y1, y2, y3, y4⟩ := y
  try dsimp only at *
  obtain ⟨a1, c1, rfl⟩ := h1.isSlice
  obtain ⟨a2, c2, rfl⟩ := h2.isSlice
  obtain ⟨ab1, cb1, rfl⟩ := j1.isSlice
  obtain ⟨ab2, cb2, rfl⟩ := j2.isSlice
  refine acall_out (acall_vc (fun _ => false) (fun _ => []) (fun _ => .none) mixed Try.func166 rfl rfl rfl (Nat.le_of_ble_eq_true rfl) (by refine vc_mp (by kernel_rfl : (True ∧ (True ∧ (True ∧ True) ∧ True) ∧ (True ∧ (True ∧ True) ∧ True) ∧ (True ∧ (True ∧ True) ∧ True) ∧ (True ∧ (True ∧ True) ∧ True) ∧ True ∧ True) = _) ?_; simp only [and_self]) ?_)
  refine vc_mp (by kernel_rfl : (bs (!decide (x1 = y1)) (Value.bool false = Value.bool (eqb (x1, x2, x3, x4) (y1, y2, y3, y4)) ∧ h = h) (bs (!decide (x2 = y2)) (Value.bool false = Value.bool (eqb (x1, x2, x3, x4) (y1, y2, y3, y4)) ∧ h = h) (∃ (x : Bool), ∃ (h' : AHeap), ACall Try.prog (17 : Nat) [Value.slice a1 (List.length x3) c1, Value.slice ab1 (List.length y3) cb1] h (Value.bool x) h' ∧ bs (!x) (Value.bool false = Value.bool (eqb (x1, x2, x3, x4) (y1, y2, y3, y4)) ∧ h' = h) (∃ (x : Bool), ∃ (h'_1 : AHeap), ACall Try.prog (177 : Nat) [Value.slice a2 (List.length x4) c2, Value.slice ab2 (List.length y4) cb2] h' (Value.bool x) h'_1 ∧ bs (!x) (Value.bool false = Value.bool (eqb (x1, x2, x3, x4) (y1, y2, y3, y4)) ∧ h'_1 = h) (Value.bool true = Value.bool (eqb (x1, x2, x3, x4) (y1, y2, y3, y4)) ∧ h'_1 = h))))) = _) ?_
  refine bs_dn (fun e => ⟨congrArg _ (eqb_false fun e' => e (by cases e'; rfl)), rfl⟩) (fun e1 => ?_)
  refine bs_dn (fun e => ⟨congrArg _ (eqb_false fun e' => e (by cases e'; rfl)), rfl⟩) (fun e2 => ?_)
  refine ⟨_, _, eqStringS_spec h a1 _ c1 ab1 _ cb1 _ _ h1 j1 ok.2.2.1.1, bs_nb (fun e => ⟨congrArg _ (eqb_false fun e' => of_eqb_false e (by cases e'; rfl)), rfl⟩) (fun e3 => ?_)⟩
  refine ⟨_, _, eqGroupS_spec h a2 _ c2 ab2 _ cb2 _ _ h2 j2 ok.2.2.2.1, bs_nb (fun e => ⟨congrArg _ (eqb_false fun e' => of_eqb_false e (by cases e'; rfl)), rfl⟩) (fun e4 => ?_)⟩
  exact ⟨congrArg _ (eqb_true (Prod.ext e1 (Prod.ext e2 (Prod.ext (of_eqb e3) (of_eqb e4))))), rfl⟩

theorem eqTopicS_spec (h : AHeap) (a : Option Addr) (n c : Nat) (a' : Option Addr) (n' c' : Nat) (xs ys : List topicSh.T) (hx : Sl h topicSh xs (.slice a n c)) (hy : Sl h topicSh ys (.slice a' n' c')) (ok : (Sh.sl topicSh).ok xs) :
    ACall Try.prog 145 [.slice a n c, .slice a' n' c'] h (.bool (eqb xs ys)) h := by
  have en := hx.len
  have en' := hy.len
  have hn : xs.length ≤ 9223372036854775807 := ok.1
  refine acall_out (acall_vc (fun _ => false) (fun _ => [(0, 0, []), (1, 0, []), (2, 0, []), (4, 0, []), (5, 0, []), (6, 0, []), (3, 1, []), (7, 1, []), (8, 3, []), (9, 0, [])]) (fun _ => eqLp h a n c a' n' c' xs ys) mixed Try.func145 rfl rfl rfl (Nat.le_of_ble_eq_true rfl) ?_ ?_)
  · refine vc_mp (by kernel_rfl : (True ∧ (True ∧ (True ∧ True) ∧ True) ∧ (True ∧ (∀ (i : Nat), EqI xs ys i → bs (decide ((↑i : Int) < (↑n : Int))) (∃ (l : Nat), ∃ (r : Nat), a = some (Addr.mk l r (some (4 : Nat))) ∧ (0 : Int) ≤ (↑i : Int) ∧ (↑i : Int) < (↑n : Int) ∧ ∃ (l_1 : Nat), ∃ (r_1 : Nat), a' = some (Addr.mk l_1 r_1 (some (4 : Nat))) ∧ (0 : Int) ≤ (↑i : Int) ∧ (↑i : Int) < (↑n' : Int) ∧ ∃ (x : ByteArray), ∃ (x_1 : Int), ∃ (a_2 : Option Addr), ∃ (n_1 : Nat), ∃ (c_1 : Nat), ∃ (a_3 : Option Addr), ∃ (n_2 : Nat), ∃ (c_2 : Nat), AHeap.ld h l (r + Int.toNat (↑i : Int)) (0 : Nat) (4 : Nat) = some [Value.string x, Value.int IntKind.i64 x_1, Value.slice a_2 n_1 c_1, Value.slice a_3 n_2 c_2] ∧ ∃ (x_2 : ByteArray), ∃ (x_3 : Int), ∃ (a_4 : Option Addr), ∃ (n_3 : Nat), ∃ (c_3 : Nat), ∃ (a_5 : Option Addr), ∃ (n_4 : Nat), ∃ (c_4 : Nat), AHeap.ld h l_1 (r_1 + Int.toNat (↑i : Int)) (0 : Nat) (4 : Nat) = some [Value.string x_2, Value.int IntKind.i64 x_3, Value.slice a_4 n_3 c_3, Value.slice a_5 n_4 c_4] ∧ ∃ (x_4 : Bool), ∃ (h' : AHeap), ACall Try.prog (166 : Nat) [Value.agg (Array.mk [Value.string x, Value.int IntKind.i64 x_1, Value.slice a_2 n_1 c_1, Value.slice a_3 n_2 c_2]), Value.agg (Array.mk [Value.string x_2, Value.int IntKind.i64 x_3, Value.slice a_4 n_3 c_3, Value.slice a_5 n_4 c_4])] h (Value.bool x_4) h' ∧ bs (!x_4) (Value.bool false = Value.bool (eqb xs ys) ∧ h' = h) (∃ (j : Nat), Value.slice a n c = Value.slice a n c ∧ Value.slice a' n' c' = Value.slice a' n' c' ∧ Value.int IntKind.i64 (IntKind.wrap IntKind.i64 ((↑i : Int) + (1 : Int))) = Value.int IntKind.i64 (↑j : Int) ∧ h = h' ∧ EqI xs ys j ∧ List.length xs - j < List.length xs - i ∧ (∀ (k : Unit), xs = ys → xs = ys) ∧ ∀ (v : Value) (h_1 : AHeap), v = Value.bool (eqb xs ys) ∧ h_1 = h → v = Value.bool (eqb xs ys) ∧ h_1 = h)) (∃ (j : Unit), h = h ∧ xs = ys)) ∧ (True ∧ True ∧ True) ∧ (True ∧ (True ∧ True) ∧ True) ∧ True) ∧ True ∧ True) = _) ?_
    simp only [true_and, and_true]
    rintro (i : Nat) I
    have hl := I.len
    have hi := I.hi
    refine bs_d (fun hlt => ?_) (fun hge => ?_)
    · have hxi : i < xs.length := by omega
      have hyi : i < ys.length := by omega
      obtain ⟨l, r, row, ha, hin, hrd, hld⟩ := hx.elem (List.getElem?_eq_getElem hxi)
      obtain ⟨l', r', row', ha', hin', hrd', hld'⟩ := hy.elem (List.getElem?_eq_getElem hyi)
      obtain ⟨v1, v2, rfl, k1, k2⟩ := rd_topic.1 hrd
      obtain ⟨w1, w2, rfl, kk1, kk2⟩ := rd_topic.1 hrd'
      obtain ⟨a1, c1, rfl⟩ := k1.isSlice
      obtain ⟨b1, d1, rfl⟩ := kk1.isSlice
      obtain ⟨a2, c2, rfl⟩ := k2.isSlice
      obtain ⟨b2, d2, rfl⟩ := kk2.isSlice
      refine ⟨l, r, ha, Int.natCast_nonneg _, hlt, l', r', ha', Int.natCast_nonneg _, by omega, _, _, _, _, _, _, _, _, hld, _, _, _, _, _, _, _, _, hld', _, _, eqTopic_spec h xs[i] ys[i] _ _ k1 k2 _ _ kk1 kk2 (ok.2 _ (List.getElem_mem hxi)), bs_nb (fun hb => ?_) (fun hb => ?_)⟩
      · exact ⟨congrArg _ (eqb_false fun e => of_eqb_false hb (by subst e; rfl)), rfl⟩
      · exact ⟨i + 1, by rw [wrap_i64 (by omega)] <;> rfl, rfl, I.step hxi hyi (of_eqb hb), by omega, fun _ h => h, fun _ _ h => h⟩
    · have e : i = xs.length := by omega
      subst e
      exact ⟨(), I.all⟩
  · refine vc_mp (by kernel_rfl : (bs (!decide ((↑n : Int) = (↑n' : Int))) (Value.bool false = Value.bool (eqb xs ys) ∧ h = h) (∃ (i : Nat), Value.slice a n c = Value.slice a n c ∧ Value.slice a' n' c' = Value.slice a' n' c' ∧ Value.int IntKind.i64 (0 : Int) = Value.int IntKind.i64 (↑i : Int) ∧ h = h ∧ EqI xs ys i ∧ (∀ (j : Unit), xs = ys → Value.bool true = Value.bool (eqb xs ys) ∧ h = h) ∧ ∀ (v : Value) (h_1 : AHeap), v = Value.bool (eqb xs ys) ∧ h_1 = h → v = Value.bool (eqb xs ys) ∧ h_1 = h)) = _) ?_
    refine bs_dn (fun hne => ⟨congrArg _ (eqb_false fun e => hne (by rw [← en, ← en', e])), rfl⟩) (fun he => ?_)
    exact ⟨(0 : Nat), rfl, rfl, rfl, rfl, ⟨by omega, Nat.zero_le _, rfl⟩, fun j e => ⟨congrArg _ (eqb_true e), rfl⟩, fun _ _ h => h⟩

theorem szReply_spec (h : AHeap) (x : replySh.T) (left : Int) (hl : 0 ≤ left ∧ left ≤ 1048576) (ok : replySh.ok x) :
    ACall Try.prog 61 [.agg #[.int .i64 x.1, .int .i64 x.2.1, .string x.2.2], .int .i64 left] h (.int .i64 (replySh.sz x left)) h := by
  obtain ⟨x1, x2, x3⟩ := x
  try dsimp only at *
  refine acall_out (acall_vc (fun _ => false) (fun _ => []) (fun _ => .none) mixed Try.func61 rfl rfl rfl (Nat.le_of_ble_eq_true rfl) (by refine vc_mp (by kernel_rfl : (True ∧ True ∧ (True ∧ (True ∧ True) ∧ True) ∧ True ∧ True) = _) ?_; simp only [and_self]) ?_)
  refine vc_mp (by kernel_rfl : (bs (decide (IntKind.wrap IntKind.i64 (left - (↑(ByteArray.size x3) : Int)) < (0 : Int))) (Value.int IntKind.i64 (-1 : Int) = Value.int IntKind.i64 (Sh.sz replySh (x1, x2, x3) left) ∧ h = h) (Value.int IntKind.i64 (IntKind.wrap IntKind.i64 (left - (↑(ByteArray.size x3) : Int))) = Value.int IntKind.i64 (Sh.sz replySh (x1, x2, x3) left) ∧ h = h)) = _) ?_
  have o1 : (x3 : ByteArray).size ≤ 9223372036854775807 := ok.2.2
  rw [wrap_i64 (by omega)]
  refine bs_d (fun e1 => by refine ⟨congrArg _ (Eq.symm ?_), rfl⟩; exact sz_step rfl hl.1 (sz_step rfl hl.1 (sz_strn e1))) (fun e1 => ?_)
  refine ⟨congrArg _ (Eq.symm ?_), rfl⟩
  exact sz_step rfl hl.1 (sz_step rfl hl.1 ((sz_str e1)))

theorem szReplyS_spec (h : AHeap) (a : Option Addr) (n c : Nat) (xs : List replySh.T) (left : Int) (hx : Sl h replySh xs (.slice a n c)) (hl : 0 ≤ left ∧ left ≤ 1048576) (ok : (Sh.sl replySh).ok xs) :
    ACall Try.prog 140 [.slice a n c, .int .i64 left] h (.int .i64 ((Sh.sl replySh).sz xs left)) h := by
  have en := hx.len
  have ok1 : xs.length ≤ 9223372036854775807 := ok.1
  have key : (Sh.sl replySh).sz xs left = (if left - (xs.length : Int) < 0 then -1 else szL replySh.sz xs (left - (xs.length : Int))) := rfl
  rw [key, en]
  refine acall_out (acall_vc (fun _ => false) (fun _ => []) (fun _ => szLp replySh a n c h xs (szL replySh.sz xs (left - n))) mixed Try.func140 rfl rfl rfl (Nat.le_of_ble_eq_true rfl) ?_ ?_)
  · refine vc_mp (by kernel_rfl : (True ∧ True ∧ (True ∧ (True ∧ True) ∧ True) ∧ (True ∧ (∀ (i : Nat × Int), Prod.fst i ≤ n ∧ (0 : Int) ≤ Prod.snd i ∧ Prod.snd i ≤ (1048576 : Int) ∧ szL (Sh.sz replySh) (List.drop (Prod.fst i) xs) (Prod.snd i) = szL (Sh.sz replySh) xs (left - (↑n : Int)) → bs (decide ((↑(Prod.fst i) : Int) < (↑n : Int))) (∃ (l : Nat), ∃ (r : Nat), a = some (Addr.mk l r (some (3 : Nat))) ∧ (0 : Int) ≤ (↑(Prod.fst i) : Int) ∧ (↑(Prod.fst i) : Int) < (↑n : Int) ∧ ∃ (x : Int), ∃ (x_1 : Int), ∃ (x_2 : ByteArray), AHeap.ld h l (r + Int.toNat (↑(Prod.fst i) : Int)) (0 : Nat) (3 : Nat) = some [Value.int IntKind.i64 x, Value.int IntKind.i64 x_1, Value.string x_2] ∧ ∃ (x_3 : Int), ∃ (h' : AHeap), ACall Try.prog (61 : Nat) [Value.agg (Array.mk [Value.int IntKind.i64 x, Value.int IntKind.i64 x_1, Value.string x_2]), Value.int IntKind.i64 (Prod.snd i)] h (Value.int IntKind.i64 x_3) h' ∧ bs (decide (x_3 < (0 : Int))) (Value.int IntKind.i64 (-1 : Int) = Value.int IntKind.i64 (szL (Sh.sz replySh) xs (left - (↑n : Int))) ∧ h' = h) (∃ (j : Nat × Int), Value.slice a n c = Value.slice a n c ∧ Value.int IntKind.i64 x_3 = Value.int IntKind.i64 (Prod.snd j) ∧ Value.int IntKind.i64 (IntKind.wrap IntKind.i64 ((↑(Prod.fst i) : Int) + (1 : Int))) = Value.int IntKind.i64 (↑(Prod.fst j) : Int) ∧ h = h' ∧ (Prod.fst j ≤ n ∧ (0 : Int) ≤ Prod.snd j ∧ Prod.snd j ≤ (1048576 : Int) ∧ szL (Sh.sz replySh) (List.drop (Prod.fst j) xs) (Prod.snd j) = szL (Sh.sz replySh) xs (left - (↑n : Int))) ∧ n - Prod.fst j < n - Prod.fst i ∧ (∀ (k : Int), k = szL (Sh.sz replySh) xs (left - (↑n : Int)) → k = szL (Sh.sz replySh) xs (left - (↑n : Int))) ∧ ∀ (v : Value) (h_1 : AHeap), v = Value.int IntKind.i64 (szL (Sh.sz replySh) xs (left - (↑n : Int))) ∧ h_1 = h → v = Value.int IntKind.i64 (szL (Sh.sz replySh) xs (left - (↑n : Int))) ∧ h_1 = h)) (∃ (j : Int), Value.int IntKind.i64 (Prod.snd i) = Value.int IntKind.i64 j ∧ h = h ∧ j = szL (Sh.sz replySh) xs (left - (↑n : Int)))) ∧ (True ∧ True ∧ True) ∧ (True ∧ True ∧ (True ∧ True) ∧ True) ∧ True) ∧ True ∧ True) = _) ?_
    simp only [true_and, and_true]
    rintro ⟨i, x⟩ ⟨hi, h0, h1, he⟩
    dsimp only at *
    refine bs_d (fun hlt => ?_) (fun hge => ?_)
    · have hio : i < xs.length := by omega
      obtain ⟨l, r, row, ha, _, hrd, hld⟩ := hx.elem (List.getElem?_eq_getElem hio)
      have hoi := ok.2 xs[i] (List.getElem_mem hio)
      obtain rfl := rd_reply.1 hrd
      rw [List.drop_eq_getElem_cons hio] at he
      have he : (if replySh.sz xs[i] x < 0 then -1 else szL replySh.sz (xs.drop (i + 1)) (replySh.sz xs[i] x)) = szL replySh.sz xs (left - n) := he
      have b1 := replySh.sz_le xs[i] x h0
      refine ⟨l, r, ha, Int.natCast_nonneg _, hlt, _, _, _, hld, replySh.sz xs[i] x, h, szReply_spec h xs[i] x   ⟨h0, h1⟩ hoi, bs_d (fun hneg => ?_) (fun hpos => ?_)⟩
      · rw [if_pos hneg] at he; rw [← he]; exact ⟨rfl, rfl⟩
      · rw [if_neg hpos] at he
        exact ⟨(i + 1, replySh.sz xs[i] x), rfl, by rw [wrap_i64 (by omega)] <;> rfl, rfl, ⟨by dsimp only; omega, by dsimp only; omega, by dsimp only; omega, he⟩, by dsimp only; omega, fun _ h => h, fun _ _ h => h⟩
    · have e : i = xs.length := by omega
      subst e
      rw [List.drop_length] at he
      exact ⟨x, rfl, he⟩
  · refine vc_mp (by kernel_rfl : (bs (decide (IntKind.wrap IntKind.i64 (left - (↑n : Int)) < (0 : Int))) (Value.int IntKind.i64 (-1 : Int) = Value.int IntKind.i64 (if left - (↑n : Int) < (0 : Int) then (-1 : Int) else szL (Sh.sz replySh) xs (left - (↑n : Int))) ∧ h = h) (∃ (i : Nat × Int), Value.slice a n c = Value.slice a n c ∧ Value.int IntKind.i64 (IntKind.wrap IntKind.i64 (left - (↑n : Int))) = Value.int IntKind.i64 (Prod.snd i) ∧ Value.int IntKind.i64 (0 : Int) = Value.int IntKind.i64 (↑(Prod.fst i) : Int) ∧ h = h ∧ (Prod.fst i ≤ n ∧ (0 : Int) ≤ Prod.snd i ∧ Prod.snd i ≤ (1048576 : Int) ∧ szL (Sh.sz replySh) (List.drop (Prod.fst i) xs) (Prod.snd i) = szL (Sh.sz replySh) xs (left - (↑n : Int))) ∧ (∀ (j : Int), j = szL (Sh.sz replySh) xs (left - (↑n : Int)) → Value.int IntKind.i64 j = Value.int IntKind.i64 (if left - (↑n : Int) < (0 : Int) then (-1 : Int) else szL (Sh.sz replySh) xs (left - (↑n : Int))) ∧ h = h) ∧ ∀ (v : Value) (h_1 : AHeap), v = Value.int IntKind.i64 (szL (Sh.sz replySh) xs (left - (↑n : Int))) ∧ h_1 = h → v = Value.int IntKind.i64 (if left - (↑n : Int) < (0 : Int) then (-1 : Int) else szL (Sh.sz replySh) xs (left - (↑n : Int))) ∧ h_1 = h)) = _) ?_
    rw [wrap_i64 (by omega)]
    refine bs_d (fun e => ?_) (fun e => ?_)
    · rw [if_pos e]; exact ⟨rfl, rfl⟩
    · rw [if_neg e]
      exact ⟨(0, left - n), rfl, rfl, rfl, rfl, ⟨Nat.zero_le _, by dsimp only; omega, by dsimp only; omega, rfl⟩, fun j hj => ⟨by rw [hj], rfl⟩, fun _ _ h => h⟩

theorem toReply_spec (h : AHeap) (x : replySh.T) (hw : h.wf) :
    ∃ v h', ACall Try.prog 63 [.agg #[.int .i64 x.1, .int .i64 x.2.1, .string x.2.2]] h v h' ∧ h.Le h' ∧ h'.wf ∧ ∃ ids, v = .agg #[.int .i64 x.1, .int .i64 x.2.1, .string x.2.2] ∧ replySh.ro h' x [.int .i64 x.1, .int .i64 x.2.1, .string x.2.2] ids ∧ Fresh h.n h'.n ids := by
  obtain ⟨x1, x2, x3⟩ := x
  try dsimp only at *
  refine acall_q fun Q HQ => ?_
  refine acall_vc (fun _ => false) (fun _ => []) (fun _ => .none) mixed Try.func63 rfl rfl rfl (Nat.le_of_ble_eq_true rfl) (by refine vc_mp (by kernel_rfl : (True ∧ True ∧ True ∧ True ∧ True ∧ True ∧ True) = _) ?_; simp only [and_self]) ?_
  refine vc_mp (by kernel_rfl : (Q (Value.agg (Array.mk [Value.int IntKind.i64 x1, Value.int IntKind.i64 x2, Value.string x3])) h) = _) ?_
  exact HQ _ _ ⟨.refl _, hw, [], rfl, (ro_reply (x := (x1, x2, x3))).2 ⟨rfl, rfl⟩, .nil⟩

theorem toReplyS_spec (h : AHeap) (a : Option Addr) (n c : Nat) (xs : List replySh.T) (hw : h.wf) (hx : Sl h replySh xs (.slice a n c)) (ok : (Sh.sl replySh).small xs) :
    ∃ v h', ACall Try.prog 143 [.slice a n c] h v h' ∧ h.Le h' ∧ h'.wf ∧ ∃ ids, v = .slice (some ⟨h.n, 0, some 3⟩) n (n + 1) ∧ So h' replySh xs (.slice (some ⟨h.n, 0, some 3⟩) n (n + 1)) ids ∧ Fresh h.n h'.n ids := by
  have en := hx.len
  have ok1 : xs.length ≤ 1048576 := ok.1
  refine acall_vc (fun _ => false) (fun _ => []) (fun _ => toL replySh [.int .i64 0, .int .i64 0, .string ⟨#[]⟩] a n c h xs) mixed Try.func143 rfl rfl rfl (Nat.le_of_ble_eq_true rfl) ?_ ?_
  · refine vc_mp (by kernel_rfl : (True ∧ True ∧ (True ∧ (∀ (i : Nat × AHeap × List (List Value) × List (List Nat)), ToI replySh [Value.int IntKind.i64 (0 : Int), Value.int IntKind.i64 (0 : Int), Value.string (ByteArray.mk (Array.mk []))] n h xs (Prod.fst i) (Prod.fst (Prod.snd i)) (Prod.fst (Prod.snd (Prod.snd i))) (Prod.snd (Prod.snd (Prod.snd i))) → bs (decide ((↑(Prod.fst i) : Int) < (↑n : Int))) (∃ (l : Nat), ∃ (r : Nat), a = some (Addr.mk l r (some (3 : Nat))) ∧ (0 : Int) ≤ (↑(Prod.fst i) : Int) ∧ (↑(Prod.fst i) : Int) < (↑n : Int) ∧ ∃ (x : Int), ∃ (x_1 : Int), ∃ (x_2 : ByteArray), AHeap.ld (Prod.fst (Prod.snd i)) l (r + Int.toNat (↑(Prod.fst i) : Int)) (0 : Nat) (3 : Nat) = some [Value.int IntKind.i64 x, Value.int IntKind.i64 x_1, Value.string x_2] ∧ ∃ (x_3 : Int), ∃ (x_4 : Int), ∃ (x_5 : ByteArray), ∃ (h' : AHeap), ACall Try.prog (63 : Nat) [Value.agg (Array.mk [Value.int IntKind.i64 x, Value.int IntKind.i64 x_1, Value.string x_2])] (Prod.fst (Prod.snd i)) (Value.agg (Array.mk [Value.int IntKind.i64 x_3, Value.int IntKind.i64 x_4, Value.string x_5])) h' ∧ ∃ (l : Nat), ∃ (r : Nat), some (Addr.mk (AHeap.n h) (0 : Nat) (some (Sh.cells replySh))) = some (Addr.mk l r (some (3 : Nat))) ∧ (0 : Int) ≤ (↑(Prod.fst i) : Int) ∧ (↑(Prod.fst i) : Int) < (↑n : Int) ∧ ∃ (h'_1 : AHeap), AHeap.wr h' l (r + Int.toNat (↑(Prod.fst i) : Int)) (0 : Nat) [Value.int IntKind.i64 x_3, Value.int IntKind.i64 x_4, Value.string x_5] = some h'_1 ∧ ∃ (j : Nat × AHeap × List (List Value) × List (List Nat)), Value.slice a n c = Value.slice a n c ∧ Value.slice (some (Addr.mk (AHeap.n h) (0 : Nat) (some (Sh.cells replySh)))) n (n + (1 : Nat)) = Value.slice (some (Addr.mk (AHeap.n h) (0 : Nat) (some (Sh.cells replySh)))) n (n + (1 : Nat)) ∧ Value.int IntKind.i64 (IntKind.wrap IntKind.i64 ((↑(Prod.fst i) : Int) + (1 : Int))) = Value.int IntKind.i64 (↑(Prod.fst j) : Int) ∧ Prod.fst (Prod.snd j) = h'_1 ∧ ToI replySh [Value.int IntKind.i64 (0 : Int), Value.int IntKind.i64 (0 : Int), Value.string (ByteArray.mk (Array.mk []))] n h xs (Prod.fst j) (Prod.fst (Prod.snd j)) (Prod.fst (Prod.snd (Prod.snd j))) (Prod.snd (Prod.snd (Prod.snd j))) ∧ n - Prod.fst j < n - Prod.fst i ∧ (∀ (k : AHeap × List (List Value) × List (List Nat)), ToI replySh [Value.int IntKind.i64 (0 : Int), Value.int IntKind.i64 (0 : Int), Value.string (ByteArray.mk (Array.mk []))] n h xs n (Prod.fst k) (Prod.fst (Prod.snd k)) (Prod.snd (Prod.snd k)) → ToI replySh [Value.int IntKind.i64 (0 : Int), Value.int IntKind.i64 (0 : Int), Value.string (ByteArray.mk (Array.mk []))] n h xs n (Prod.fst k) (Prod.fst (Prod.snd k)) (Prod.snd (Prod.snd k))) ∧ ∀ (v : Value) (h : AHeap), False → False) (∃ (j : AHeap × List (List Value) × List (List Nat)), Value.slice (some (Addr.mk (AHeap.n h) (0 : Nat) (some (Sh.cells replySh)))) n (n + (1 : Nat)) = Value.slice (some (Addr.mk (AHeap.n h) (0 : Nat) (some (Sh.cells replySh)))) n (n + (1 : Nat)) ∧ Prod.fst j = Prod.fst (Prod.snd i) ∧ ToI replySh [Value.int IntKind.i64 (0 : Int), Value.int IntKind.i64 (0 : Int), Value.string (ByteArray.mk (Array.mk []))] n h xs n (Prod.fst j) (Prod.fst (Prod.snd j)) (Prod.snd (Prod.snd j)))) ∧ (True ∧ True ∧ True) ∧ True ∧ True) ∧ True ∧ True) = _) ?_
    simp only [true_and, and_true]
    rintro ⟨i, h1, rows, idss⟩ I
    dsimp only at *
    refine bs_d (fun hlt => ?_) (fun hge => ?_)
    · have hio : i < xs.length := by omega
      obtain ⟨l, r, row, ha, _, hrd, hld⟩ := (hx.mono I.le).elem (List.getElem?_eq_getElem hio)
      obtain rfl := rd_reply.1 hrd
      obtain ⟨v, h2, hA, hle, hw2, ids, rfl, hro, hf⟩ := toReply_spec h1 xs[i]   I.wf
      obtain ⟨h3, e3, I3⟩ := I.step (by omega) (List.getElem?_eq_getElem hio) hle hw2 hro hf
      refine ⟨l, r, ha, Int.natCast_nonneg _, hlt, _, _, _, hld, _, _, _, _, hA, h.n, 0, rfl, Int.natCast_nonneg _, hlt, h3, e3, (i + 1, h3, _, _), by rw [wrap_i64 (by omega)] <;> rfl, rfl, I3, by dsimp only; omega, fun _ h => h, fun _ _ h => h⟩
    · have hi := I.hi
      have e : i = n := by omega
      subst e
      exact ⟨(h1, rows, idss), rfl, I⟩
  · refine vc_mp (by kernel_rfl : ((0 : Int) ≤ (↑n : Int) ∧ (↑n : Int) ≤ (↑n : Int) ∧ (↑n : Int) * (↑(32 : Nat) : Int) ≤ (140737488355328 : Int) ∧ ∃ (i : Nat × AHeap × List (List Value) × List (List Nat)), Value.slice a n c = Value.slice a n c ∧ Value.slice (some (Addr.mk (AHeap.n h) (0 : Nat) (some (3 : Nat)))) (Int.toNat (↑n : Int)) (Int.toNat (↑n : Int) + (1 : Nat)) = Value.slice (some (Addr.mk (AHeap.n h) (0 : Nat) (some (Sh.cells replySh)))) n (n + (1 : Nat)) ∧ Value.int IntKind.i64 (0 : Int) = Value.int IntKind.i64 (↑(Prod.fst i) : Int) ∧ Prod.fst (Prod.snd i) = AHeap.push h (AObj.mk (List.replicate (Int.toNat (↑n : Int)) [Value.int IntKind.i64 (Int.ofNat (0 : Nat)), Value.int IntKind.i64 (Int.ofNat (0 : Nat)), Value.string (ByteArray.mk (Array.mk []))]) (3 : Nat) true) ∧ ToI replySh [Value.int IntKind.i64 (0 : Int), Value.int IntKind.i64 (0 : Int), Value.string (ByteArray.mk (Array.mk []))] n h xs (Prod.fst i) (Prod.fst (Prod.snd i)) (Prod.fst (Prod.snd (Prod.snd i))) (Prod.snd (Prod.snd (Prod.snd i))) ∧ (∀ (j : AHeap × List (List Value) × List (List Nat)), ToI replySh [Value.int IntKind.i64 (0 : Int), Value.int IntKind.i64 (0 : Int), Value.string (ByteArray.mk (Array.mk []))] n h xs n (Prod.fst j) (Prod.fst (Prod.snd j)) (Prod.snd (Prod.snd j)) → AHeap.Le h (Prod.fst j) ∧ AHeap.wf (Prod.fst j) ∧ ∃ (ids : List Nat), Value.slice (some (Addr.mk (AHeap.n h) (0 : Nat) (some (Sh.cells replySh)))) n (n + (1 : Nat)) = Value.slice (some (Addr.mk (AHeap.n h) (0 : Nat) (some (3 : Nat)))) n (n + (1 : Nat)) ∧ So (Prod.fst j) replySh xs (Value.slice (some (Addr.mk (AHeap.n h) (0 : Nat) (some (3 : Nat)))) n (n + (1 : Nat))) ids ∧ Fresh (AHeap.n h) (AHeap.n (Prod.fst j)) ids) ∧ ∀ (v : Value) (h_1 : AHeap), False → AHeap.Le h h_1 ∧ AHeap.wf h_1 ∧ ∃ (ids : List Nat), v = Value.slice (some (Addr.mk (AHeap.n h) (0 : Nat) (some (3 : Nat)))) n (n + (1 : Nat)) ∧ So h_1 replySh xs (Value.slice (some (Addr.mk (AHeap.n h) (0 : Nat) (some (3 : Nat)))) n (n + (1 : Nat))) ids ∧ Fresh (AHeap.n h) (AHeap.n h_1) ids) = _) ?_
    refine ⟨Int.natCast_nonneg _, Int.le_refl _, by omega, (0, _, _, _), rfl, rfl, rfl, rfl, ToI.start hw rfl, ?_, fun _ _ h => h.elim⟩
    rintro ⟨h1, rows, idss⟩ I
    obtain ⟨ids, h2, h3⟩ := ToI.finish I en (n + 1)
    exact ⟨I.le, I.wf, ids, rfl, h2, h3⟩

theorem eqReply_spec (h : AHeap) (x y : replySh.T) :
    ACall Try.prog 167 [.agg #[.int .i64 x.1, .int .i64 x.2.1, .string x.2.2], .agg #[.int .i64 y.1, .int .i64 y.2.1, .string y.2.2]] h (.bool (eqb x y)) h := by
  obtain ⟨x1, x2, x3⟩ := x
  obtain ⟨y1, y2, y3⟩ := y
  try dsimp only at *
  refine acall_out (acall_vc (fun _ => false) (fun _ => []) (fun _ => .none) mixed Try.func167 rfl rfl rfl (Nat.le_of_ble_eq_true rfl) (by refine vc_mp (by kernel_rfl : (True ∧ (True ∧ (True ∧ True) ∧ True) ∧ (True ∧ (True ∧ True) ∧ True) ∧ (True ∧ (True ∧ True) ∧ True) ∧ True ∧ True) = _) ?_; simp only [and_self]) ?_)
  refine vc_mp (by kernel_rfl : (bs (!decide (x1 = y1)) (Value.bool false = Value.bool (eqb (x1, x2, x3) (y1, y2, y3)) ∧ h = h) (bs (!decide (x2 = y2)) (Value.bool false = Value.bool (eqb (x1, x2, x3) (y1, y2, y3)) ∧ h = h) (bs (!decide (x3 = y3)) (Value.bool false = Value.bool (eqb (x1, x2, x3) (y1, y2, y3)) ∧ h = h) (Value.bool true = Value.bool (eqb (x1, x2, x3) (y1, y2, y3)) ∧ h = h)))) = _) ?_
  refine bs_dn (fun e => ⟨congrArg _ (eqb_false fun e' => e (by cases e'; rfl)), rfl⟩) (fun e1 => ?_)
  refine bs_dn (fun e => ⟨congrArg _ (eqb_false fun e' => e (by cases e'; rfl)), rfl⟩) (fun e2 => ?_)
  refine bs_dn (fun e => ⟨congrArg _ (eqb_false fun e' => e (by cases e'; rfl)), rfl⟩) (fun e3 => ?_)
  exact ⟨congrArg _ (eqb_true (Prod.ext e1 (Prod.ext e2 e3))), rfl⟩

theorem eqReplyS_spec (h : AHeap) (a : Option Addr) (n c : Nat) (a' : Option Addr) (n' c' : Nat) (xs ys : List replySh.T) (hx : Sl h replySh xs (.slice a n c)) (hy : Sl h replySh ys (.slice a' n' c')) (ok : xs.length ≤ 9223372036854775807) :
    ACall Try.prog 146 [.slice a n c, .slice a' n' c'] h (.bool (eqb xs ys)) h := by
  have en := hx.len
  have en' := hy.len
  have hn : xs.length ≤ 9223372036854775807 := ok
  refine acall_out (acall_vc (fun _ => false) (fun _ => [(0, 0, []), (1, 0, []), (2, 0, []), (4, 0, []), (5, 0, []), (6, 0, []), (3, 1, []), (7, 1, []), (8, 3, []), (9, 0, [])]) (fun _ => eqLp h a n c a' n' c' xs ys) mixed Try.func146 rfl rfl rfl (Nat.le_of_ble_eq_true rfl) ?_ ?_)
  · refine vc_mp (by kernel_rfl : (True ∧ (True ∧ (True ∧ True) ∧ True) ∧ (True ∧ (∀ (i : Nat), EqI xs ys i → bs (decide ((↑i : Int) < (↑n : Int))) (∃ (l : Nat), ∃ (r : Nat), a = some (Addr.mk l r (some (3 : Nat))) ∧ (0 : Int) ≤ (↑i : Int) ∧ (↑i : Int) < (↑n : Int) ∧ ∃ (l_1 : Nat), ∃ (r_1 : Nat), a' = some (Addr.mk l_1 r_1 (some (3 : Nat))) ∧ (0 : Int) ≤ (↑i : Int) ∧ (↑i : Int) < (↑n' : Int) ∧ ∃ (x : Int), ∃ (x_1 : Int), ∃ (x_2 : ByteArray), AHeap.ld h l (r + Int.toNat (↑i : Int)) (0 : Nat) (3 : Nat) = some [Value.int IntKind.i64 x, Value.int IntKind.i64 x_1, Value.string x_2] ∧ ∃ (x_3 : Int), ∃ (x_4 : Int), ∃ (x_5 : ByteArray), AHeap.ld h l_1 (r_1 + Int.toNat (↑i : Int)) (0 : Nat) (3 : Nat) = some [Value.int IntKind.i64 x_3, Value.int IntKind.i64 x_4, Value.string x_5] ∧ ∃ (x_6 : Bool), ∃ (h' : AHeap), ACall Try.prog (167 : Nat) [Value.agg (Array.mk [Value.int IntKind.i64 x, Value.int IntKind.i64 x_1, Value.string x_2]), Value.agg (Array.mk [Value.int IntKind.i64 x_3, Value.int IntKind.i64 x_4, Value.string x_5])] h (Value.bool x_6) h' ∧ bs (!x_6) (Value.bool false = Value.bool (eqb xs ys) ∧ h' = h) (∃ (j : Nat), Value.slice a n c = Value.slice a n c ∧ Value.slice a' n' c' = Value.slice a' n' c' ∧ Value.int IntKind.i64 (IntKind.wrap IntKind.i64 ((↑i : Int) + (1 : Int))) = Value.int IntKind.i64 (↑j : Int) ∧ h = h' ∧ EqI xs ys j ∧ List.length xs - j < List.length xs - i ∧ (∀ (k : Unit), xs = ys → xs = ys) ∧ ∀ (v : Value) (h_1 : AHeap), v = Value.bool (eqb xs ys) ∧ h_1 = h → v = Value.bool (eqb xs ys) ∧ h_1 = h)) (∃ (j : Unit), h = h ∧ xs = ys)) ∧ (True ∧ True ∧ True) ∧ (True ∧ (True ∧ True) ∧ True) ∧ True) ∧ True ∧ True) = _) ?_
    simp only [true_and, and_true]
    rintro (i : Nat) I
    have hl := I.len
    have hi := I.hi
    refine bs_d (fun hlt => ?_) (fun hge => ?_)
    · have hxi : i < xs.length := by omega
      have hyi : i < ys.length := by omega
      obtain ⟨l, r, row, ha, hin, hrd, hld⟩ := hx.elem (List.getElem?_eq_getElem hxi)
      obtain ⟨l', r', row', ha', hin', hrd', hld'⟩ := hy.elem (List.getElem?_eq_getElem hyi)
      obtain rfl := rd_reply.1 hrd
      obtain rfl := rd_reply.1 hrd'
      refine ⟨l, r, ha, Int.natCast_nonneg _, hlt, l', r', ha', Int.natCast_nonneg _, by omega, _, _, _, hld, _, _, _, hld', _, _, eqReply_spec h xs[i] ys[i], bs_nb (fun hb => ?_) (fun hb => ?_)⟩
      · exact ⟨congrArg _ (eqb_false fun e => of_eqb_false hb (by subst e; rfl)), rfl⟩
      · exact ⟨i + 1, by rw [wrap_i64 (by omega)] <;> rfl, rfl, I.step hxi hyi (of_eqb hb), by omega, fun _ h => h, fun _ _ h => h⟩
    · have e : i = xs.length := by omega
      subst e
      exact ⟨(), I.all⟩
  · refine vc_mp (by kernel_rfl : (bs (!decide ((↑n : Int) = (↑n' : Int))) (Value.bool false = Value.bool (eqb xs ys) ∧ h = h) (∃ (i : Nat), Value.slice a n c = Value.slice a n c ∧ Value.slice a' n' c' = Value.slice a' n' c' ∧ Value.int IntKind.i64 (0 : Int) = Value.int IntKind.i64 (↑i : Int) ∧ h = h ∧ EqI xs ys i ∧ (∀ (j : Unit), xs = ys → Value.bool true = Value.bool (eqb xs ys) ∧ h = h) ∧ ∀ (v : Value) (h_1 : AHeap), v = Value.bool (eqb xs ys) ∧ h_1 = h → v = Value.bool (eqb xs ys) ∧ h_1 = h)) = _) ?_
    refine bs_dn (fun hne => ⟨congrArg _ (eqb_false fun e => hne (by rw [← en, ← en', e])), rfl⟩) (fun he => ?_)
    exact ⟨(0 : Nat), rfl, rfl, rfl, rfl, ⟨by omega, Nat.zero_le _, rfl⟩, fun j e => ⟨congrArg _ (eqb_true e), rfl⟩, fun _ _ h => h⟩

theorem szBroker_spec (h : AHeap) (x : brokerSh.T) (left : Int) (v1 : Value) (v2 : Value) (h1 : Sl h topicSh x.1 v1) (h2 : Sl h replySh x.2 v2) (hl : 0 ≤ left ∧ left ≤ 1048576) (ok : brokerSh.ok x) :
    ACall Try.prog 105 [.agg #[v1, v2], .int .i64 left] h (.int .i64 (brokerSh.sz x left)) h := by
  obtain ⟨x1, x2⟩ := x
  try dsimp only at *
  obtain ⟨a1, c1, rfl⟩ := h1.isSlice
  obtain ⟨a2, c2, rfl⟩ := h2.isSlice
  refine acall_out (acall_vc (fun _ => false) (fun _ => []) (fun _ => .none) mixed Try.func105 rfl rfl rfl (Nat.le_of_ble_eq_true rfl) (by refine vc_mp (by kernel_rfl : (True ∧ True ∧ (True ∧ (True ∧ True) ∧ True) ∧ True ∧ (True ∧ (True ∧ True) ∧ True) ∧ True ∧ True) = _) ?_; simp only [and_self]) ?_)
  refine vc_mp (by kernel_rfl : (∃ (x : Int), ∃ (h' : AHeap), ACall Try.prog (139 : Nat) [Value.slice a1 (List.length x1) c1, Value.int IntKind.i64 left] h (Value.int IntKind.i64 x) h' ∧ bs (decide (x < (0 : Int))) (Value.int IntKind.i64 (-1 : Int) = Value.int IntKind.i64 (Sh.sz brokerSh (x1, x2) left) ∧ h' = h) (∃ (x_1 : Int), ∃ (h'_1 : AHeap), ACall Try.prog (140 : Nat) [Value.slice a2 (List.length x2) c2, Value.int IntKind.i64 x] h' (Value.int IntKind.i64 x_1) h'_1 ∧ bs (decide (x_1 < (0 : Int))) (Value.int IntKind.i64 (-1 : Int) = Value.int IntKind.i64 (Sh.sz brokerSh (x1, x2) left) ∧ h'_1 = h) (Value.int IntKind.i64 x_1 = Value.int IntKind.i64 (Sh.sz brokerSh (x1, x2) left) ∧ h'_1 = h))) = _) ?_
  have b1 := (Sh.sl topicSh).sz_le x1 left (by omega)
  refine ⟨_, _, szTopicS_spec h a1 _ c1 _ left h1 (by omega) ok.1, bs_d (fun e1 => by refine ⟨congrArg _ (Eq.symm ?_), rfl⟩; exact sz_stop e1) (fun e1 => ?_)⟩
  have b2 := (Sh.sl replySh).sz_le x2 ((Sh.sl topicSh).sz x1 left) (by omega)
  refine ⟨_, _, szReplyS_spec h a2 _ c2 _ ((Sh.sl topicSh).sz x1 left) h2 (by omega) ok.2, bs_d (fun e2 => by refine ⟨congrArg _ (Eq.symm ?_), rfl⟩; exact sz_step rfl (Int.not_lt.1 e1) (sz_neg (Int.not_lt.1 e1) e2)) (fun e2 => ?_)⟩
  refine ⟨congrArg _ (Eq.symm ?_), rfl⟩
  exact sz_step rfl (Int.not_lt.1 e1) (rfl)

theorem toBroker_spec (h : AHeap) (x : brokerSh.T) (v1 : Value) (v2 : Value) (h1 : Sl h topicSh x.1 v1) (h2 : Sl h replySh x.2 v2) (hw : h.wf) (ok : brokerSh.small x) :
    ∃ v h', ACall Try.prog 107 [.agg #[v1, v2]] h v h' ∧ h.Le h' ∧ h'.wf ∧ ∃ w1 w2 ids, v = .agg #[w1, w2] ∧ brokerSh.ro h' x [w1, w2] ids ∧ Fresh h.n h'.n ids := by
  obtain ⟨x1, x2⟩ := x
  try dsimp only at *
  obtain ⟨a1, c1, rfl⟩ := h1.isSlice
  obtain ⟨a2, c2, rfl⟩ := h2.isSlice
  refine acall_q fun Q HQ => ?_
  refine acall_vc (fun _ => false) (fun _ => []) (fun _ => .none) mixed Try.func107 rfl rfl rfl (Nat.le_of_ble_eq_true rfl) (by refine vc_mp (by kernel_rfl : (True ∧ True ∧ True ∧ True ∧ True ∧ True) = _) ?_; simp only [and_self]) ?_
  refine vc_mp (by kernel_rfl : (∃ (a : Option Addr), ∃ (n : Nat), ∃ (c : Nat), ∃ (h' : AHeap), ACall Try.prog (142 : Nat) [Value.slice a1 (List.length x1) c1] h (Value.slice a n c) h' ∧ ∃ (a_1 : Option Addr), ∃ (n_1 : Nat), ∃ (c_1 : Nat), ∃ (h'_1 : AHeap), ACall Try.prog (143 : Nat) [Value.slice a2 (List.length x2) c2] h' (Value.slice a_1 n_1 c_1) h'_1 ∧ Q (Value.agg (Array.mk [Value.slice a n c, Value.slice a_1 n_1 c_1])) h'_1) = _) ?_
  obtain ⟨u1, g1, A1, l1, W1, ids1, rfl, r1, f1⟩ := toTopicS_spec h a1 _ c1 _ hw h1 ok.1
  have L1 : h.Le g1 := l1
  obtain ⟨u2, g2, A2, l2, W2, ids2, rfl, r2, f2⟩ := toReplyS_spec g1 a2 _ c2 _ W1 (h2.mono L1) ok.2
  have L2 : h.Le g2 := L1.trans l2
  refine ⟨_, _, _, _, A1, _, _, _, _, A2, HQ _ _ ⟨L2, W2, _, _, ids1 ++ (ids2), rfl, ?_, ?_⟩⟩
  · exact ⟨[_], _, ids1, _, rfl, rfl, ro_sl.2 ⟨_, rfl, r1.le l2⟩, ro_sl.2 ⟨_, rfl, r2⟩⟩
  · exact (show Fresh h.n g2.n (ids1 ++ (ids2)) from .append l1.n l2.n f1 (f2))

theorem eqBroker_spec (h : AHeap) (x y : brokerSh.T) (v1 : Value) (v2 : Value) (h1 : Sl h topicSh x.1 v1) (h2 : Sl h replySh x.2 v2) (w1 : Value) (w2 : Value) (j1 : Sl h topicSh y.1 w1) (j2 : Sl h replySh y.2 w2) (ok : brokerSh.ok x) :
    ACall Try.prog 109 [.agg #[v1, v2], .agg #[w1, w2]] h (.bool (eqb x y)) h := by
  obtain ⟨x1, x2⟩ := x
  obtain ⟨y1, y2⟩ := y
  try dsimp only at *
  obtain ⟨a1, c1, rfl⟩ := h1.isSlice
  obtain ⟨a2, c2, rfl⟩ := h2.isSlice
  obtain ⟨ab1, cb1, rfl⟩ := j1.isSlice
  obtain ⟨ab2, cb2, rfl⟩ := j2.isSlice
  refine acall_out (acall_vc (fun _ => false) (fun _ => []) (fun _ => .none) mixed Try.func109 rfl rfl rfl (Nat.le_of_ble_eq_true rfl) (by refine vc_mp (by kernel_rfl : (True ∧ (True ∧ (True ∧ True) ∧ True) ∧ (True ∧ (True ∧ True) ∧ True) ∧ True ∧ True) = _) ?_; simp only [and_self]) ?_)
  refine vc_mp (by kernel_rfl : (∃ (x : Bool), ∃ (h' : AHeap), ACall Try.prog (145 : Nat) [Value.slice a1 (List.length x1) c1, Value.slice ab1 (List.length y1) cb1] h (Value.bool x) h' ∧ bs (!x) (Value.bool false = Value.bool (eqb (x1, x2) (y1, y2)) ∧ h' = h) (∃ (x : Bool), ∃ (h'_1 : AHeap), ACall Try.prog (146 : Nat) [Value.slice a2 (List.length x2) c2, Value.slice ab2 (List.length y2) cb2] h' (Value.bool x) h'_1 ∧ bs (!x) (Value.bool false = Value.bool (eqb (x1, x2) (y1, y2)) ∧ h'_1 = h) (Value.bool true = Value.bool (eqb (x1, x2) (y1, y2)) ∧ h'_1 = h))) = _) ?_
  refine ⟨_, _, eqTopicS_spec h a1 _ c1 ab1 _ cb1 _ _ h1 j1 ok.1, bs_nb (fun e => ⟨congrArg _ (eqb_false fun e' => of_eqb_false e (by cases e'; rfl)), rfl⟩) (fun e1 => ?_)⟩
  refine ⟨_, _, eqReplyS_spec h a2 _ c2 ab2 _ cb2 _ _ h2 j2 ok.2.1, bs_nb (fun e => ⟨congrArg _ (eqb_false fun e' => of_eqb_false e (by cases e'; rfl)), rfl⟩) (fun e2 => ?_)⟩
  exact ⟨congrArg _ (eqb_true (Prod.ext (of_eqb e1) (of_eqb e2))), rfl⟩

theorem eqProof_spec (h : AHeap) (x y : proofSh.T) (v1 : Value) (h1 : Sl h Sh.int x.2.2.2 v1) (w1 : Value) (j1 : Sl h Sh.int y.2.2.2 w1) (ok : proofSh.ok x) :
    ACall Try.prog 171 [.agg #[.int .i64 x.1, .int .i64 x.2.1, .string x.2.2.1, v1], .agg #[.int .i64 y.1, .int .i64 y.2.1, .string y.2.2.1, w1]] h (.bool (eqb x y)) h := by
  obtain ⟨x1, x2, x3, x4⟩ := x
  obtain ⟨y1, y2, y3, y4⟩ := y
  try dsimp only at *
  obtain ⟨a1, c1, rfl⟩ := h1.isSlice
  obtain ⟨ab1, cb1, rfl⟩ := j1.isSlice
  refine acall_out (acall_vc (fun _ => false) (fun _ => []) (fun _ => .none) mixed Try.func171 rfl rfl rfl (Nat.le_of_ble_eq_true rfl) (by refine vc_mp (by kernel_rfl : (True ∧ (True ∧ (True ∧ True) ∧ True) ∧ (True ∧ (True ∧ True) ∧ True) ∧ (True ∧ (True ∧ True) ∧ True) ∧ (True ∧ (True ∧ True) ∧ True) ∧ True ∧ True) = _) ?_; simp only [and_self]) ?_)
  refine vc_mp (by kernel_rfl : (bs (!decide (x1 = y1)) (Value.bool false = Value.bool (eqb (x1, x2, x3, x4) (y1, y2, y3, y4)) ∧ h = h) (bs (!decide (x2 = y2)) (Value.bool false = Value.bool (eqb (x1, x2, x3, x4) (y1, y2, y3, y4)) ∧ h = h) (bs (!decide (x3 = y3)) (Value.bool false = Value.bool (eqb (x1, x2, x3, x4) (y1, y2, y3, y4)) ∧ h = h) (∃ (x : Bool), ∃ (h' : AHeap), ACall Try.prog (179 : Nat) [Value.slice a1 (List.length x4) c1, Value.slice ab1 (List.length y4) cb1] h (Value.bool x) h' ∧ bs (!x) (Value.bool false = Value.bool (eqb (x1, x2, x3, x4) (y1, y2, y3, y4)) ∧ h' = h) (Value.bool true = Value.bool (eqb (x1, x2, x3, x4) (y1, y2, y3, y4)) ∧ h' = h))))) = _) ?_
  refine bs_dn (fun e => ⟨congrArg _ (eqb_false fun e' => e (by cases e'; rfl)), rfl⟩) (fun e1 => ?_)
  refine bs_dn (fun e => ⟨congrArg _ (eqb_false fun e' => e (by cases e'; rfl)), rfl⟩) (fun e2 => ?_)
  refine bs_dn (fun e => ⟨congrArg _ (eqb_false fun e' => e (by cases e'; rfl)), rfl⟩) (fun e3 => ?_)
  refine ⟨_, _, eqInt64S_spec h a1 _ c1 ab1 _ cb1 _ _ h1 j1 ok.2.2.2.1, bs_nb (fun e => ⟨congrArg _ (eqb_false fun e' => of_eqb_false e (by cases e'; rfl)), rfl⟩) (fun e4 => ?_)⟩
  exact ⟨congrArg _ (eqb_true (Prod.ext e1 (Prod.ext e2 (Prod.ext e3 (of_eqb e4))))), rfl⟩

theorem eqProofS_spec (h : AHeap) (a : Option Addr) (n c : Nat) (a' : Option Addr) (n' c' : Nat) (xs ys : List proofSh.T) (hx : Sl h proofSh xs (.slice a n c)) (hy : Sl h proofSh ys (.slice a' n' c')) (ok : (Sh.sl proofSh).ok xs) :
    ACall Try.prog 155 [.slice a n c, .slice a' n' c'] h (.bool (eqb xs ys)) h := by
  have en := hx.len
  have en' := hy.len
  have hn : xs.length ≤ 9223372036854775807 := ok.1
  refine acall_out (acall_vc (fun _ => false) (fun _ => [(0, 0, []), (1, 0, []), (2, 0, []), (4, 0, []), (5, 0, []), (6, 0, []), (3, 1, []), (7, 1, []), (8, 3, []), (9, 0, [])]) (fun _ => eqLp h a n c a' n' c' xs ys) mixed Try.func155 rfl rfl rfl (Nat.le_of_ble_eq_true rfl) ?_ ?_)
  · refine vc_mp (by kernel_rfl : (True ∧ (True ∧ (True ∧ True) ∧ True) ∧ (True ∧ (∀ (i : Nat), EqI xs ys i → bs (decide ((↑i : Int) < (↑n : Int))) (∃ (l : Nat), ∃ (r : Nat), a = some (Addr.mk l r (some (4 : Nat))) ∧ (0 : Int) ≤ (↑i : Int) ∧ (↑i : Int) < (↑n : Int) ∧ ∃ (l_1 : Nat), ∃ (r_1 : Nat), a' = some (Addr.mk l_1 r_1 (some (4 : Nat))) ∧ (0 : Int) ≤ (↑i : Int) ∧ (↑i : Int) < (↑n' : Int) ∧ ∃ (x : Int), ∃ (x_1 : Int), ∃ (x_2 : ByteArray), ∃ (a_2 : Option Addr), ∃ (n_1 : Nat), ∃ (c_1 : Nat), AHeap.ld h l (r + Int.toNat (↑i : Int)) (0 : Nat) (4 : Nat) = some [Value.int IntKind.i64 x, Value.int IntKind.i64 x_1, Value.string x_2, Value.slice a_2 n_1 c_1] ∧ ∃ (x_3 : Int), ∃ (x_4 : Int), ∃ (x_5 : ByteArray), ∃ (a_3 : Option Addr), ∃ (n_2 : Nat), ∃ (c_2 : Nat), AHeap.ld h l_1 (r_1 + Int.toNat (↑i : Int)) (0 : Nat) (4 : Nat) = some [Value.int IntKind.i64 x_3, Value.int IntKind.i64 x_4, Value.string x_5, Value.slice a_3 n_2 c_2] ∧ ∃ (x_6 : Bool), ∃ (h' : AHeap), ACall Try.prog (171 : Nat) [Value.agg (Array.mk [Value.int IntKind.i64 x, Value.int IntKind.i64 x_1, Value.string x_2, Value.slice a_2 n_1 c_1]), Value.agg (Array.mk [Value.int IntKind.i64 x_3, Value.int IntKind.i64 x_4, Value.string x_5, Value.slice a_3 n_2 c_2])] h (Value.bool x_6) h' ∧ bs (!x_6) (Value.bool false = Value.bool (eqb xs ys) ∧ h' = h) (∃ (j : Nat), Value.slice a n c = Value.slice a n c ∧ Value.slice a' n' c' = Value.slice a' n' c' ∧ Value.int IntKind.i64 (IntKind.wrap IntKind.i64 ((↑i : Int) + (1 : Int))) = Value.int IntKind.i64 (↑j : Int) ∧ h = h' ∧ EqI xs ys j ∧ List.length xs - j < List.length xs - i ∧ (∀ (k : Unit), xs = ys → xs = ys) ∧ ∀ (v : Value) (h_1 : AHeap), v = Value.bool (eqb xs ys) ∧ h_1 = h → v = Value.bool (eqb xs ys) ∧ h_1 = h)) (∃ (j : Unit), h = h ∧ xs = ys)) ∧ (True ∧ True ∧ True) ∧ (True ∧ (True ∧ True) ∧ True) ∧ True) ∧ True ∧ True) = _) ?_
    simp only [true_and, and_true]
    rintro (i : Nat) I
    have hl := I.len
    have hi := I.hi
    refine bs_d (fun hlt => ?_) (fun hge => ?_)
    · have hxi : i < xs.length := by omega
      have hyi : i < ys.length := by omega
      obtain ⟨l, r, row, ha, hin, hrd, hld⟩ := hx.elem (List.getElem?_eq_getElem hxi)
      obtain ⟨l', r', row', ha', hin', hrd', hld'⟩ := hy.elem (List.getElem?_eq_getElem hyi)
      obtain ⟨v1, rfl, k1⟩ := rd_proof.1 hrd
      obtain ⟨w1, rfl, kk1⟩ := rd_proof.1 hrd'
      obtain ⟨a1, c1, rfl⟩ := k1.isSlice
      obtain ⟨b1, d1, rfl⟩ := kk1.isSlice
      refine ⟨l, r, ha, Int.natCast_nonneg _, hlt, l', r', ha', Int.natCast_nonneg _, by omega, _, _, _, _, _, _, hld, _, _, _, _, _, _, hld', _, _, eqProof_spec h xs[i] ys[i] _ k1 _ kk1 (ok.2 _ (List.getElem_mem hxi)), bs_nb (fun hb => ?_) (fun hb => ?_)⟩
      · exact ⟨congrArg _ (eqb_false fun e => of_eqb_false hb (by subst e; rfl)), rfl⟩
      · exact ⟨i + 1, by rw [wrap_i64 (by omega)] <;> rfl, rfl, I.step hxi hyi (of_eqb hb), by omega, fun _ h => h, fun _ _ h => h⟩
    · have e : i = xs.length := by omega
      subst e
      exact ⟨(), I.all⟩
  · refine vc_mp (by kernel_rfl : (bs (!decide ((↑n : Int) = (↑n' : Int))) (Value.bool false = Value.bool (eqb xs ys) ∧ h = h) (∃ (i : Nat), Value.slice a n c = Value.slice a n c ∧ Value.slice a' n' c' = Value.slice a' n' c' ∧ Value.int IntKind.i64 (0 : Int) = Value.int IntKind.i64 (↑i : Int) ∧ h = h ∧ EqI xs ys i ∧ (∀ (j : Unit), xs = ys → Value.bool true = Value.bool (eqb xs ys) ∧ h = h) ∧ ∀ (v : Value) (h_1 : AHeap), v = Value.bool (eqb xs ys) ∧ h_1 = h → v = Value.bool (eqb xs ys) ∧ h_1 = h)) = _) ?_
    refine bs_dn (fun hne => ⟨congrArg _ (eqb_false fun e => hne (by rw [← en, ← en', e])), rfl⟩) (fun he => ?_)
    exact ⟨(0 : Nat), rfl, rfl, rfl, rfl, ⟨by omega, Nat.zero_le _, rfl⟩, fun j e => ⟨congrArg _ (eqb_true e), rfl⟩, fun _ _ h => h⟩

theorem eqChange_spec (h : AHeap) (x y : changeSh.T) (v1 : Value) (h1 : Sl h proofSh x.2.2 v1) (w1 : Value) (j1 : Sl h proofSh y.2.2 w1) (ok : changeSh.ok x) :
    ACall Try.prog 129 [.agg #[.int .i64 x.1, .int .i64 x.2.1, v1], .agg #[.int .i64 y.1, .int .i64 y.2.1, w1]] h (.bool (eqb x y)) h := by
  obtain ⟨x1, x2, x3⟩ := x
  obtain ⟨y1, y2, y3⟩ := y
  try dsimp only at *
  obtain ⟨a1, c1, rfl⟩ := h1.isSlice
  obtain ⟨ab1, cb1, rfl⟩ := j1.isSlice
  refine acall_out (acall_vc (fun _ => false) (fun _ => []) (fun _ => .none) mixed Try.func129 rfl rfl rfl (Nat.le_of_ble_eq_true rfl) (by refine vc_mp (by kernel_rfl : (True ∧ (True ∧ (True ∧ True) ∧ True) ∧ (True ∧ (True ∧ True) ∧ True) ∧ (True ∧ (True ∧ True) ∧ True) ∧ True ∧ True) = _) ?_; simp only [and_self]) ?_)
  refine vc_mp (by kernel_rfl : (bs (!decide (x1 = y1)) (Value.bool false = Value.bool (eqb (x1, x2, x3) (y1, y2, y3)) ∧ h = h) (bs (!decide (x2 = y2)) (Value.bool false = Value.bool (eqb (x1, x2, x3) (y1, y2, y3)) ∧ h = h) (∃ (x : Bool), ∃ (h' : AHeap), ACall Try.prog (155 : Nat) [Value.slice a1 (List.length x3) c1, Value.slice ab1 (List.length y3) cb1] h (Value.bool x) h' ∧ bs (!x) (Value.bool false = Value.bool (eqb (x1, x2, x3) (y1, y2, y3)) ∧ h' = h) (Value.bool true = Value.bool (eqb (x1, x2, x3) (y1, y2, y3)) ∧ h' = h)))) = _) ?_
  refine bs_dn (fun e => ⟨congrArg _ (eqb_false fun e' => e (by cases e'; rfl)), rfl⟩) (fun e1 => ?_)
  refine bs_dn (fun e => ⟨congrArg _ (eqb_false fun e' => e (by cases e'; rfl)), rfl⟩) (fun e2 => ?_)
  refine ⟨_, _, eqProofS_spec h a1 _ c1 ab1 _ cb1 _ _ h1 j1 ok.2.2, bs_nb (fun e => ⟨congrArg _ (eqb_false fun e' => of_eqb_false e (by cases e'; rfl)), rfl⟩) (fun e3 => ?_)⟩
  exact ⟨congrArg _ (eqb_true (Prod.ext e1 (Prod.ext e2 (of_eqb e3)))), rfl⟩

theorem eqChangeS_spec (h : AHeap) (a : Option Addr) (n c : Nat) (a' : Option Addr) (n' c' : Nat) (xs ys : List changeSh.T) (hx : Sl h changeSh xs (.slice a n c)) (hy : Sl h changeSh ys (.slice a' n' c')) (ok : (Sh.sl changeSh).ok xs) :
    ACall Try.prog 93 [.slice a n c, .slice a' n' c'] h (.bool (eqb xs ys)) h := by
  have en := hx.len
  have en' := hy.len
  have hn : xs.length ≤ 9223372036854775807 := ok.1
  refine acall_out (acall_vc (fun _ => false) (fun _ => [(0, 0, []), (1, 0, []), (2, 0, []), (4, 0, []), (5, 0, []), (6, 0, []), (3, 1, []), (7, 1, []), (8, 3, []), (9, 0, [])]) (fun _ => eqLp h a n c a' n' c' xs ys) mixed Try.func93 rfl rfl rfl (Nat.le_of_ble_eq_true rfl) ?_ ?_)
  · refine vc_mp (by kernel_rfl : (True ∧ (True ∧ (True ∧ True) ∧ True) ∧ (True ∧ (∀ (i : Nat), EqI xs ys i → bs (decide ((↑i : Int) < (↑n : Int))) (∃ (l : Nat), ∃ (r : Nat), a = some (Addr.mk l r (some (3 : Nat))) ∧ (0 : Int) ≤ (↑i : Int) ∧ (↑i : Int) < (↑n : Int) ∧ ∃ (l_1 : Nat), ∃ (r_1 : Nat), a' = some (Addr.mk l_1 r_1 (some (3 : Nat))) ∧ (0 : Int) ≤ (↑i : Int) ∧ (↑i : Int) < (↑n' : Int) ∧ ∃ (x : Int), ∃ (x_1 : Int), ∃ (a_2 : Option Addr), ∃ (n_1 : Nat), ∃ (c_1 : Nat), AHeap.ld h l (r + Int.toNat (↑i : Int)) (0 : Nat) (3 : Nat) = some [Value.int IntKind.i64 x, Value.int IntKind.i64 x_1, Value.slice a_2 n_1 c_1] ∧ ∃ (x_2 : Int), ∃ (x_3 : Int), ∃ (a_3 : Option Addr), ∃ (n_2 : Nat), ∃ (c_2 : Nat), AHeap.ld h l_1 (r_1 + Int.toNat (↑i : Int)) (0 : Nat) (3 : Nat) = some [Value.int IntKind.i64 x_2, Value.int IntKind.i64 x_3, Value.slice a_3 n_2 c_2] ∧ ∃ (x_4 : Bool), ∃ (h' : AHeap), ACall Try.prog (129 : Nat) [Value.agg (Array.mk [Value.int IntKind.i64 x, Value.int IntKind.i64 x_1, Value.slice a_2 n_1 c_1]), Value.agg (Array.mk [Value.int IntKind.i64 x_2, Value.int IntKind.i64 x_3, Value.slice a_3 n_2 c_2])] h (Value.bool x_4) h' ∧ bs (!x_4) (Value.bool false = Value.bool (eqb xs ys) ∧ h' = h) (∃ (j : Nat), Value.slice a n c = Value.slice a n c ∧ Value.slice a' n' c' = Value.slice a' n' c' ∧ Value.int IntKind.i64 (IntKind.wrap IntKind.i64 ((↑i : Int) + (1 : Int))) = Value.int IntKind.i64 (↑j : Int) ∧ h = h' ∧ EqI xs ys j ∧ List.length xs - j < List.length xs - i ∧ (∀ (k : Unit), xs = ys → xs = ys) ∧ ∀ (v : Value) (h_1 : AHeap), v = Value.bool (eqb xs ys) ∧ h_1 = h → v = Value.bool (eqb xs ys) ∧ h_1 = h)) (∃ (j : Unit), h = h ∧ xs = ys)) ∧ (True ∧ True ∧ True) ∧ (True ∧ (True ∧ True) ∧ True) ∧ True) ∧ True ∧ True) = _) ?_
    simp only [true_and, and_true]
    rintro (i : Nat) I
    have hl := I.len
    have hi := I.hi
    refine bs_d (fun hlt => ?_) (fun hge => ?_)
    · have hxi : i < xs.length := by omega
      have hyi : i < ys.length := by omega
      obtain ⟨l, r, row, ha, hin, hrd, hld⟩ := hx.elem (List.getElem?_eq_getElem hxi)
      obtain ⟨l', r', row', ha', hin', hrd', hld'⟩ := hy.elem (List.getElem?_eq_getElem hyi)
      obtain ⟨v1, rfl, k1⟩ := rd_change.1 hrd
      obtain ⟨w1, rfl, kk1⟩ := rd_change.1 hrd'
      obtain ⟨a1, c1, rfl⟩ := k1.isSlice
      obtain ⟨b1, d1, rfl⟩ := kk1.isSlice
      refine ⟨l, r, ha, Int.natCast_nonneg _, hlt, l', r', ha', Int.natCast_nonneg _, by omega, _, _, _, _, _, hld, _, _, _, _, _, hld', _, _, eqChange_spec h xs[i] ys[i] _ k1 _ kk1 (ok.2 _ (List.getElem_mem hxi)), bs_nb (fun hb => ?_) (fun hb => ?_)⟩
      · exact ⟨congrArg _ (eqb_false fun e => of_eqb_false hb (by subst e; rfl)), rfl⟩
      · exact ⟨i + 1, by rw [wrap_i64 (by omega)] <;> rfl, rfl, I.step hxi hyi (of_eqb hb), by omega, fun _ h => h, fun _ _ h => h⟩
    · have e : i = xs.length := by omega
      subst e
      exact ⟨(), I.all⟩
  · refine vc_mp (by kernel_rfl : (bs (!decide ((↑n : Int) = (↑n' : Int))) (Value.bool false = Value.bool (eqb xs ys) ∧ h = h) (∃ (i : Nat), Value.slice a n c = Value.slice a n c ∧ Value.slice a' n' c' = Value.slice a' n' c' ∧ Value.int IntKind.i64 (0 : Int) = Value.int IntKind.i64 (↑i : Int) ∧ h = h ∧ EqI xs ys i ∧ (∀ (j : Unit), xs = ys → Value.bool true = Value.bool (eqb xs ys) ∧ h = h) ∧ ∀ (v : Value) (h_1 : AHeap), v = Value.bool (eqb xs ys) ∧ h_1 = h → v = Value.bool (eqb xs ys) ∧ h_1 = h)) = _) ?_
    refine bs_dn (fun hne => ⟨congrArg _ (eqb_false fun e => hne (by rw [← en, ← en', e])), rfl⟩) (fun he => ?_)
    exact ⟨(0 : Nat), rfl, rfl, rfl, rfl, ⟨by omega, Nat.zero_le _, rfl⟩, fun j e => ⟨congrArg _ (eqb_true e), rfl⟩, fun _ _ h => h⟩

theorem eqSay_spec (h : AHeap) (x y : saySh.T) (v1 : Value) (h1 : Sl h changeSh x.2.2.2.2.2 v1) (w1 : Value) (j1 : Sl h changeSh y.2.2.2.2.2 w1) (ok : saySh.ok x) :
    ACall Try.prog 94 [.agg #[.int .i64 x.1, .int .i64 x.2.1, .int .i64 x.2.2.1, .int .i64 x.2.2.2.1, .string x.2.2.2.2.1, v1], .agg #[.int .i64 y.1, .int .i64 y.2.1, .int .i64 y.2.2.1, .int .i64 y.2.2.2.1, .string y.2.2.2.2.1, w1]] h (.bool (eqb x y)) h := by
  obtain ⟨x1, x2, x3, x4, x5, x6⟩ := x
  obtain ⟨y1, y2, y3, y4, y5, y6⟩ := y
  try dsimp only at *
  obtain ⟨a1, c1, rfl⟩ := h1.isSlice
  obtain ⟨ab1, cb1, rfl⟩ := j1.isSlice
  refine acall_out (acall_vc (fun _ => false) (fun _ => []) (fun _ => .none) mixed Try.func94 rfl rfl rfl (Nat.le_of_ble_eq_true rfl) (by refine vc_mp (by kernel_rfl : (True ∧ (True ∧ (True ∧ True) ∧ True) ∧ (True ∧ (True ∧ True) ∧ True) ∧ (True ∧ (True ∧ True) ∧ True) ∧ (True ∧ (True ∧ True) ∧ True) ∧ (True ∧ (True ∧ True) ∧ True) ∧ (True ∧ (True ∧ True) ∧ True) ∧ True ∧ True) = _) ?_; simp only [and_self]) ?_)
  refine vc_mp (by kernel_rfl : (bs (!decide (x1 = y1)) (Value.bool false = Value.bool (eqb (x1, x2, x3, x4, x5, x6) (y1, y2, y3, y4, y5, y6)) ∧ h = h) (bs (!decide (x2 = y2)) (Value.bool false = Value.bool (eqb (x1, x2, x3, x4, x5, x6) (y1, y2, y3, y4, y5, y6)) ∧ h = h) (bs (!decide (x3 = y3)) (Value.bool false = Value.bool (eqb (x1, x2, x3, x4, x5, x6) (y1, y2, y3, y4, y5, y6)) ∧ h = h) (bs (!decide (x4 = y4)) (Value.bool false = Value.bool (eqb (x1, x2, x3, x4, x5, x6) (y1, y2, y3, y4, y5, y6)) ∧ h = h) (bs (!decide (x5 = y5)) (Value.bool false = Value.bool (eqb (x1, x2, x3, x4, x5, x6) (y1, y2, y3, y4, y5, y6)) ∧ h = h) (∃ (x : Bool), ∃ (h' : AHeap), ACall Try.prog (93 : Nat) [Value.slice a1 (List.length x6) c1, Value.slice ab1 (List.length y6) cb1] h (Value.bool x) h' ∧ bs (!x) (Value.bool false = Value.bool (eqb (x1, x2, x3, x4, x5, x6) (y1, y2, y3, y4, y5, y6)) ∧ h' = h) (Value.bool true = Value.bool (eqb (x1, x2, x3, x4, x5, x6) (y1, y2, y3, y4, y5, y6)) ∧ h' = h))))))) = _) ?_
  refine bs_dn (fun e => ⟨congrArg _ (eqb_false fun e' => e (by cases e'; rfl)), rfl⟩) (fun e1 => ?_)
  refine bs_dn (fun e => ⟨congrArg _ (eqb_false fun e' => e (by cases e'; rfl)), rfl⟩) (fun e2 => ?_)
  refine bs_dn (fun e => ⟨congrArg _ (eqb_false fun e' => e (by cases e'; rfl)), rfl⟩) (fun e3 => ?_)
  refine bs_dn (fun e => ⟨congrArg _ (eqb_false fun e' => e (by cases e'; rfl)), rfl⟩) (fun e4 => ?_)
  refine bs_dn (fun e => ⟨congrArg _ (eqb_false fun e' => e (by cases e'; rfl)), rfl⟩) (fun e5 => ?_)
  refine ⟨_, _, eqChangeS_spec h a1 _ c1 ab1 _ cb1 _ _ h1 j1 ok.2.2.2.2.2, bs_nb (fun e => ⟨congrArg _ (eqb_false fun e' => of_eqb_false e (by cases e'; rfl)), rfl⟩) (fun e6 => ?_)⟩
  exact ⟨congrArg _ (eqb_true (Prod.ext e1 (Prod.ext e2 (Prod.ext e3 (Prod.ext e4 (Prod.ext e5 (of_eqb e6))))))), rfl⟩

theorem eqVote_spec (h : AHeap) (x y : voteSh.T) :
    ACall Try.prog 128 [.agg #[.int .i64 x.1, .int .i64 x.2.1, .int .i64 x.2.2.1, .string x.2.2.2.1, .int .i64 x.2.2.2.2], .agg #[.int .i64 y.1, .int .i64 y.2.1, .int .i64 y.2.2.1, .string y.2.2.2.1, .int .i64 y.2.2.2.2]] h (.bool (eqb x y)) h := by
  obtain ⟨x1, x2, x3, x4, x5⟩ := x
  obtain ⟨y1, y2, y3, y4, y5⟩ := y
  try dsimp only at *
  refine acall_out (acall_vc (fun _ => false) (fun _ => []) (fun _ => .none) mixed Try.func128 rfl rfl rfl (Nat.le_of_ble_eq_true rfl) (by refine vc_mp (by kernel_rfl : (True ∧ (True ∧ (True ∧ True) ∧ True) ∧ (True ∧ (True ∧ True) ∧ True) ∧ (True ∧ (True ∧ True) ∧ True) ∧ (True ∧ (True ∧ True) ∧ True) ∧ (True ∧ (True ∧ True) ∧ True) ∧ True ∧ True) = _) ?_; simp only [and_self]) ?_)
  refine vc_mp (by kernel_rfl : (bs (!decide (x1 = y1)) (Value.bool false = Value.bool (eqb (x1, x2, x3, x4, x5) (y1, y2, y3, y4, y5)) ∧ h = h) (bs (!decide (x2 = y2)) (Value.bool false = Value.bool (eqb (x1, x2, x3, x4, x5) (y1, y2, y3, y4, y5)) ∧ h = h) (bs (!decide (x3 = y3)) (Value.bool false = Value.bool (eqb (x1, x2, x3, x4, x5) (y1, y2, y3, y4, y5)) ∧ h = h) (bs (!decide (x4 = y4)) (Value.bool false = Value.bool (eqb (x1, x2, x3, x4, x5) (y1, y2, y3, y4, y5)) ∧ h = h) (bs (!decide (x5 = y5)) (Value.bool false = Value.bool (eqb (x1, x2, x3, x4, x5) (y1, y2, y3, y4, y5)) ∧ h = h) (Value.bool true = Value.bool (eqb (x1, x2, x3, x4, x5) (y1, y2, y3, y4, y5)) ∧ h = h)))))) = _) ?_
  refine bs_dn (fun e => ⟨congrArg _ (eqb_false fun e' => e (by cases e'; rfl)), rfl⟩) (fun e1 => ?_)
  refine bs_dn (fun e => ⟨congrArg _ (eqb_false fun e' => e (by cases e'; rfl)), rfl⟩) (fun e2 => ?_)
  refine bs_dn (fun e => ⟨congrArg _ (eqb_false fun e' => e (by cases e'; rfl)), rfl⟩) (fun e3 => ?_)
  refine bs_dn (fun e => ⟨congrArg _ (eqb_false fun e' => e (by cases e'; rfl)), rfl⟩) (fun e4 => ?_)
  refine bs_dn (fun e => ⟨congrArg _ (eqb_false fun e' => e (by cases e'; rfl)), rfl⟩) (fun e5 => ?_)
  exact ⟨congrArg _ (eqb_true (Prod.ext e1 (Prod.ext e2 (Prod.ext e3 (Prod.ext e4 e5))))), rfl⟩

theorem eqVoteS_spec (h : AHeap) (a : Option Addr) (n c : Nat) (a' : Option Addr) (n' c' : Nat) (xs ys : List voteSh.T) (hx : Sl h voteSh xs (.slice a n c)) (hy : Sl h voteSh ys (.slice a' n' c')) (ok : xs.length ≤ 9223372036854775807) :
    ACall Try.prog 92 [.slice a n c, .slice a' n' c'] h (.bool (eqb xs ys)) h := by
  have en := hx.len
  have en' := hy.len
  have hn : xs.length ≤ 9223372036854775807 := ok
  refine acall_out (acall_vc (fun _ => false) (fun _ => [(0, 0, []), (1, 0, []), (2, 0, []), (4, 0, []), (5, 0, []), (6, 0, []), (3, 1, []), (7, 1, []), (8, 3, []), (9, 0, [])]) (fun _ => eqLp h a n c a' n' c' xs ys) mixed Try.func92 rfl rfl rfl (Nat.le_of_ble_eq_true rfl) ?_ ?_)
  · refine vc_mp (by kernel_rfl : (True ∧ (True ∧ (True ∧ True) ∧ True) ∧ (True ∧ (∀ (i : Nat), EqI xs ys i → bs (decide ((↑i : Int) < (↑n : Int))) (∃ (l : Nat), ∃ (r : Nat), a = some (Addr.mk l r (some (5 : Nat))) ∧ (0 : Int) ≤ (↑i : Int) ∧ (↑i : Int) < (↑n : Int) ∧ ∃ (l_1 : Nat), ∃ (r_1 : Nat), a' = some (Addr.mk l_1 r_1 (some (5 : Nat))) ∧ (0 : Int) ≤ (↑i : Int) ∧ (↑i : Int) < (↑n' : Int) ∧ ∃ (x : Int), ∃ (x_1 : Int), ∃ (x_2 : Int), ∃ (x_3 : ByteArray), ∃ (x_4 : Int), AHeap.ld h l (r + Int.toNat (↑i : Int)) (0 : Nat) (5 : Nat) = some [Value.int IntKind.i64 x, Value.int IntKind.i64 x_1, Value.int IntKind.i64 x_2, Value.string x_3, Value.int IntKind.i64 x_4] ∧ ∃ (x_5 : Int), ∃ (x_6 : Int), ∃ (x_7 : Int), ∃ (x_8 : ByteArray), ∃ (x_9 : Int), AHeap.ld h l_1 (r_1 + Int.toNat (↑i : Int)) (0 : Nat) (5 : Nat) = some [Value.int IntKind.i64 x_5, Value.int IntKind.i64 x_6, Value.int IntKind.i64 x_7, Value.string x_8, Value.int IntKind.i64 x_9] ∧ ∃ (x_10 : Bool), ∃ (h' : AHeap), ACall Try.prog (128 : Nat) [Value.agg (Array.mk [Value.int IntKind.i64 x, Value.int IntKind.i64 x_1, Value.int IntKind.i64 x_2, Value.string x_3, Value.int IntKind.i64 x_4]), Value.agg (Array.mk [Value.int IntKind.i64 x_5, Value.int IntKind.i64 x_6, Value.int IntKind.i64 x_7, Value.string x_8, Value.int IntKind.i64 x_9])] h (Value.bool x_10) h' ∧ bs (!x_10) (Value.bool false = Value.bool (eqb xs ys) ∧ h' = h) (∃ (j : Nat), Value.slice a n c = Value.slice a n c ∧ Value.slice a' n' c' = Value.slice a' n' c' ∧ Value.int IntKind.i64 (IntKind.wrap IntKind.i64 ((↑i : Int) + (1 : Int))) = Value.int IntKind.i64 (↑j : Int) ∧ h = h' ∧ EqI xs ys j ∧ List.length xs - j < List.length xs - i ∧ (∀ (k : Unit), xs = ys → xs = ys) ∧ ∀ (v : Value) (h_1 : AHeap), v = Value.bool (eqb xs ys) ∧ h_1 = h → v = Value.bool (eqb xs ys) ∧ h_1 = h)) (∃ (j : Unit), h = h ∧ xs = ys)) ∧ (True ∧ True ∧ True) ∧ (True ∧ (True ∧ True) ∧ True) ∧ True) ∧ True ∧ True) = _) ?_
    simp only [true_and, and_true]
    rintro (i : Nat) I
    have hl := I.len
    have hi := I.hi
    refine bs_d (fun hlt => ?_) (fun hge => ?_)
    · have hxi : i < xs.length := by omega
      have hyi : i < ys.length := by omega
      obtain ⟨l, r, row, ha, hin, hrd, hld⟩ := hx.elem (List.getElem?_eq_getElem hxi)
      obtain ⟨l', r', row', ha', hin', hrd', hld'⟩ := hy.elem (List.getElem?_eq_getElem hyi)
      obtain rfl := rd_vote.1 hrd
      obtain rfl := rd_vote.1 hrd'
      refine ⟨l, r, ha, Int.natCast_nonneg _, hlt, l', r', ha', Int.natCast_nonneg _, by omega, _, _, _, _, _, hld, _, _, _, _, _, hld', _, _, eqVote_spec h xs[i] ys[i], bs_nb (fun hb => ?_) (fun hb => ?_)⟩
      · exact ⟨congrArg _ (eqb_false fun e => of_eqb_false hb (by subst e; rfl)), rfl⟩
      · exact ⟨i + 1, by rw [wrap_i64 (by omega)] <;> rfl, rfl, I.step hxi hyi (of_eqb hb), by omega, fun _ h => h, fun _ _ h => h⟩
    · have e : i = xs.length := by omega
      subst e
      exact ⟨(), I.all⟩
  · refine vc_mp (by kernel_rfl : (bs (!decide ((↑n : Int) = (↑n' : Int))) (Value.bool false = Value.bool (eqb xs ys) ∧ h = h) (∃ (i : Nat), Value.slice a n c = Value.slice a n c ∧ Value.slice a' n' c' = Value.slice a' n' c' ∧ Value.int IntKind.i64 (0 : Int) = Value.int IntKind.i64 (↑i : Int) ∧ h = h ∧ EqI xs ys i ∧ (∀ (j : Unit), xs = ys → Value.bool true = Value.bool (eqb xs ys) ∧ h = h) ∧ ∀ (v : Value) (h_1 : AHeap), v = Value.bool (eqb xs ys) ∧ h_1 = h → v = Value.bool (eqb xs ys) ∧ h_1 = h)) = _) ?_
    refine bs_dn (fun hne => ⟨congrArg _ (eqb_false fun e => hne (by rw [← en, ← en', e])), rfl⟩) (fun he => ?_)
    exact ⟨(0 : Nat), rfl, rfl, rfl, rfl, ⟨by omega, Nat.zero_le _, rfl⟩, fun j e => ⟨congrArg _ (eqb_true e), rfl⟩, fun _ _ h => h⟩

theorem eqReplica_spec (h : AHeap) (x y : replicaSh.T) (v1 : Value) (v2 : Value) (v3 : Value) (v4 : Value) (h1 : Sl h voteSh x.2.2.2.2.1 v1) (h2 : Sl h changeSh x.2.2.2.2.2.1 v2) (h3 : Sl h changeSh x.2.2.2.2.2.2.1.2.2.2.2.2 v3) (h4 : Sl h Sh.str x.2.2.2.2.2.2.2 v4) (w1 : Value) (w2 : Value) (w3 : Value) (w4 : Value) (j1 : Sl h voteSh y.2.2.2.2.1 w1) (j2 : Sl h changeSh y.2.2.2.2.2.1 w2) (j3 : Sl h changeSh y.2.2.2.2.2.2.1.2.2.2.2.2 w3) (j4 : Sl h Sh.str y.2.2.2.2.2.2.2 w4) (ok : replicaSh.ok x) :
    ACall Try.prog 46 [.agg #[.int .i64 x.1, .int .i64 x.2.1, .bool x.2.2.1, .int .i64 x.2.2.2.1, v1, v2, .int .i64 x.2.2.2.2.2.2.1.1, .int .i64 x.2.2.2.2.2.2.1.2.1, .int .i64 x.2.2.2.2.2.2.1.2.2.1, .int .i64 x.2.2.2.2.2.2.1.2.2.2.1, .string x.2.2.2.2.2.2.1.2.2.2.2.1, v3, v4], .agg #[.int .i64 y.1, .int .i64 y.2.1, .bool y.2.2.1, .int .i64 y.2.2.2.1, w1, w2, .int .i64 y.2.2.2.2.2.2.1.1, .int .i64 y.2.2.2.2.2.2.1.2.1, .int .i64 y.2.2.2.2.2.2.1.2.2.1, .int .i64 y.2.2.2.2.2.2.1.2.2.2.1, .string y.2.2.2.2.2.2.1.2.2.2.2.1, w3, w4]] h (.bool (eqb x y)) h := by
  obtain ⟨x1, x2, x3, x4, x5, x6, ⟨x7, x8, x9, x10, x11, x12⟩, x13⟩ := x
  obtain ⟨y1, y2, y3, y4, y5, y6, ⟨y7, y8, y9, y10, y11, y12⟩, y13⟩ := y
  try dsimp only at *
  obtain ⟨a1, c1, rfl⟩ := h1.isSlice
  obtain ⟨a2, c2, rfl⟩ := h2.isSlice
  obtain ⟨a3, c3, rfl⟩ := h3.isSlice
  obtain ⟨a4, c4, rfl⟩ := h4.isSlice
  obtain ⟨ab1, cb1, rfl⟩ := j1.isSlice
  obtain ⟨ab2, cb2, rfl⟩ := j2.isSlice
  obtain ⟨ab3, cb3, rfl⟩ := j3.isSlice
  obtain ⟨ab4, cb4, rfl⟩ := j4.isSlice
  refine acall_out (acall_vc (fun _ => false) (fun _ => []) (fun _ => .none) mixed Try.func46 rfl rfl rfl (Nat.le_of_ble_eq_true rfl) (by refine vc_mp (by kernel_rfl : (True ∧ (True ∧ (True ∧ True) ∧ True) ∧ (True ∧ (True ∧ True) ∧ True) ∧ (True ∧ (True ∧ True) ∧ True) ∧ (True ∧ (True ∧ True) ∧ True) ∧ (True ∧ (True ∧ True) ∧ True) ∧ (True ∧ (True ∧ True) ∧ True) ∧ (True ∧ (True ∧ True) ∧ True) ∧ (True ∧ (True ∧ True) ∧ True) ∧ True ∧ True) = _) ?_; simp only [and_self]) ?_)
  refine vc_mp (by kernel_rfl : (bs (!decide (x1 = y1)) (Value.bool false = Value.bool (eqb (x1, x2, x3, x4, x5, x6, (x7, x8, x9, x10, x11, x12), x13) (y1, y2, y3, y4, y5, y6, (y7, y8, y9, y10, y11, y12), y13)) ∧ h = h) (bs (!decide (x2 = y2)) (Value.bool false = Value.bool (eqb (x1, x2, x3, x4, x5, x6, (x7, x8, x9, x10, x11, x12), x13) (y1, y2, y3, y4, y5, y6, (y7, y8, y9, y10, y11, y12), y13)) ∧ h = h) (bs (!decide (x3 = y3)) (Value.bool false = Value.bool (eqb (x1, x2, x3, x4, x5, x6, (x7, x8, x9, x10, x11, x12), x13) (y1, y2, y3, y4, y5, y6, (y7, y8, y9, y10, y11, y12), y13)) ∧ h = h) (bs (!decide (x4 = y4)) (Value.bool false = Value.bool (eqb (x1, x2, x3, x4, x5, x6, (x7, x8, x9, x10, x11, x12), x13) (y1, y2, y3, y4, y5, y6, (y7, y8, y9, y10, y11, y12), y13)) ∧ h = h) (∃ (x : Bool), ∃ (h' : AHeap), ACall Try.prog (92 : Nat) [Value.slice a1 (List.length x5) c1, Value.slice ab1 (List.length y5) cb1] h (Value.bool x) h' ∧ bs (!x) (Value.bool false = Value.bool (eqb (x1, x2, x3, x4, x5, x6, (x7, x8, x9, x10, x11, x12), x13) (y1, y2, y3, y4, y5, y6, (y7, y8, y9, y10, y11, y12), y13)) ∧ h' = h) (∃ (x : Bool), ∃ (h'_1 : AHeap), ACall Try.prog (93 : Nat) [Value.slice a2 (List.length x6) c2, Value.slice ab2 (List.length y6) cb2] h' (Value.bool x) h'_1 ∧ bs (!x) (Value.bool false = Value.bool (eqb (x1, x2, x3, x4, x5, x6, (x7, x8, x9, x10, x11, x12), x13) (y1, y2, y3, y4, y5, y6, (y7, y8, y9, y10, y11, y12), y13)) ∧ h'_1 = h) (∃ (x : Bool), ∃ (h' : AHeap), ACall Try.prog (94 : Nat) [Value.agg (Array.mk [Value.int IntKind.i64 x7, Value.int IntKind.i64 x8, Value.int IntKind.i64 x9, Value.int IntKind.i64 x10, Value.string x11, Value.slice a3 (List.length x12) c3]), Value.agg (Array.mk [Value.int IntKind.i64 y7, Value.int IntKind.i64 y8, Value.int IntKind.i64 y9, Value.int IntKind.i64 y10, Value.string y11, Value.slice ab3 (List.length y12) cb3])] h'_1 (Value.bool x) h' ∧ bs (!x) (Value.bool false = Value.bool (eqb (x1, x2, x3, x4, x5, x6, (x7, x8, x9, x10, x11, x12), x13) (y1, y2, y3, y4, y5, y6, (y7, y8, y9, y10, y11, y12), y13)) ∧ h' = h) (∃ (x : Bool), ∃ (h'_2 : AHeap), ACall Try.prog (17 : Nat) [Value.slice a4 (List.length x13) c4, Value.slice ab4 (List.length y13) cb4] h' (Value.bool x) h'_2 ∧ bs (!x) (Value.bool false = Value.bool (eqb (x1, x2, x3, x4, x5, x6, (x7, x8, x9, x10, x11, x12), x13) (y1, y2, y3, y4, y5, y6, (y7, y8, y9, y10, y11, y12), y13)) ∧ h'_2 = h) (Value.bool true = Value.bool (eqb (x1, x2, x3, x4, x5, x6, (x7, x8, x9, x10, x11, x12), x13) (y1, y2, y3, y4, y5, y6, (y7, y8, y9, y10, y11, y12), y13)) ∧ h'_2 = h))))))))) = _) ?_
  refine bs_dn (fun e => ⟨congrArg _ (eqb_false fun e' => e (by cases e'; rfl)), rfl⟩) (fun e1 => ?_)
  refine bs_dn (fun e => ⟨congrArg _ (eqb_false fun e' => e (by cases e'; rfl)), rfl⟩) (fun e2 => ?_)
  refine bs_dn (fun e => ⟨congrArg _ (eqb_false fun e' => e (by cases e'; rfl)), rfl⟩) (fun e3 => ?_)
  refine bs_dn (fun e => ⟨congrArg _ (eqb_false fun e' => e (by cases e'; rfl)), rfl⟩) (fun e4 => ?_)
  refine ⟨_, _, eqVoteS_spec h a1 _ c1 ab1 _ cb1 _ _ h1 j1 ok.2.2.2.2.1.1, bs_nb (fun e => ⟨congrArg _ (eqb_false fun e' => of_eqb_false e (by cases e'; rfl)), rfl⟩) (fun e5 => ?_)⟩
  refine ⟨_, _, eqChangeS_spec h a2 _ c2 ab2 _ cb2 _ _ h2 j2 ok.2.2.2.2.2.1, bs_nb (fun e => ⟨congrArg _ (eqb_false fun e' => of_eqb_false e (by cases e'; rfl)), rfl⟩) (fun e6 => ?_)⟩
  refine ⟨_, _, eqSay_spec h (x7, x8, x9, x10, x11, x12) (y7, y8, y9, y10, y11, y12) _ h3 _ j3 ok.2.2.2.2.2.2.1, bs_nb (fun e => ⟨congrArg _ (eqb_false fun e' => of_eqb_false e (by cases e'; rfl)), rfl⟩) (fun e7 => ?_)⟩
  refine ⟨_, _, eqStringS_spec h a4 _ c4 ab4 _ cb4 _ _ h4 j4 ok.2.2.2.2.2.2.2.1, bs_nb (fun e => ⟨congrArg _ (eqb_false fun e' => of_eqb_false e (by cases e'; rfl)), rfl⟩) (fun e8 => ?_)⟩
  exact ⟨congrArg _ (eqb_true (Prod.ext e1 (Prod.ext e2 (Prod.ext e3 (Prod.ext e4 (Prod.ext (of_eqb e5) (Prod.ext (of_eqb e6) (Prod.ext (of_eqb e7) (of_eqb e8))))))))), rfl⟩

theorem szHeard_spec (h : AHeap) (x : heardSh.T) (left : Int) (hl : 0 ≤ left ∧ left ≤ 1048576) (ok : heardSh.ok x) :
    ACall Try.prog 119 [.agg #[.int .i64 x.1, .string x.2], .int .i64 left] h (.int .i64 (heardSh.sz x left)) h := by
  obtain ⟨x1, x2⟩ := x
  try dsimp only at *
  refine acall_out (acall_vc (fun _ => false) (fun _ => []) (fun _ => .none) mixed Try.func119 rfl rfl rfl (Nat.le_of_ble_eq_true rfl) (by refine vc_mp (by kernel_rfl : (True ∧ True ∧ (True ∧ (True ∧ True) ∧ True) ∧ True ∧ True) = _) ?_; simp only [and_self]) ?_)
  refine vc_mp (by kernel_rfl : (bs (decide (IntKind.wrap IntKind.i64 (left - (↑(ByteArray.size x2) : Int)) < (0 : Int))) (Value.int IntKind.i64 (-1 : Int) = Value.int IntKind.i64 (Sh.sz heardSh (x1, x2) left) ∧ h = h) (Value.int IntKind.i64 (IntKind.wrap IntKind.i64 (left - (↑(ByteArray.size x2) : Int))) = Value.int IntKind.i64 (Sh.sz heardSh (x1, x2) left) ∧ h = h)) = _) ?_
  have o1 : (x2 : ByteArray).size ≤ 9223372036854775807 := ok.2
  rw [wrap_i64 (by omega)]
  refine bs_d (fun e1 => by refine ⟨congrArg _ (Eq.symm ?_), rfl⟩; exact sz_step rfl hl.1 (sz_strn e1)) (fun e1 => ?_)
  refine ⟨congrArg _ (Eq.symm ?_), rfl⟩
  exact sz_step rfl hl.1 ((sz_str e1))

theorem szHeardS_spec (h : AHeap) (a : Option Addr) (n c : Nat) (xs : List heardSh.T) (left : Int) (hx : Sl h heardSh xs (.slice a n c)) (hl : 0 ≤ left ∧ left ≤ 1048576) (ok : (Sh.sl heardSh).ok xs) :
    ACall Try.prog 79 [.slice a n c, .int .i64 left] h (.int .i64 ((Sh.sl heardSh).sz xs left)) h := by
  have en := hx.len
  have ok1 : xs.length ≤ 9223372036854775807 := ok.1
  have key : (Sh.sl heardSh).sz xs left = (if left - (xs.length : Int) < 0 then -1 else szL heardSh.sz xs (left - (xs.length : Int))) := rfl
  rw [key, en]
  refine acall_out (acall_vc (fun _ => false) (fun _ => []) (fun _ => szLp heardSh a n c h xs (szL heardSh.sz xs (left - n))) mixed Try.func79 rfl rfl rfl (Nat.le_of_ble_eq_true rfl) ?_ ?_)
  · refine vc_mp (by kernel_rfl : (True ∧ True ∧ (True ∧ (True ∧ True) ∧ True) ∧ (True ∧ (∀ (i : Nat × Int), Prod.fst i ≤ n ∧ (0 : Int) ≤ Prod.snd i ∧ Prod.snd i ≤ (1048576 : Int) ∧ szL (Sh.sz heardSh) (List.drop (Prod.fst i) xs) (Prod.snd i) = szL (Sh.sz heardSh) xs (left - (↑n : Int)) → bs (decide ((↑(Prod.fst i) : Int) < (↑n : Int))) (∃ (l : Nat), ∃ (r : Nat), a = some (Addr.mk l r (some (2 : Nat))) ∧ (0 : Int) ≤ (↑(Prod.fst i) : Int) ∧ (↑(Prod.fst i) : Int) < (↑n : Int) ∧ ∃ (x : Int), ∃ (x_1 : ByteArray), AHeap.ld h l (r + Int.toNat (↑(Prod.fst i) : Int)) (0 : Nat) (2 : Nat) = some [Value.int IntKind.i64 x, Value.string x_1] ∧ ∃ (x_2 : Int), ∃ (h' : AHeap), ACall Try.prog (119 : Nat) [Value.agg (Array.mk [Value.int IntKind.i64 x, Value.string x_1]), Value.int IntKind.i64 (Prod.snd i)] h (Value.int IntKind.i64 x_2) h' ∧ bs (decide (x_2 < (0 : Int))) (Value.int IntKind.i64 (-1 : Int) = Value.int IntKind.i64 (szL (Sh.sz heardSh) xs (left - (↑n : Int))) ∧ h' = h) (∃ (j : Nat × Int), Value.slice a n c = Value.slice a n c ∧ Value.int IntKind.i64 x_2 = Value.int IntKind.i64 (Prod.snd j) ∧ Value.int IntKind.i64 (IntKind.wrap IntKind.i64 ((↑(Prod.fst i) : Int) + (1 : Int))) = Value.int IntKind.i64 (↑(Prod.fst j) : Int) ∧ h = h' ∧ (Prod.fst j ≤ n ∧ (0 : Int) ≤ Prod.snd j ∧ Prod.snd j ≤ (1048576 : Int) ∧ szL (Sh.sz heardSh) (List.drop (Prod.fst j) xs) (Prod.snd j) = szL (Sh.sz heardSh) xs (left - (↑n : Int))) ∧ n - Prod.fst j < n - Prod.fst i ∧ (∀ (k : Int), k = szL (Sh.sz heardSh) xs (left - (↑n : Int)) → k = szL (Sh.sz heardSh) xs (left - (↑n : Int))) ∧ ∀ (v : Value) (h_1 : AHeap), v = Value.int IntKind.i64 (szL (Sh.sz heardSh) xs (left - (↑n : Int))) ∧ h_1 = h → v = Value.int IntKind.i64 (szL (Sh.sz heardSh) xs (left - (↑n : Int))) ∧ h_1 = h)) (∃ (j : Int), Value.int IntKind.i64 (Prod.snd i) = Value.int IntKind.i64 j ∧ h = h ∧ j = szL (Sh.sz heardSh) xs (left - (↑n : Int)))) ∧ (True ∧ True ∧ True) ∧ (True ∧ True ∧ (True ∧ True) ∧ True) ∧ True) ∧ True ∧ True) = _) ?_
    simp only [true_and, and_true]
    rintro ⟨i, x⟩ ⟨hi, h0, h1, he⟩
    dsimp only at *
    refine bs_d (fun hlt => ?_) (fun hge => ?_)
    · have hio : i < xs.length := by omega
      obtain ⟨l, r, row, ha, _, hrd, hld⟩ := hx.elem (List.getElem?_eq_getElem hio)
      have hoi := ok.2 xs[i] (List.getElem_mem hio)
      obtain rfl := rd_heard.1 hrd
      rw [List.drop_eq_getElem_cons hio] at he
      have he : (if heardSh.sz xs[i] x < 0 then -1 else szL heardSh.sz (xs.drop (i + 1)) (heardSh.sz xs[i] x)) = szL heardSh.sz xs (left - n) := he
      have b1 := heardSh.sz_le xs[i] x h0
      refine ⟨l, r, ha, Int.natCast_nonneg _, hlt, _, _, hld, heardSh.sz xs[i] x, h, szHeard_spec h xs[i] x   ⟨h0, h1⟩ hoi, bs_d (fun hneg => ?_) (fun hpos => ?_)⟩
      · rw [if_pos hneg] at he; rw [← he]; exact ⟨rfl, rfl⟩
      · rw [if_neg hpos] at he
        exact ⟨(i + 1, heardSh.sz xs[i] x), rfl, by rw [wrap_i64 (by omega)] <;> rfl, rfl, ⟨by dsimp only; omega, by dsimp only; omega, by dsimp only; omega, he⟩, by dsimp only; omega, fun _ h => h, fun _ _ h => h⟩
    · have e : i = xs.length := by omega
      subst e
      rw [List.drop_length] at he
      exact ⟨x, rfl, he⟩
  · refine vc_mp (by kernel_rfl : (bs (decide (IntKind.wrap IntKind.i64 (left - (↑n : Int)) < (0 : Int))) (Value.int IntKind.i64 (-1 : Int) = Value.int IntKind.i64 (if left - (↑n : Int) < (0 : Int) then (-1 : Int) else szL (Sh.sz heardSh) xs (left - (↑n : Int))) ∧ h = h) (∃ (i : Nat × Int), Value.slice a n c = Value.slice a n c ∧ Value.int IntKind.i64 (IntKind.wrap IntKind.i64 (left - (↑n : Int))) = Value.int IntKind.i64 (Prod.snd i) ∧ Value.int IntKind.i64 (0 : Int) = Value.int IntKind.i64 (↑(Prod.fst i) : Int) ∧ h = h ∧ (Prod.fst i ≤ n ∧ (0 : Int) ≤ Prod.snd i ∧ Prod.snd i ≤ (1048576 : Int) ∧ szL (Sh.sz heardSh) (List.drop (Prod.fst i) xs) (Prod.snd i) = szL (Sh.sz heardSh) xs (left - (↑n : Int))) ∧ (∀ (j : Int), j = szL (Sh.sz heardSh) xs (left - (↑n : Int)) → Value.int IntKind.i64 j = Value.int IntKind.i64 (if left - (↑n : Int) < (0 : Int) then (-1 : Int) else szL (Sh.sz heardSh) xs (left - (↑n : Int))) ∧ h = h) ∧ ∀ (v : Value) (h_1 : AHeap), v = Value.int IntKind.i64 (szL (Sh.sz heardSh) xs (left - (↑n : Int))) ∧ h_1 = h → v = Value.int IntKind.i64 (if left - (↑n : Int) < (0 : Int) then (-1 : Int) else szL (Sh.sz heardSh) xs (left - (↑n : Int))) ∧ h_1 = h)) = _) ?_
    rw [wrap_i64 (by omega)]
    refine bs_d (fun e => ?_) (fun e => ?_)
    · rw [if_pos e]; exact ⟨rfl, rfl⟩
    · rw [if_neg e]
      exact ⟨(0, left - n), rfl, rfl, rfl, rfl, ⟨Nat.zero_le _, by dsimp only; omega, by dsimp only; omega, rfl⟩, fun j hj => ⟨by rw [hj], rfl⟩, fun _ _ h => h⟩

theorem toHeard_spec (h : AHeap) (x : heardSh.T) (hw : h.wf) :
    ∃ v h', ACall Try.prog 120 [.agg #[.int .i64 x.1, .string x.2]] h v h' ∧ h.Le h' ∧ h'.wf ∧ ∃ ids, v = .agg #[.int .i64 x.1, .string x.2] ∧ heardSh.ro h' x [.int .i64 x.1, .string x.2] ids ∧ Fresh h.n h'.n ids := by
  obtain ⟨x1, x2⟩ := x
  try dsimp only at *
  refine acall_q fun Q HQ => ?_
  refine acall_vc (fun _ => false) (fun _ => []) (fun _ => .none) mixed Try.func120 rfl rfl rfl (Nat.le_of_ble_eq_true rfl) (by refine vc_mp (by kernel_rfl : (True ∧ True ∧ True ∧ True ∧ True ∧ True) = _) ?_; simp only [and_self]) ?_
  refine vc_mp (by kernel_rfl : (Q (Value.agg (Array.mk [Value.int IntKind.i64 x1, Value.string x2])) h) = _) ?_
  exact HQ _ _ ⟨.refl _, hw, [], rfl, (ro_heard (x := (x1, x2))).2 ⟨rfl, rfl⟩, .nil⟩

theorem toHeardS_spec (h : AHeap) (a : Option Addr) (n c : Nat) (xs : List heardSh.T) (hw : h.wf) (hx : Sl h heardSh xs (.slice a n c)) (ok : (Sh.sl heardSh).small xs) :
    ∃ v h', ACall Try.prog 80 [.slice a n c] h v h' ∧ h.Le h' ∧ h'.wf ∧ ∃ ids, v = .slice (some ⟨h.n, 0, some 2⟩) n (n + 1) ∧ So h' heardSh xs (.slice (some ⟨h.n, 0, some 2⟩) n (n + 1)) ids ∧ Fresh h.n h'.n ids := by
  have en := hx.len
  have ok1 : xs.length ≤ 1048576 := ok.1
  refine acall_vc (fun _ => false) (fun _ => []) (fun _ => toL heardSh [.int .i64 0, .string ⟨#[]⟩] a n c h xs) mixed Try.func80 rfl rfl rfl (Nat.le_of_ble_eq_true rfl) ?_ ?_
  · refine vc_mp (by kernel_rfl : (True ∧ True ∧ (True ∧ (∀ (i : Nat × AHeap × List (List Value) × List (List Nat)), ToI heardSh [Value.int IntKind.i64 (0 : Int), Value.string (ByteArray.mk (Array.mk []))] n h xs (Prod.fst i) (Prod.fst (Prod.snd i)) (Prod.fst (Prod.snd (Prod.snd i))) (Prod.snd (Prod.snd (Prod.snd i))) → bs (decide ((↑(Prod.fst i) : Int) < (↑n : Int))) (∃ (l : Nat), ∃ (r : Nat), a = some (Addr.mk l r (some (2 : Nat))) ∧ (0 : Int) ≤ (↑(Prod.fst i) : Int) ∧ (↑(Prod.fst i) : Int) < (↑n : Int) ∧ ∃ (x : Int), ∃ (x_1 : ByteArray), AHeap.ld (Prod.fst (Prod.snd i)) l (r + Int.toNat (↑(Prod.fst i) : Int)) (0 : Nat) (2 : Nat) = some [Value.int IntKind.i64 x, Value.string x_1] ∧ ∃ (x_2 : Int), ∃ (x_3 : ByteArray), ∃ (h' : AHeap), ACall Try.prog (120 : Nat) [Value.agg (Array.mk [Value.int IntKind.i64 x, Value.string x_1])] (Prod.fst (Prod.snd i)) (Value.agg (Array.mk [Value.int IntKind.i64 x_2, Value.string x_3])) h' ∧ ∃ (l : Nat), ∃ (r : Nat), some (Addr.mk (AHeap.n h) (0 : Nat) (some (Sh.cells heardSh))) = some (Addr.mk l r (some (2 : Nat))) ∧ (0 : Int) ≤ (↑(Prod.fst i) : Int) ∧ (↑(Prod.fst i) : Int) < (↑n : Int) ∧ ∃ (h'_1 : AHeap), AHeap.wr h' l (r + Int.toNat (↑(Prod.fst i) : Int)) (0 : Nat) [Value.int IntKind.i64 x_2, Value.string x_3] = some h'_1 ∧ ∃ (j : Nat × AHeap × List (List Value) × List (List Nat)), Value.slice a n c = Value.slice a n c ∧ Value.slice (some (Addr.mk (AHeap.n h) (0 : Nat) (some (Sh.cells heardSh)))) n (n + (1 : Nat)) = Value.slice (some (Addr.mk (AHeap.n h) (0 : Nat) (some (Sh.cells heardSh)))) n (n + (1 : Nat)) ∧ Value.int IntKind.i64 (IntKind.wrap IntKind.i64 ((↑(Prod.fst i) : Int) + (1 : Int))) = Value.int IntKind.i64 (↑(Prod.fst j) : Int) ∧ Prod.fst (Prod.snd j) = h'_1 ∧ ToI heardSh [Value.int IntKind.i64 (0 : Int), Value.string (ByteArray.mk (Array.mk []))] n h xs (Prod.fst j) (Prod.fst (Prod.snd j)) (Prod.fst (Prod.snd (Prod.snd j))) (Prod.snd (Prod.snd (Prod.snd j))) ∧ n - Prod.fst j < n - Prod.fst i ∧ (∀ (k : AHeap × List (List Value) × List (List Nat)), ToI heardSh [Value.int IntKind.i64 (0 : Int), Value.string (ByteArray.mk (Array.mk []))] n h xs n (Prod.fst k) (Prod.fst (Prod.snd k)) (Prod.snd (Prod.snd k)) → ToI heardSh [Value.int IntKind.i64 (0 : Int), Value.string (ByteArray.mk (Array.mk []))] n h xs n (Prod.fst k) (Prod.fst (Prod.snd k)) (Prod.snd (Prod.snd k))) ∧ ∀ (v : Value) (h : AHeap), False → False) (∃ (j : AHeap × List (List Value) × List (List Nat)), Value.slice (some (Addr.mk (AHeap.n h) (0 : Nat) (some (Sh.cells heardSh)))) n (n + (1 : Nat)) = Value.slice (some (Addr.mk (AHeap.n h) (0 : Nat) (some (Sh.cells heardSh)))) n (n + (1 : Nat)) ∧ Prod.fst j = Prod.fst (Prod.snd i) ∧ ToI heardSh [Value.int IntKind.i64 (0 : Int), Value.string (ByteArray.mk (Array.mk []))] n h xs n (Prod.fst j) (Prod.fst (Prod.snd j)) (Prod.snd (Prod.snd j)))) ∧ (True ∧ True ∧ True) ∧ True ∧ True) ∧ True ∧ True) = _) ?_
    simp only [true_and, and_true]
    rintro ⟨i, h1, rows, idss⟩ I
    dsimp only at *
    refine bs_d (fun hlt => ?_) (fun hge => ?_)
    · have hio : i < xs.length := by omega
      obtain ⟨l, r, row, ha, _, hrd, hld⟩ := (hx.mono I.le).elem (List.getElem?_eq_getElem hio)
      obtain rfl := rd_heard.1 hrd
      obtain ⟨v, h2, hA, hle, hw2, ids, rfl, hro, hf⟩ := toHeard_spec h1 xs[i]   I.wf
      obtain ⟨h3, e3, I3⟩ := I.step (by omega) (List.getElem?_eq_getElem hio) hle hw2 hro hf
      refine ⟨l, r, ha, Int.natCast_nonneg _, hlt, _, _, hld, _, _, _, hA, h.n, 0, rfl, Int.natCast_nonneg _, hlt, h3, e3, (i + 1, h3, _, _), by rw [wrap_i64 (by omega)] <;> rfl, rfl, I3, by dsimp only; omega, fun _ h => h, fun _ _ h => h⟩
    · have hi := I.hi
      have e : i = n := by omega
      subst e
      exact ⟨(h1, rows, idss), rfl, I⟩
  · refine vc_mp (by kernel_rfl : ((0 : Int) ≤ (↑n : Int) ∧ (↑n : Int) ≤ (↑n : Int) ∧ (↑n : Int) * (↑(24 : Nat) : Int) ≤ (140737488355328 : Int) ∧ ∃ (i : Nat × AHeap × List (List Value) × List (List Nat)), Value.slice a n c = Value.slice a n c ∧ Value.slice (some (Addr.mk (AHeap.n h) (0 : Nat) (some (2 : Nat)))) (Int.toNat (↑n : Int)) (Int.toNat (↑n : Int) + (1 : Nat)) = Value.slice (some (Addr.mk (AHeap.n h) (0 : Nat) (some (Sh.cells heardSh)))) n (n + (1 : Nat)) ∧ Value.int IntKind.i64 (0 : Int) = Value.int IntKind.i64 (↑(Prod.fst i) : Int) ∧ Prod.fst (Prod.snd i) = AHeap.push h (AObj.mk (List.replicate (Int.toNat (↑n : Int)) [Value.int IntKind.i64 (Int.ofNat (0 : Nat)), Value.string (ByteArray.mk (Array.mk []))]) (2 : Nat) true) ∧ ToI heardSh [Value.int IntKind.i64 (0 : Int), Value.string (ByteArray.mk (Array.mk []))] n h xs (Prod.fst i) (Prod.fst (Prod.snd i)) (Prod.fst (Prod.snd (Prod.snd i))) (Prod.snd (Prod.snd (Prod.snd i))) ∧ (∀ (j : AHeap × List (List Value) × List (List Nat)), ToI heardSh [Value.int IntKind.i64 (0 : Int), Value.string (ByteArray.mk (Array.mk []))] n h xs n (Prod.fst j) (Prod.fst (Prod.snd j)) (Prod.snd (Prod.snd j)) → AHeap.Le h (Prod.fst j) ∧ AHeap.wf (Prod.fst j) ∧ ∃ (ids : List Nat), Value.slice (some (Addr.mk (AHeap.n h) (0 : Nat) (some (Sh.cells heardSh)))) n (n + (1 : Nat)) = Value.slice (some (Addr.mk (AHeap.n h) (0 : Nat) (some (2 : Nat)))) n (n + (1 : Nat)) ∧ So (Prod.fst j) heardSh xs (Value.slice (some (Addr.mk (AHeap.n h) (0 : Nat) (some (2 : Nat)))) n (n + (1 : Nat))) ids ∧ Fresh (AHeap.n h) (AHeap.n (Prod.fst j)) ids) ∧ ∀ (v : Value) (h_1 : AHeap), False → AHeap.Le h h_1 ∧ AHeap.wf h_1 ∧ ∃ (ids : List Nat), v = Value.slice (some (Addr.mk (AHeap.n h) (0 : Nat) (some (2 : Nat)))) n (n + (1 : Nat)) ∧ So h_1 heardSh xs (Value.slice (some (Addr.mk (AHeap.n h) (0 : Nat) (some (2 : Nat)))) n (n + (1 : Nat))) ids ∧ Fresh (AHeap.n h) (AHeap.n h_1) ids) = _) ?_
    refine ⟨Int.natCast_nonneg _, Int.le_refl _, by omega, (0, _, _, _), rfl, rfl, rfl, rfl, ToI.start hw rfl, ?_, fun _ _ h => h.elim⟩
    rintro ⟨h1, rows, idss⟩ I
    obtain ⟨ids, h2, h3⟩ := ToI.finish I en (n + 1)
    exact ⟨I.le, I.wf, ids, rfl, h2, h3⟩

theorem eqHeard_spec (h : AHeap) (x y : heardSh.T) :
    ACall Try.prog 117 [.agg #[.int .i64 x.1, .string x.2], .agg #[.int .i64 y.1, .string y.2]] h (.bool (eqb x y)) h := by
  obtain ⟨x1, x2⟩ := x
  obtain ⟨y1, y2⟩ := y
  try dsimp only at *
  refine acall_out (acall_vc (fun _ => false) (fun _ => []) (fun _ => .none) mixed Try.func117 rfl rfl rfl (Nat.le_of_ble_eq_true rfl) (by refine vc_mp (by kernel_rfl : (True ∧ (True ∧ (True ∧ True) ∧ True) ∧ (True ∧ (True ∧ True) ∧ True) ∧ True ∧ True) = _) ?_; simp only [and_self]) ?_)
  refine vc_mp (by kernel_rfl : (bs (!decide (x1 = y1)) (Value.bool false = Value.bool (eqb (x1, x2) (y1, y2)) ∧ h = h) (bs (!decide (x2 = y2)) (Value.bool false = Value.bool (eqb (x1, x2) (y1, y2)) ∧ h = h) (Value.bool true = Value.bool (eqb (x1, x2) (y1, y2)) ∧ h = h))) = _) ?_
  refine bs_dn (fun e => ⟨congrArg _ (eqb_false fun e' => e (by cases e'; rfl)), rfl⟩) (fun e1 => ?_)
  refine bs_dn (fun e => ⟨congrArg _ (eqb_false fun e' => e (by cases e'; rfl)), rfl⟩) (fun e2 => ?_)
  exact ⟨congrArg _ (eqb_true (Prod.ext e1 e2)), rfl⟩

theorem eqHeardS_spec (h : AHeap) (a : Option Addr) (n c : Nat) (a' : Option Addr) (n' c' : Nat) (xs ys : List heardSh.T) (hx : Sl h heardSh xs (.slice a n c)) (hy : Sl h heardSh ys (.slice a' n' c')) (ok : xs.length ≤ 9223372036854775807) :
    ACall Try.prog 69 [.slice a n c, .slice a' n' c'] h (.bool (eqb xs ys)) h := by
  have en := hx.len
  have en' := hy.len
  have hn : xs.length ≤ 9223372036854775807 := ok
  refine acall_out (acall_vc (fun _ => false) (fun _ => [(0, 0, []), (1, 0, []), (2, 0, []), (4, 0, []), (5, 0, []), (6, 0, []), (3, 1, []), (7, 1, []), (8, 3, []), (9, 0, [])]) (fun _ => eqLp h a n c a' n' c' xs ys) mixed Try.func69 rfl rfl rfl (Nat.le_of_ble_eq_true rfl) ?_ ?_)
  · refine vc_mp (by kernel_rfl : (True ∧ (True ∧ (True ∧ True) ∧ True) ∧ (True ∧ (∀ (i : Nat), EqI xs ys i → bs (decide ((↑i : Int) < (↑n : Int))) (∃ (l : Nat), ∃ (r : Nat), a = some (Addr.mk l r (some (2 : Nat))) ∧ (0 : Int) ≤ (↑i : Int) ∧ (↑i : Int) < (↑n : Int) ∧ ∃ (l_1 : Nat), ∃ (r_1 : Nat), a' = some (Addr.mk l_1 r_1 (some (2 : Nat))) ∧ (0 : Int) ≤ (↑i : Int) ∧ (↑i : Int) < (↑n' : Int) ∧ ∃ (x : Int), ∃ (x_1 : ByteArray), AHeap.ld h l (r + Int.toNat (↑i : Int)) (0 : Nat) (2 : Nat) = some [Value.int IntKind.i64 x, Value.string x_1] ∧ ∃ (x_2 : Int), ∃ (x_3 : ByteArray), AHeap.ld h l_1 (r_1 + Int.toNat (↑i : Int)) (0 : Nat) (2 : Nat) = some [Value.int IntKind.i64 x_2, Value.string x_3] ∧ ∃ (x_4 : Bool), ∃ (h' : AHeap), ACall Try.prog (117 : Nat) [Value.agg (Array.mk [Value.int IntKind.i64 x, Value.string x_1]), Value.agg (Array.mk [Value.int IntKind.i64 x_2, Value.string x_3])] h (Value.bool x_4) h' ∧ bs (!x_4) (Value.bool false = Value.bool (eqb xs ys) ∧ h' = h) (∃ (j : Nat), Value.slice a n c = Value.slice a n c ∧ Value.slice a' n' c' = Value.slice a' n' c' ∧ Value.int IntKind.i64 (IntKind.wrap IntKind.i64 ((↑i : Int) + (1 : Int))) = Value.int IntKind.i64 (↑j : Int) ∧ h = h' ∧ EqI xs ys j ∧ List.length xs - j < List.length xs - i ∧ (∀ (k : Unit), xs = ys → xs = ys) ∧ ∀ (v : Value) (h_1 : AHeap), v = Value.bool (eqb xs ys) ∧ h_1 = h → v = Value.bool (eqb xs ys) ∧ h_1 = h)) (∃ (j : Unit), h = h ∧ xs = ys)) ∧ (True ∧ True ∧ True) ∧ (True ∧ (True ∧ True) ∧ True) ∧ True) ∧ True ∧ True) = _) ?_
    simp only [true_and, and_true]
    rintro (i : Nat) I
    have hl := I.len
    have hi := I.hi
    refine bs_d (fun hlt => ?_) (fun hge => ?_)
    · have hxi : i < xs.length := by omega
      have hyi : i < ys.length := by omega
      obtain ⟨l, r, row, ha, hin, hrd, hld⟩ := hx.elem (List.getElem?_eq_getElem hxi)
      obtain ⟨l', r', row', ha', hin', hrd', hld'⟩ := hy.elem (List.getElem?_eq_getElem hyi)
      obtain rfl := rd_heard.1 hrd
      obtain rfl := rd_heard.1 hrd'
      refine ⟨l, r, ha, Int.natCast_nonneg _, hlt, l', r', ha', Int.natCast_nonneg _, by omega, _, _, hld, _, _, hld', _, _, eqHeard_spec h xs[i] ys[i], bs_nb (fun hb => ?_) (fun hb => ?_)⟩
      · exact ⟨congrArg _ (eqb_false fun e => of_eqb_false hb (by subst e; rfl)), rfl⟩
      · exact ⟨i + 1, by rw [wrap_i64 (by omega)] <;> rfl, rfl, I.step hxi hyi (of_eqb hb), by omega, fun _ h => h, fun _ _ h => h⟩
    · have e : i = xs.length := by omega
      subst e
      exact ⟨(), I.all⟩
  · refine vc_mp (by kernel_rfl : (bs (!decide ((↑n : Int) = (↑n' : Int))) (Value.bool false = Value.bool (eqb xs ys) ∧ h = h) (∃ (i : Nat), Value.slice a n c = Value.slice a n c ∧ Value.slice a' n' c' = Value.slice a' n' c' ∧ Value.int IntKind.i64 (0 : Int) = Value.int IntKind.i64 (↑i : Int) ∧ h = h ∧ EqI xs ys i ∧ (∀ (j : Unit), xs = ys → Value.bool true = Value.bool (eqb xs ys) ∧ h = h) ∧ ∀ (v : Value) (h_1 : AHeap), v = Value.bool (eqb xs ys) ∧ h_1 = h → v = Value.bool (eqb xs ys) ∧ h_1 = h)) = _) ?_
    refine bs_dn (fun hne => ⟨congrArg _ (eqb_false fun e => hne (by rw [← en, ← en', e])), rfl⟩) (fun he => ?_)
    exact ⟨(0 : Nat), rfl, rfl, rfl, rfl, ⟨by omega, Nat.zero_le _, rfl⟩, fun j e => ⟨congrArg _ (eqb_true e), rfl⟩, fun _ _ h => h⟩

theorem szClient_spec (h : AHeap) (x : clientSh.T) (left : Int) (v1 : Value) (h1 : Sl h heardSh x.2.2.2.1 v1) (hl : 0 ≤ left ∧ left ≤ 1048576) (ok : clientSh.ok x) :
    ACall Try.prog 32 [.agg #[.int .i64 x.1, .int .i64 x.2.1, .bool x.2.2.1, v1, .string x.2.2.2.2], .int .i64 left] h (.int .i64 (clientSh.sz x left)) h := by
  obtain ⟨x1, x2, x3, x4, x5⟩ := x
  try dsimp only at *
  obtain ⟨a1, c1, rfl⟩ := h1.isSlice
  refine acall_out (acall_vc (fun _ => false) (fun _ => []) (fun _ => .none) mixed Try.func32 rfl rfl rfl (Nat.le_of_ble_eq_true rfl) (by refine vc_mp (by kernel_rfl : (True ∧ True ∧ (True ∧ (True ∧ True) ∧ True) ∧ True ∧ (True ∧ (True ∧ True) ∧ True) ∧ True ∧ True) = _) ?_; simp only [and_self]) ?_)
  refine vc_mp (by kernel_rfl : (∃ (x : Int), ∃ (h' : AHeap), ACall Try.prog (79 : Nat) [Value.slice a1 (List.length x4) c1, Value.int IntKind.i64 left] h (Value.int IntKind.i64 x) h' ∧ bs (decide (x < (0 : Int))) (Value.int IntKind.i64 (-1 : Int) = Value.int IntKind.i64 (Sh.sz clientSh (x1, x2, x3, x4, x5) left) ∧ h' = h) (bs (decide (IntKind.wrap IntKind.i64 (x - (↑(ByteArray.size x5) : Int)) < (0 : Int))) (Value.int IntKind.i64 (-1 : Int) = Value.int IntKind.i64 (Sh.sz clientSh (x1, x2, x3, x4, x5) left) ∧ h' = h) (Value.int IntKind.i64 (IntKind.wrap IntKind.i64 (x - (↑(ByteArray.size x5) : Int))) = Value.int IntKind.i64 (Sh.sz clientSh (x1, x2, x3, x4, x5) left) ∧ h' = h))) = _) ?_
  have b1 := (Sh.sl heardSh).sz_le x4 left (by omega)
  refine ⟨_, _, szHeardS_spec h a1 _ c1 _ left h1 (by omega) ok.2.2.2.1, bs_d (fun e1 => by refine ⟨congrArg _ (Eq.symm ?_), rfl⟩; exact sz_step rfl hl.1 (sz_step rfl hl.1 (sz_step rfl hl.1 (sz_stop e1)))) (fun e1 => ?_)⟩
  have o2 : (x5 : ByteArray).size ≤ 9223372036854775807 := ok.2.2.2.2
  rw [wrap_i64 (by omega)]
  refine bs_d (fun e2 => by refine ⟨congrArg _ (Eq.symm ?_), rfl⟩; exact sz_step rfl hl.1 (sz_step rfl hl.1 (sz_step rfl hl.1 (sz_step rfl (Int.not_lt.1 e1) (sz_strn e2))))) (fun e2 => ?_)
  refine ⟨congrArg _ (Eq.symm ?_), rfl⟩
  exact sz_step rfl hl.1 (sz_step rfl hl.1 (sz_step rfl hl.1 (sz_step rfl (Int.not_lt.1 e1) ((sz_str e2)))))

theorem toClient_spec (h : AHeap) (x : clientSh.T) (v1 : Value) (h1 : Sl h heardSh x.2.2.2.1 v1) (hw : h.wf) (ok : clientSh.small x) :
    ∃ v h', ACall Try.prog 34 [.agg #[.int .i64 x.1, .int .i64 x.2.1, .bool x.2.2.1, v1, .string x.2.2.2.2]] h v h' ∧ h.Le h' ∧ h'.wf ∧ ∃ w1 ids, v = .agg #[.int .i64 x.1, .int .i64 x.2.1, .bool x.2.2.1, w1, .string x.2.2.2.2] ∧ clientSh.ro h' x [.int .i64 x.1, .int .i64 x.2.1, .bool x.2.2.1, w1, .string x.2.2.2.2] ids ∧ Fresh h.n h'.n ids := by
  obtain ⟨x1, x2, x3, x4, x5⟩ := x
  try dsimp only at *
  obtain ⟨a1, c1, rfl⟩ := h1.isSlice
  refine acall_q fun Q HQ => ?_
  refine acall_vc (fun _ => false) (fun _ => []) (fun _ => .none) mixed Try.func34 rfl rfl rfl (Nat.le_of_ble_eq_true rfl) (by refine vc_mp (by kernel_rfl : (True ∧ True ∧ True ∧ True ∧ True ∧ True ∧ True ∧ True ∧ True) = _) ?_; simp only [and_self]) ?_
  refine vc_mp (by kernel_rfl : (∃ (a : Option Addr), ∃ (n : Nat), ∃ (c : Nat), ∃ (h' : AHeap), ACall Try.prog (80 : Nat) [Value.slice a1 (List.length x4) c1] h (Value.slice a n c) h' ∧ Q (Value.agg (Array.mk [Value.int IntKind.i64 x1, Value.int IntKind.i64 x2, Value.bool x3, Value.slice a n c, Value.string x5])) h') = _) ?_
  obtain ⟨u1, g1, A1, l1, W1, ids1, rfl, r1, f1⟩ := toHeardS_spec h a1 _ c1 _ hw h1 ok.2.2.2.1
  have L1 : h.Le g1 := l1
  refine ⟨_, _, _, _, A1, HQ _ _ ⟨L1, W1, _, [] ++ ([] ++ ([] ++ (ids1 ++ ([])))), rfl, ?_, ?_⟩⟩
  · exact ⟨[_], _, [], _, rfl, rfl, ⟨rfl, rfl⟩, [_], _, [], _, rfl, rfl, ⟨rfl, rfl⟩, [_], _, [], _, rfl, rfl, ⟨rfl, rfl⟩, [_], _, ids1, _, rfl, rfl, ro_sl.2 ⟨_, rfl, r1⟩, rfl, rfl⟩
  · exact (show Fresh h.n g1.n (ids1 ++ ([])) from .append l1.n (Nat.le_refl _) f1 .nil)

theorem eqClient_spec (h : AHeap) (x y : clientSh.T) (v1 : Value) (h1 : Sl h heardSh x.2.2.2.1 v1) (w1 : Value) (j1 : Sl h heardSh y.2.2.2.1 w1) (ok : clientSh.ok x) :
    ACall Try.prog 24 [.agg #[.int .i64 x.1, .int .i64 x.2.1, .bool x.2.2.1, v1, .string x.2.2.2.2], .agg #[.int .i64 y.1, .int .i64 y.2.1, .bool y.2.2.1, w1, .string y.2.2.2.2]] h (.bool (eqb x y)) h := by
  obtain ⟨x1, x2, x3, x4, x5⟩ := x
  obtain ⟨y1, y2, y3, y4, y5⟩ := y
  try dsimp only at *
  obtain ⟨a1, c1, rfl⟩ := h1.isSlice
  obtain ⟨ab1, cb1, rfl⟩ := j1.isSlice
  refine acall_out (acall_vc (fun _ => false) (fun _ => []) (fun _ => .none) mixed Try.func24 rfl rfl rfl (Nat.le_of_ble_eq_true rfl) (by refine vc_mp (by kernel_rfl : (True ∧ (True ∧ (True ∧ True) ∧ True) ∧ (True ∧ (True ∧ True) ∧ True) ∧ (True ∧ (True ∧ True) ∧ True) ∧ (True ∧ (True ∧ True) ∧ True) ∧ (True ∧ (True ∧ True) ∧ True) ∧ True ∧ True) = _) ?_; simp only [and_self]) ?_)
  refine vc_mp (by kernel_rfl : (bs (!decide (x1 = y1)) (Value.bool false = Value.bool (eqb (x1, x2, x3, x4, x5) (y1, y2, y3, y4, y5)) ∧ h = h) (bs (!decide (x2 = y2)) (Value.bool false = Value.bool (eqb (x1, x2, x3, x4, x5) (y1, y2, y3, y4, y5)) ∧ h = h) (bs (!decide (x3 = y3)) (Value.bool false = Value.bool (eqb (x1, x2, x3, x4, x5) (y1, y2, y3, y4, y5)) ∧ h = h) (∃ (x : Bool), ∃ (h' : AHeap), ACall Try.prog (69 : Nat) [Value.slice a1 (List.length x4) c1, Value.slice ab1 (List.length y4) cb1] h (Value.bool x) h' ∧ bs (!x) (Value.bool false = Value.bool (eqb (x1, x2, x3, x4, x5) (y1, y2, y3, y4, y5)) ∧ h' = h) (bs (!decide (x5 = y5)) (Value.bool false = Value.bool (eqb (x1, x2, x3, x4, x5) (y1, y2, y3, y4, y5)) ∧ h' = h) (Value.bool true = Value.bool (eqb (x1, x2, x3, x4, x5) (y1, y2, y3, y4, y5)) ∧ h' = h)))))) = _) ?_
  refine bs_dn (fun e => ⟨congrArg _ (eqb_false fun e' => e (by cases e'; rfl)), rfl⟩) (fun e1 => ?_)
  refine bs_dn (fun e => ⟨congrArg _ (eqb_false fun e' => e (by cases e'; rfl)), rfl⟩) (fun e2 => ?_)
  refine bs_dn (fun e => ⟨congrArg _ (eqb_false fun e' => e (by cases e'; rfl)), rfl⟩) (fun e3 => ?_)
  refine ⟨_, _, eqHeardS_spec h a1 _ c1 ab1 _ cb1 _ _ h1 j1 ok.2.2.2.1.1, bs_nb (fun e => ⟨congrArg _ (eqb_false fun e' => of_eqb_false e (by cases e'; rfl)), rfl⟩) (fun e4 => ?_)⟩
  refine bs_dn (fun e => ⟨congrArg _ (eqb_false fun e' => e (by cases e'; rfl)), rfl⟩) (fun e5 => ?_)
  exact ⟨congrArg _ (eqb_true (Prod.ext e1 (Prod.ext e2 (Prod.ext e3 (Prod.ext (of_eqb e4) e5))))), rfl⟩

theorem eqClientOut_spec (h : AHeap) (x y : clientOutSh.T) (v1 : Value) (h1 : Sl h heardSh x.1.2.2.2.1 v1) (w1 : Value) (j1 : Sl h heardSh y.1.2.2.2.1 w1) (ok : clientOutSh.ok x) :
    ACall Try.prog 53 [.agg #[.int .i64 x.1.1, .int .i64 x.1.2.1, .bool x.1.2.2.1, v1, .string x.1.2.2.2.2, .string x.2.1, .int .i64 x.2.2], .agg #[.int .i64 y.1.1, .int .i64 y.1.2.1, .bool y.1.2.2.1, w1, .string y.1.2.2.2.2, .string y.2.1, .int .i64 y.2.2]] h (.bool (eqb x y)) h := by
  obtain ⟨⟨x1, x2, x3, x4, x5⟩, x6, x7⟩ := x
  obtain ⟨⟨y1, y2, y3, y4, y5⟩, y6, y7⟩ := y
  try dsimp only at *
  obtain ⟨a1, c1, rfl⟩ := h1.isSlice
  obtain ⟨ab1, cb1, rfl⟩ := j1.isSlice
  refine acall_out (acall_vc (fun _ => false) (fun _ => []) (fun _ => .none) mixed Try.func53 rfl rfl rfl (Nat.le_of_ble_eq_true rfl) (by refine vc_mp (by kernel_rfl : (True ∧ (True ∧ (True ∧ True) ∧ True) ∧ (True ∧ (True ∧ True) ∧ True) ∧ (True ∧ (True ∧ True) ∧ True) ∧ True ∧ True) = _) ?_; simp only [and_self]) ?_)
  refine vc_mp (by kernel_rfl : (∃ (x : Bool), ∃ (h' : AHeap), ACall Try.prog (24 : Nat) [Value.agg (Array.mk [Value.int IntKind.i64 x1, Value.int IntKind.i64 x2, Value.bool x3, Value.slice a1 (List.length x4) c1, Value.string x5]), Value.agg (Array.mk [Value.int IntKind.i64 y1, Value.int IntKind.i64 y2, Value.bool y3, Value.slice ab1 (List.length y4) cb1, Value.string y5])] h (Value.bool x) h' ∧ bs (!x) (Value.bool false = Value.bool (eqb ((x1, x2, x3, x4, x5), x6, x7) ((y1, y2, y3, y4, y5), y6, y7)) ∧ h' = h) (bs (!decide (x6 = y6)) (Value.bool false = Value.bool (eqb ((x1, x2, x3, x4, x5), x6, x7) ((y1, y2, y3, y4, y5), y6, y7)) ∧ h' = h) (bs (!decide (x7 = y7)) (Value.bool false = Value.bool (eqb ((x1, x2, x3, x4, x5), x6, x7) ((y1, y2, y3, y4, y5), y6, y7)) ∧ h' = h) (Value.bool true = Value.bool (eqb ((x1, x2, x3, x4, x5), x6, x7) ((y1, y2, y3, y4, y5), y6, y7)) ∧ h' = h)))) = _) ?_
  refine ⟨_, _, eqClient_spec h (x1, x2, x3, x4, x5) (y1, y2, y3, y4, y5) _ h1 _ j1 ok.1, bs_nb (fun e => ⟨congrArg _ (eqb_false fun e' => of_eqb_false e (by cases e'; rfl)), rfl⟩) (fun e1 => ?_)⟩
  refine bs_dn (fun e => ⟨congrArg _ (eqb_false fun e' => e (by cases e'; rfl)), rfl⟩) (fun e2 => ?_)
  refine bs_dn (fun e => ⟨congrArg _ (eqb_false fun e' => e (by cases e'; rfl)), rfl⟩) (fun e3 => ?_)
  exact ⟨congrArg _ (eqb_true (Prod.ext (of_eqb e1) (Prod.ext e2 e3))), rfl⟩

theorem szSnap_spec (h : AHeap) (x : snapSh.T) (left : Int) (v1 : Value) (v2 : Value) (h1 : Sl h topicSh x.2.1 v1) (h2 : Sl h replySh x.2.2 v2) (hl : 0 ≤ left ∧ left ≤ 1048576) (ok : snapSh.ok x) :
    ACall Try.prog 56 [.agg #[.int .i64 x.1, v1, v2], .int .i64 left] h (.int .i64 (snapSh.sz x left)) h := by
  obtain ⟨x1, ⟨x2, x3⟩⟩ := x
  try dsimp only at *
  obtain ⟨a1, c1, rfl⟩ := h1.isSlice
  obtain ⟨a2, c2, rfl⟩ := h2.isSlice
  refine acall_out (acall_vc (fun _ => false) (fun _ => []) (fun _ => .none) mixed Try.func56 rfl rfl rfl (Nat.le_of_ble_eq_true rfl) (by refine vc_mp (by kernel_rfl : (True ∧ True ∧ (True ∧ (True ∧ True) ∧ True) ∧ True ∧ True) = _) ?_; simp only [and_self]) ?_)
  refine vc_mp (by kernel_rfl : (∃ (x : Int), ∃ (h' : AHeap), ACall Try.prog (105 : Nat) [Value.agg (Array.mk [Value.slice a1 (List.length x2) c1, Value.slice a2 (List.length x3) c2]), Value.int IntKind.i64 left] h (Value.int IntKind.i64 x) h' ∧ bs (decide (x < (0 : Int))) (Value.int IntKind.i64 (-1 : Int) = Value.int IntKind.i64 (Sh.sz snapSh (x1, x2, x3) left) ∧ h' = h) (Value.int IntKind.i64 x = Value.int IntKind.i64 (Sh.sz snapSh (x1, x2, x3) left) ∧ h' = h)) = _) ?_
  have b1 := brokerSh.sz_le (x2, x3) left (by omega)
  refine ⟨_, _, szBroker_spec h (x2, x3) left _ _ h1 h2 (by omega) ok.2, bs_d (fun e1 => by refine ⟨congrArg _ (Eq.symm ?_), rfl⟩; exact sz_step rfl hl.1 (sz_neg hl.1 e1)) (fun e1 => ?_)⟩
  refine ⟨congrArg _ (Eq.symm ?_), rfl⟩
  exact sz_step rfl hl.1 (rfl)

theorem toSnap_spec (h : AHeap) (x : snapSh.T) (v1 : Value) (v2 : Value) (h1 : Sl h topicSh x.2.1 v1) (h2 : Sl h replySh x.2.2 v2) (hw : h.wf) (ok : snapSh.small x) :
    ∃ v h', ACall Try.prog 58 [.agg #[.int .i64 x.1, v1, v2]] h v h' ∧ h.Le h' ∧ h'.wf ∧ ∃ w1 w2 ids, v = .agg #[.int .i64 x.1, w1, w2] ∧ snapSh.ro h' x [.int .i64 x.1, w1, w2] ids ∧ Fresh h.n h'.n ids := by
  obtain ⟨x1, ⟨x2, x3⟩⟩ := x
  try dsimp only at *
  obtain ⟨a1, c1, rfl⟩ := h1.isSlice
  obtain ⟨a2, c2, rfl⟩ := h2.isSlice
  refine acall_q fun Q HQ => ?_
  refine acall_vc (fun _ => false) (fun _ => []) (fun _ => .none) mixed Try.func58 rfl rfl rfl (Nat.le_of_ble_eq_true rfl) (by refine vc_mp (by kernel_rfl : (True ∧ True ∧ True ∧ True ∧ True ∧ True) = _) ?_; simp only [and_self]) ?_
  refine vc_mp (by kernel_rfl : (∃ (a : Option Addr), ∃ (n : Nat), ∃ (c : Nat), ∃ (a_1 : Option Addr), ∃ (n_1 : Nat), ∃ (c_1 : Nat), ∃ (h' : AHeap), ACall Try.prog (107 : Nat) [Value.agg (Array.mk [Value.slice a1 (List.length x2) c1, Value.slice a2 (List.length x3) c2])] h (Value.agg (Array.mk [Value.slice a n c, Value.slice a_1 n_1 c_1])) h' ∧ Q (Value.agg (Array.mk [Value.int IntKind.i64 x1, Value.slice a n c, Value.slice a_1 n_1 c_1])) h') = _) ?_
  obtain ⟨u1, g1, A1, l1, W1, y1_0, y1_1, ids1, rfl, r1, f1⟩ := toBroker_spec h (x2, x3) _ _ h1 h2 hw ok.2
  obtain ⟨z1_0, z1_1, ez1, q1_0, q1_1⟩ := rd_broker.1 r1.rd
  cases ez1
  obtain ⟨b1_0, d1_0, rfl⟩ := q1_0.isSlice
  obtain ⟨b1_1, d1_1, rfl⟩ := q1_1.isSlice
  have L1 : h.Le g1 := l1
  refine ⟨_, _, _, _, _, _, _, A1, HQ _ _ ⟨L1, W1, _, _, [] ++ (ids1), rfl, ?_, ?_⟩⟩
  · exact ⟨[_], _, [], _, rfl, rfl, ⟨rfl, rfl⟩, r1⟩
  · exact (show Fresh h.n g1.n (ids1) from f1)

theorem eqSnap_spec (h : AHeap) (x y : snapSh.T) (v1 : Value) (v2 : Value) (h1 : Sl h topicSh x.2.1 v1) (h2 : Sl h replySh x.2.2 v2) (w1 : Value) (w2 : Value) (j1 : Sl h topicSh y.2.1 w1) (j2 : Sl h replySh y.2.2 w2) (ok : snapSh.ok x) :
    ACall Try.prog 60 [.agg #[.int .i64 x.1, v1, v2], .agg #[.int .i64 y.1, w1, w2]] h (.bool (eqb x y)) h := by
  obtain ⟨x1, ⟨x2, x3⟩⟩ := x
  obtain ⟨y1, ⟨y2, y3⟩⟩ := y
  try dsimp only at *
  obtain ⟨a1, c1, rfl⟩ := h1.isSlice
  obtain ⟨a2, c2, rfl⟩ := h2.isSlice
  obtain ⟨ab1, cb1, rfl⟩ := j1.isSlice
  obtain ⟨ab2, cb2, rfl⟩ := j2.isSlice
  refine acall_out (acall_vc (fun _ => false) (fun _ => []) (fun _ => .none) mixed Try.func60 rfl rfl rfl (Nat.le_of_ble_eq_true rfl) (by refine vc_mp (by kernel_rfl : (True ∧ (True ∧ (True ∧ True) ∧ True) ∧ (True ∧ (True ∧ True) ∧ True) ∧ True ∧ True) = _) ?_; simp only [and_self]) ?_)
  refine vc_mp (by kernel_rfl : (bs (!decide (x1 = y1)) (Value.bool false = Value.bool (eqb (x1, x2, x3) (y1, y2, y3)) ∧ h = h) (∃ (x : Bool), ∃ (h' : AHeap), ACall Try.prog (109 : Nat) [Value.agg (Array.mk [Value.slice a1 (List.length x2) c1, Value.slice a2 (List.length x3) c2]), Value.agg (Array.mk [Value.slice ab1 (List.length y2) cb1, Value.slice ab2 (List.length y3) cb2])] h (Value.bool x) h' ∧ bs (!x) (Value.bool false = Value.bool (eqb (x1, x2, x3) (y1, y2, y3)) ∧ h' = h) (Value.bool true = Value.bool (eqb (x1, x2, x3) (y1, y2, y3)) ∧ h' = h))) = _) ?_
  refine bs_dn (fun e => ⟨congrArg _ (eqb_false fun e' => e (by cases e'; rfl)), rfl⟩) (fun e1 => ?_)
  refine ⟨_, _, eqBroker_spec h (x2, x3) (y2, y3) _ _ h1 h2 _ _ j1 j2 ok.2, bs_nb (fun e => ⟨congrArg _ (eqb_false fun e' => of_eqb_false e (by cases e'; rfl)), rfl⟩) (fun e2 => ?_)⟩
  exact ⟨congrArg _ (eqb_true (Prod.ext e1 (of_eqb e2))), rfl⟩

theorem szOpinion_spec (h : AHeap) (x : opinionSh.T) (left : Int) (hl : 0 ≤ left ∧ left ≤ 1048576) (ok : opinionSh.ok x) :
    ACall Try.prog 72 [.agg #[.int .i64 x.1, .string x.2], .int .i64 left] h (.int .i64 (opinionSh.sz x left)) h := by
  obtain ⟨x1, x2⟩ := x
  try dsimp only at *
  refine acall_out (acall_vc (fun _ => false) (fun _ => []) (fun _ => .none) mixed Try.func72 rfl rfl rfl (Nat.le_of_ble_eq_true rfl) (by refine vc_mp (by kernel_rfl : (True ∧ True ∧ (True ∧ (True ∧ True) ∧ True) ∧ True ∧ True) = _) ?_; simp only [and_self]) ?_)
  refine vc_mp (by kernel_rfl : (bs (decide (IntKind.wrap IntKind.i64 (left - (↑(ByteArray.size x2) : Int)) < (0 : Int))) (Value.int IntKind.i64 (-1 : Int) = Value.int IntKind.i64 (Sh.sz opinionSh (x1, x2) left) ∧ h = h) (Value.int IntKind.i64 (IntKind.wrap IntKind.i64 (left - (↑(ByteArray.size x2) : Int))) = Value.int IntKind.i64 (Sh.sz opinionSh (x1, x2) left) ∧ h = h)) = _) ?_
  have o1 : (x2 : ByteArray).size ≤ 9223372036854775807 := ok.2
  rw [wrap_i64 (by omega)]
  refine bs_d (fun e1 => by refine ⟨congrArg _ (Eq.symm ?_), rfl⟩; exact sz_step rfl hl.1 (sz_strn e1)) (fun e1 => ?_)
  refine ⟨congrArg _ (Eq.symm ?_), rfl⟩
  exact sz_step rfl hl.1 ((sz_str e1))

theorem szOpinionS_spec (h : AHeap) (a : Option Addr) (n c : Nat) (xs : List opinionSh.T) (left : Int) (hx : Sl h opinionSh xs (.slice a n c)) (hl : 0 ≤ left ∧ left ≤ 1048576) (ok : (Sh.sl opinionSh).ok xs) :
    ACall Try.prog 27 [.slice a n c, .int .i64 left] h (.int .i64 ((Sh.sl opinionSh).sz xs left)) h := by
  have en := hx.len
  have ok1 : xs.length ≤ 9223372036854775807 := ok.1
  have key : (Sh.sl opinionSh).sz xs left = (if left - (xs.length : Int) < 0 then -1 else szL opinionSh.sz xs (left - (xs.length : Int))) := rfl
  rw [key, en]
  refine acall_out (acall_vc (fun _ => false) (fun _ => []) (fun _ => szLp opinionSh a n c h xs (szL opinionSh.sz xs (left - n))) mixed Try.func27 rfl rfl rfl (Nat.le_of_ble_eq_true rfl) ?_ ?_)
  · refine vc_mp (by kernel_rfl : (True ∧ True ∧ (True ∧ (True ∧ True) ∧ True) ∧ (True ∧ (∀ (i : Nat × Int), Prod.fst i ≤ n ∧ (0 : Int) ≤ Prod.snd i ∧ Prod.snd i ≤ (1048576 : Int) ∧ szL (Sh.sz opinionSh) (List.drop (Prod.fst i) xs) (Prod.snd i) = szL (Sh.sz opinionSh) xs (left - (↑n : Int)) → bs (decide ((↑(Prod.fst i) : Int) < (↑n : Int))) (∃ (l : Nat), ∃ (r : Nat), a = some (Addr.mk l r (some (2 : Nat))) ∧ (0 : Int) ≤ (↑(Prod.fst i) : Int) ∧ (↑(Prod.fst i) : Int) < (↑n : Int) ∧ ∃ (x : Int), ∃ (x_1 : ByteArray), AHeap.ld h l (r + Int.toNat (↑(Prod.fst i) : Int)) (0 : Nat) (2 : Nat) = some [Value.int IntKind.i64 x, Value.string x_1] ∧ ∃ (x_2 : Int), ∃ (h' : AHeap), ACall Try.prog (72 : Nat) [Value.agg (Array.mk [Value.int IntKind.i64 x, Value.string x_1]), Value.int IntKind.i64 (Prod.snd i)] h (Value.int IntKind.i64 x_2) h' ∧ bs (decide (x_2 < (0 : Int))) (Value.int IntKind.i64 (-1 : Int) = Value.int IntKind.i64 (szL (Sh.sz opinionSh) xs (left - (↑n : Int))) ∧ h' = h) (∃ (j : Nat × Int), Value.slice a n c = Value.slice a n c ∧ Value.int IntKind.i64 x_2 = Value.int IntKind.i64 (Prod.snd j) ∧ Value.int IntKind.i64 (IntKind.wrap IntKind.i64 ((↑(Prod.fst i) : Int) + (1 : Int))) = Value.int IntKind.i64 (↑(Prod.fst j) : Int) ∧ h = h' ∧ (Prod.fst j ≤ n ∧ (0 : Int) ≤ Prod.snd j ∧ Prod.snd j ≤ (1048576 : Int) ∧ szL (Sh.sz opinionSh) (List.drop (Prod.fst j) xs) (Prod.snd j) = szL (Sh.sz opinionSh) xs (left - (↑n : Int))) ∧ n - Prod.fst j < n - Prod.fst i ∧ (∀ (k : Int), k = szL (Sh.sz opinionSh) xs (left - (↑n : Int)) → k = szL (Sh.sz opinionSh) xs (left - (↑n : Int))) ∧ ∀ (v : Value) (h_1 : AHeap), v = Value.int IntKind.i64 (szL (Sh.sz opinionSh) xs (left - (↑n : Int))) ∧ h_1 = h → v = Value.int IntKind.i64 (szL (Sh.sz opinionSh) xs (left - (↑n : Int))) ∧ h_1 = h)) (∃ (j : Int), Value.int IntKind.i64 (Prod.snd i) = Value.int IntKind.i64 j ∧ h = h ∧ j = szL (Sh.sz opinionSh) xs (left - (↑n : Int)))) ∧ (True ∧ True ∧ True) ∧ (True ∧ True ∧ (True ∧ True) ∧ True) ∧ True) ∧ True ∧ True) = _) ?_
    simp only [true_and, and_true]
    rintro ⟨i, x⟩ ⟨hi, h0, h1, he⟩
    dsimp only at *
    refine bs_d (fun hlt => ?_) (fun hge => ?_)
    · have hio : i < xs.length := by omega
      obtain ⟨l, r, row, ha, _, hrd, hld⟩ := hx.elem (List.getElem?_eq_getElem hio)
      have hoi := ok.2 xs[i] (List.getElem_mem hio)
      obtain rfl := rd_opinion.1 hrd
      rw [List.drop_eq_getElem_cons hio] at he
      have he : (if opinionSh.sz xs[i] x < 0 then -1 else szL opinionSh.sz (xs.drop (i + 1)) (opinionSh.sz xs[i] x)) = szL opinionSh.sz xs (left - n) := he
      have b1 := opinionSh.sz_le xs[i] x h0
      refine ⟨l, r, ha, Int.natCast_nonneg _, hlt, _, _, hld, opinionSh.sz xs[i] x, h, szOpinion_spec h xs[i] x   ⟨h0, h1⟩ hoi, bs_d (fun hneg => ?_) (fun hpos => ?_)⟩
      · rw [if_pos hneg] at he; rw [← he]; exact ⟨rfl, rfl⟩
      · rw [if_neg hpos] at he
        exact ⟨(i + 1, opinionSh.sz xs[i] x), rfl, by rw [wrap_i64 (by omega)] <;> rfl, rfl, ⟨by dsimp only; omega, by dsimp only; omega, by dsimp only; omega, he⟩, by dsimp only; omega, fun _ h => h, fun _ _ h => h⟩
    · have e : i = xs.length := by omega
      subst e
      rw [List.drop_length] at he
      exact ⟨x, rfl, he⟩
  · refine vc_mp (by kernel_rfl : (bs (decide (IntKind.wrap IntKind.i64 (left - (↑n : Int)) < (0 : Int))) (Value.int IntKind.i64 (-1 : Int) = Value.int IntKind.i64 (if left - (↑n : Int) < (0 : Int) then (-1 : Int) else szL (Sh.sz opinionSh) xs (left - (↑n : Int))) ∧ h = h) (∃ (i : Nat × Int), Value.slice a n c = Value.slice a n c ∧ Value.int IntKind.i64 (IntKind.wrap IntKind.i64 (left - (↑n : Int))) = Value.int IntKind.i64 (Prod.snd i) ∧ Value.int IntKind.i64 (0 : Int) = Value.int IntKind.i64 (↑(Prod.fst i) : Int) ∧ h = h ∧ (Prod.fst i ≤ n ∧ (0 : Int) ≤ Prod.snd i ∧ Prod.snd i ≤ (1048576 : Int) ∧ szL (Sh.sz opinionSh) (List.drop (Prod.fst i) xs) (Prod.snd i) = szL (Sh.sz opinionSh) xs (left - (↑n : Int))) ∧ (∀ (j : Int), j = szL (Sh.sz opinionSh) xs (left - (↑n : Int)) → Value.int IntKind.i64 j = Value.int IntKind.i64 (if left - (↑n : Int) < (0 : Int) then (-1 : Int) else szL (Sh.sz opinionSh) xs (left - (↑n : Int))) ∧ h = h) ∧ ∀ (v : Value) (h_1 : AHeap), v = Value.int IntKind.i64 (szL (Sh.sz opinionSh) xs (left - (↑n : Int))) ∧ h_1 = h → v = Value.int IntKind.i64 (if left - (↑n : Int) < (0 : Int) then (-1 : Int) else szL (Sh.sz opinionSh) xs (left - (↑n : Int))) ∧ h_1 = h)) = _) ?_
    rw [wrap_i64 (by omega)]
    refine bs_d (fun e => ?_) (fun e => ?_)
    · rw [if_pos e]; exact ⟨rfl, rfl⟩
    · rw [if_neg e]
      exact ⟨(0, left - n), rfl, rfl, rfl, rfl, ⟨Nat.zero_le _, by dsimp only; omega, by dsimp only; omega, rfl⟩, fun j hj => ⟨by rw [hj], rfl⟩, fun _ _ h => h⟩

theorem toOpinion_spec (h : AHeap) (x : opinionSh.T) (hw : h.wf) :
    ∃ v h', ACall Try.prog 74 [.agg #[.int .i64 x.1, .string x.2]] h v h' ∧ h.Le h' ∧ h'.wf ∧ ∃ ids, v = .agg #[.int .i64 x.1, .string x.2] ∧ opinionSh.ro h' x [.int .i64 x.1, .string x.2] ids ∧ Fresh h.n h'.n ids := by
  obtain ⟨x1, x2⟩ := x
  try dsimp only at *
  refine acall_q fun Q HQ => ?_
  refine acall_vc (fun _ => false) (fun _ => []) (fun _ => .none) mixed Try.func74 rfl rfl rfl (Nat.le_of_ble_eq_true rfl) (by refine vc_mp (by kernel_rfl : (True ∧ True ∧ True ∧ True ∧ True ∧ True) = _) ?_; simp only [and_self]) ?_
  refine vc_mp (by kernel_rfl : (Q (Value.agg (Array.mk [Value.int IntKind.i64 x1, Value.string x2])) h) = _) ?_
  exact HQ _ _ ⟨.refl _, hw, [], rfl, (ro_opinion (x := (x1, x2))).2 ⟨rfl, rfl⟩, .nil⟩

theorem toOpinionS_spec (h : AHeap) (a : Option Addr) (n c : Nat) (xs : List opinionSh.T) (hw : h.wf) (hx : Sl h opinionSh xs (.slice a n c)) (ok : (Sh.sl opinionSh).small xs) :
    ∃ v h', ACall Try.prog 29 [.slice a n c] h v h' ∧ h.Le h' ∧ h'.wf ∧ ∃ ids, v = .slice (some ⟨h.n, 0, some 2⟩) n (n + 1) ∧ So h' opinionSh xs (.slice (some ⟨h.n, 0, some 2⟩) n (n + 1)) ids ∧ Fresh h.n h'.n ids := by
  have en := hx.len
  have ok1 : xs.length ≤ 1048576 := ok.1
  refine acall_vc (fun _ => false) (fun _ => []) (fun _ => toL opinionSh [.int .i64 0, .string ⟨#[]⟩] a n c h xs) mixed Try.func29 rfl rfl rfl (Nat.le_of_ble_eq_true rfl) ?_ ?_
  · refine vc_mp (by kernel_rfl : (True ∧ True ∧ (True ∧ (∀ (i : Nat × AHeap × List (List Value) × List (List Nat)), ToI opinionSh [Value.int IntKind.i64 (0 : Int), Value.string (ByteArray.mk (Array.mk []))] n h xs (Prod.fst i) (Prod.fst (Prod.snd i)) (Prod.fst (Prod.snd (Prod.snd i))) (Prod.snd (Prod.snd (Prod.snd i))) → bs (decide ((↑(Prod.fst i) : Int) < (↑n : Int))) (∃ (l : Nat), ∃ (r : Nat), a = some (Addr.mk l r (some (2 : Nat))) ∧ (0 : Int) ≤ (↑(Prod.fst i) : Int) ∧ (↑(Prod.fst i) : Int) < (↑n : Int) ∧ ∃ (x : Int), ∃ (x_1 : ByteArray), AHeap.ld (Prod.fst (Prod.snd i)) l (r + Int.toNat (↑(Prod.fst i) : Int)) (0 : Nat) (2 : Nat) = some [Value.int IntKind.i64 x, Value.string x_1] ∧ ∃ (x_2 : Int), ∃ (x_3 : ByteArray), ∃ (h' : AHeap), ACall Try.prog (74 : Nat) [Value.agg (Array.mk [Value.int IntKind.i64 x, Value.string x_1])] (Prod.fst (Prod.snd i)) (Value.agg (Array.mk [Value.int IntKind.i64 x_2, Value.string x_3])) h' ∧ ∃ (l : Nat), ∃ (r : Nat), some (Addr.mk (AHeap.n h) (0 : Nat) (some (Sh.cells opinionSh))) = some (Addr.mk l r (some (2 : Nat))) ∧ (0 : Int) ≤ (↑(Prod.fst i) : Int) ∧ (↑(Prod.fst i) : Int) < (↑n : Int) ∧ ∃ (h'_1 : AHeap), AHeap.wr h' l (r + Int.toNat (↑(Prod.fst i) : Int)) (0 : Nat) [Value.int IntKind.i64 x_2, Value.string x_3] = some h'_1 ∧ ∃ (j : Nat × AHeap × List (List Value) × List (List Nat)), Value.slice a n c = Value.slice a n c ∧ Value.slice (some (Addr.mk (AHeap.n h) (0 : Nat) (some (Sh.cells opinionSh)))) n (n + (1 : Nat)) = Value.slice (some (Addr.mk (AHeap.n h) (0 : Nat) (some (Sh.cells opinionSh)))) n (n + (1 : Nat)) ∧ Value.int IntKind.i64 (IntKind.wrap IntKind.i64 ((↑(Prod.fst i) : Int) + (1 : Int))) = Value.int IntKind.i64 (↑(Prod.fst j) : Int) ∧ Prod.fst (Prod.snd j) = h'_1 ∧ ToI opinionSh [Value.int IntKind.i64 (0 : Int), Value.string (ByteArray.mk (Array.mk []))] n h xs (Prod.fst j) (Prod.fst (Prod.snd j)) (Prod.fst (Prod.snd (Prod.snd j))) (Prod.snd (Prod.snd (Prod.snd j))) ∧ n - Prod.fst j < n - Prod.fst i ∧ (∀ (k : AHeap × List (List Value) × List (List Nat)), ToI opinionSh [Value.int IntKind.i64 (0 : Int), Value.string (ByteArray.mk (Array.mk []))] n h xs n (Prod.fst k) (Prod.fst (Prod.snd k)) (Prod.snd (Prod.snd k)) → ToI opinionSh [Value.int IntKind.i64 (0 : Int), Value.string (ByteArray.mk (Array.mk []))] n h xs n (Prod.fst k) (Prod.fst (Prod.snd k)) (Prod.snd (Prod.snd k))) ∧ ∀ (v : Value) (h : AHeap), False → False) (∃ (j : AHeap × List (List Value) × List (List Nat)), Value.slice (some (Addr.mk (AHeap.n h) (0 : Nat) (some (Sh.cells opinionSh)))) n (n + (1 : Nat)) = Value.slice (some (Addr.mk (AHeap.n h) (0 : Nat) (some (Sh.cells opinionSh)))) n (n + (1 : Nat)) ∧ Prod.fst j = Prod.fst (Prod.snd i) ∧ ToI opinionSh [Value.int IntKind.i64 (0 : Int), Value.string (ByteArray.mk (Array.mk []))] n h xs n (Prod.fst j) (Prod.fst (Prod.snd j)) (Prod.snd (Prod.snd j)))) ∧ (True ∧ True ∧ True) ∧ True ∧ True) ∧ True ∧ True) = _) ?_
    simp only [true_and, and_true]
    rintro ⟨i, h1, rows, idss⟩ I
    dsimp only at *
    refine bs_d (fun hlt => ?_) (fun hge => ?_)
    · have hio : i < xs.length := by omega
      obtain ⟨l, r, row, ha, _, hrd, hld⟩ := (hx.mono I.le).elem (List.getElem?_eq_getElem hio)
      obtain rfl := rd_opinion.1 hrd
      obtain ⟨v, h2, hA, hle, hw2, ids, rfl, hro, hf⟩ := toOpinion_spec h1 xs[i]   I.wf
      obtain ⟨h3, e3, I3⟩ := I.step (by omega) (List.getElem?_eq_getElem hio) hle hw2 hro hf
      refine ⟨l, r, ha, Int.natCast_nonneg _, hlt, _, _, hld, _, _, _, hA, h.n, 0, rfl, Int.natCast_nonneg _, hlt, h3, e3, (i + 1, h3, _, _), by rw [wrap_i64 (by omega)] <;> rfl, rfl, I3, by dsimp only; omega, fun _ h => h, fun _ _ h => h⟩
    · have hi := I.hi
      have e : i = n := by omega
      subst e
      exact ⟨(h1, rows, idss), rfl, I⟩
  · refine vc_mp (by kernel_rfl : ((0 : Int) ≤ (↑n : Int) ∧ (↑n : Int) ≤ (↑n : Int) ∧ (↑n : Int) * (↑(24 : Nat) : Int) ≤ (140737488355328 : Int) ∧ ∃ (i : Nat × AHeap × List (List Value) × List (List Nat)), Value.slice a n c = Value.slice a n c ∧ Value.slice (some (Addr.mk (AHeap.n h) (0 : Nat) (some (2 : Nat)))) (Int.toNat (↑n : Int)) (Int.toNat (↑n : Int) + (1 : Nat)) = Value.slice (some (Addr.mk (AHeap.n h) (0 : Nat) (some (Sh.cells opinionSh)))) n (n + (1 : Nat)) ∧ Value.int IntKind.i64 (0 : Int) = Value.int IntKind.i64 (↑(Prod.fst i) : Int) ∧ Prod.fst (Prod.snd i) = AHeap.push h (AObj.mk (List.replicate (Int.toNat (↑n : Int)) [Value.int IntKind.i64 (Int.ofNat (0 : Nat)), Value.string (ByteArray.mk (Array.mk []))]) (2 : Nat) true) ∧ ToI opinionSh [Value.int IntKind.i64 (0 : Int), Value.string (ByteArray.mk (Array.mk []))] n h xs (Prod.fst i) (Prod.fst (Prod.snd i)) (Prod.fst (Prod.snd (Prod.snd i))) (Prod.snd (Prod.snd (Prod.snd i))) ∧ (∀ (j : AHeap × List (List Value) × List (List Nat)), ToI opinionSh [Value.int IntKind.i64 (0 : Int), Value.string (ByteArray.mk (Array.mk []))] n h xs n (Prod.fst j) (Prod.fst (Prod.snd j)) (Prod.snd (Prod.snd j)) → AHeap.Le h (Prod.fst j) ∧ AHeap.wf (Prod.fst j) ∧ ∃ (ids : List Nat), Value.slice (some (Addr.mk (AHeap.n h) (0 : Nat) (some (Sh.cells opinionSh)))) n (n + (1 : Nat)) = Value.slice (some (Addr.mk (AHeap.n h) (0 : Nat) (some (2 : Nat)))) n (n + (1 : Nat)) ∧ So (Prod.fst j) opinionSh xs (Value.slice (some (Addr.mk (AHeap.n h) (0 : Nat) (some (2 : Nat)))) n (n + (1 : Nat))) ids ∧ Fresh (AHeap.n h) (AHeap.n (Prod.fst j)) ids) ∧ ∀ (v : Value) (h_1 : AHeap), False → AHeap.Le h h_1 ∧ AHeap.wf h_1 ∧ ∃ (ids : List Nat), v = Value.slice (some (Addr.mk (AHeap.n h) (0 : Nat) (some (2 : Nat)))) n (n + (1 : Nat)) ∧ So h_1 opinionSh xs (Value.slice (some (Addr.mk (AHeap.n h) (0 : Nat) (some (2 : Nat)))) n (n + (1 : Nat))) ids ∧ Fresh (AHeap.n h) (AHeap.n h_1) ids) = _) ?_
    refine ⟨Int.natCast_nonneg _, Int.le_refl _, by omega, (0, _, _, _), rfl, rfl, rfl, rfl, ToI.start hw rfl, ?_, fun _ _ h => h.elim⟩
    rintro ⟨h1, rows, idss⟩ I
    obtain ⟨ids, h2, h3⟩ := ToI.finish I en (n + 1)
    exact ⟨I.le, I.wf, ids, rfl, h2, h3⟩

theorem eqOpinion_spec (h : AHeap) (x y : opinionSh.T) :
    ACall Try.prog 78 [.agg #[.int .i64 x.1, .string x.2], .agg #[.int .i64 y.1, .string y.2]] h (.bool (eqb x y)) h := by
  obtain ⟨x1, x2⟩ := x
  obtain ⟨y1, y2⟩ := y
  try dsimp only at *
  refine acall_out (acall_vc (fun _ => false) (fun _ => []) (fun _ => .none) mixed Try.func78 rfl rfl rfl (Nat.le_of_ble_eq_true rfl) (by refine vc_mp (by kernel_rfl : (True ∧ (True ∧ (True ∧ True) ∧ True) ∧ (True ∧ (True ∧ True) ∧ True) ∧ True ∧ True) = _) ?_; simp only [and_self]) ?_)
  refine vc_mp (by kernel_rfl : (bs (!decide (x1 = y1)) (Value.bool false = Value.bool (eqb (x1, x2) (y1, y2)) ∧ h = h) (bs (!decide (x2 = y2)) (Value.bool false = Value.bool (eqb (x1, x2) (y1, y2)) ∧ h = h) (Value.bool true = Value.bool (eqb (x1, x2) (y1, y2)) ∧ h = h))) = _) ?_
  refine bs_dn (fun e => ⟨congrArg _ (eqb_false fun e' => e (by cases e'; rfl)), rfl⟩) (fun e1 => ?_)
  refine bs_dn (fun e => ⟨congrArg _ (eqb_false fun e' => e (by cases e'; rfl)), rfl⟩) (fun e2 => ?_)
  exact ⟨congrArg _ (eqb_true (Prod.ext e1 e2)), rfl⟩

theorem eqOpinionS_spec (h : AHeap) (a : Option Addr) (n c : Nat) (a' : Option Addr) (n' c' : Nat) (xs ys : List opinionSh.T) (hx : Sl h opinionSh xs (.slice a n c)) (hy : Sl h opinionSh ys (.slice a' n' c')) (ok : xs.length ≤ 9223372036854775807) :
    ACall Try.prog 31 [.slice a n c, .slice a' n' c'] h (.bool (eqb xs ys)) h := by
  have en := hx.len
  have en' := hy.len
  have hn : xs.length ≤ 9223372036854775807 := ok
  refine acall_out (acall_vc (fun _ => false) (fun _ => [(0, 0, []), (1, 0, []), (2, 0, []), (4, 0, []), (5, 0, []), (6, 0, []), (3, 1, []), (7, 1, []), (8, 3, []), (9, 0, [])]) (fun _ => eqLp h a n c a' n' c' xs ys) mixed Try.func31 rfl rfl rfl (Nat.le_of_ble_eq_true rfl) ?_ ?_)
  · refine vc_mp (by kernel_rfl : (True ∧ (True ∧ (True ∧ True) ∧ True) ∧ (True ∧ (∀ (i : Nat), EqI xs ys i → bs (decide ((↑i : Int) < (↑n : Int))) (∃ (l : Nat), ∃ (r : Nat), a = some (Addr.mk l r (some (2 : Nat))) ∧ (0 : Int) ≤ (↑i : Int) ∧ (↑i : Int) < (↑n : Int) ∧ ∃ (l_1 : Nat), ∃ (r_1 : Nat), a' = some (Addr.mk l_1 r_1 (some (2 : Nat))) ∧ (0 : Int) ≤ (↑i : Int) ∧ (↑i : Int) < (↑n' : Int) ∧ ∃ (x : Int), ∃ (x_1 : ByteArray), AHeap.ld h l (r + Int.toNat (↑i : Int)) (0 : Nat) (2 : Nat) = some [Value.int IntKind.i64 x, Value.string x_1] ∧ ∃ (x_2 : Int), ∃ (x_3 : ByteArray), AHeap.ld h l_1 (r_1 + Int.toNat (↑i : Int)) (0 : Nat) (2 : Nat) = some [Value.int IntKind.i64 x_2, Value.string x_3] ∧ ∃ (x_4 : Bool), ∃ (h' : AHeap), ACall Try.prog (78 : Nat) [Value.agg (Array.mk [Value.int IntKind.i64 x, Value.string x_1]), Value.agg (Array.mk [Value.int IntKind.i64 x_2, Value.string x_3])] h (Value.bool x_4) h' ∧ bs (!x_4) (Value.bool false = Value.bool (eqb xs ys) ∧ h' = h) (∃ (j : Nat), Value.slice a n c = Value.slice a n c ∧ Value.slice a' n' c' = Value.slice a' n' c' ∧ Value.int IntKind.i64 (IntKind.wrap IntKind.i64 ((↑i : Int) + (1 : Int))) = Value.int IntKind.i64 (↑j : Int) ∧ h = h' ∧ EqI xs ys j ∧ List.length xs - j < List.length xs - i ∧ (∀ (k : Unit), xs = ys → xs = ys) ∧ ∀ (v : Value) (h_1 : AHeap), v = Value.bool (eqb xs ys) ∧ h_1 = h → v = Value.bool (eqb xs ys) ∧ h_1 = h)) (∃ (j : Unit), h = h ∧ xs = ys)) ∧ (True ∧ True ∧ True) ∧ (True ∧ (True ∧ True) ∧ True) ∧ True) ∧ True ∧ True) = _) ?_
    simp only [true_and, and_true]
    rintro (i : Nat) I
    have hl := I.len
    have hi := I.hi
    refine bs_d (fun hlt => ?_) (fun hge => ?_)
    · have hxi : i < xs.length := by omega
      have hyi : i < ys.length := by omega
      obtain ⟨l, r, row, ha, hin, hrd, hld⟩ := hx.elem (List.getElem?_eq_getElem hxi)
      obtain ⟨l', r', row', ha', hin', hrd', hld'⟩ := hy.elem (List.getElem?_eq_getElem hyi)
      obtain rfl := rd_opinion.1 hrd
      obtain rfl := rd_opinion.1 hrd'
      refine ⟨l, r, ha, Int.natCast_nonneg _, hlt, l', r', ha', Int.natCast_nonneg _, by omega, _, _, hld, _, _, hld', _, _, eqOpinion_spec h xs[i] ys[i], bs_nb (fun hb => ?_) (fun hb => ?_)⟩
      · exact ⟨congrArg _ (eqb_false fun e => of_eqb_false hb (by subst e; rfl)), rfl⟩
      · exact ⟨i + 1, by rw [wrap_i64 (by omega)] <;> rfl, rfl, I.step hxi hyi (of_eqb hb), by omega, fun _ h => h, fun _ _ h => h⟩
    · have e : i = xs.length := by omega
      subst e
      exact ⟨(), I.all⟩
  · refine vc_mp (by kernel_rfl : (bs (!decide ((↑n : Int) = (↑n' : Int))) (Value.bool false = Value.bool (eqb xs ys) ∧ h = h) (∃ (i : Nat), Value.slice a n c = Value.slice a n c ∧ Value.slice a' n' c' = Value.slice a' n' c' ∧ Value.int IntKind.i64 (0 : Int) = Value.int IntKind.i64 (↑i : Int) ∧ h = h ∧ EqI xs ys i ∧ (∀ (j : Unit), xs = ys → Value.bool true = Value.bool (eqb xs ys) ∧ h = h) ∧ ∀ (v : Value) (h_1 : AHeap), v = Value.bool (eqb xs ys) ∧ h_1 = h → v = Value.bool (eqb xs ys) ∧ h_1 = h)) = _) ?_
    refine bs_dn (fun hne => ⟨congrArg _ (eqb_false fun e => hne (by rw [← en, ← en', e])), rfl⟩) (fun he => ?_)
    exact ⟨(0 : Nat), rfl, rfl, rfl, rfl, ⟨by omega, Nat.zero_le _, rfl⟩, fun j e => ⟨congrArg _ (eqb_true e), rfl⟩, fun _ _ h => h⟩

end Go.Proofs.Ytgcckeglmhbnmaa
