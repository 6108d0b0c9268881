/- G1. -/
import Derived.Test.YtpgfjadjhliohaaGreatV12C3
namespace Go.Proofs.YtpgfjadjhliohaaGreat
open Go.Abs Go.Dat
set_option maxRecDepth 100000
set_option maxHeartbeats 4000000
theorem szInt64S_spec (h : AHeap) (a : Option Addr) (n c : Nat) (xs : List Sh.int.T) (left : Int) (hx : Sl h Sh.int xs (.slice a n c)) (hl : 0 ≤ left ∧ left ≤ 1048576) (ok : (Sh.sl Sh.int).ok xs) :
    ACall Tryz.prog 168 [.slice a n c, .int .i64 left] h (.int .i64 ((Sh.sl Sh.int).sz xs left)) h := by
  have en := hx.len
  have ok1 : xs.length ≤ 9223372036854775807 := ok.1
  have key : (Sh.sl Sh.int).sz xs left = (if left - (xs.length : Int) < 0 then -1 else szL Sh.int.sz xs (left - (xs.length : Int))) := rfl
  rw [key, en]
  refine acall_out (acall_vc (fun _ => false) (fun _ => []) (fun _ => .none) mixed Tryz.func168 rfl rfl rfl (Nat.le_of_ble_eq_true rfl) (by refine vc_mp (by kernel_rfl : (True ∧ True ∧ (True ∧ (True ∧ True) ∧ True) ∧ True ∧ True) = _) ?_; simp only [and_self]) ?_)
  refine vc_mp (by kernel_rfl : (bs (decide (IntKind.wrap IntKind.i64 (left - (↑n : Int)) < (0 : Int))) (Value.int IntKind.i64 (-1 : Int) = Value.int IntKind.i64 (if left - (↑n : Int) < (0 : Int) then (-1 : Int) else szL (Sh.sz Sh.int) xs (left - (↑n : Int))) ∧ h = h) (Value.int IntKind.i64 (IntKind.wrap IntKind.i64 (left - (↑n : Int))) = Value.int IntKind.i64 (if left - (↑n : Int) < (0 : Int) then (-1 : Int) else szL (Sh.sz Sh.int) xs (left - (↑n : Int))) ∧ h = h)) = _) ?_
  rw [wrap_i64 (by omega)]
  refine bs_d (fun e => ?_) (fun e => ?_)
  · rw [if_pos e]; exact ⟨rfl, rfl⟩
  · rw [if_neg e, szL_int _ _ (by omega)]; exact ⟨rfl, rfl⟩
theorem toInt64S_spec (h : AHeap) (a : Option Addr) (n c : Nat) (xs : List (Sh.T Sh.int)) (hw : h.wf) (hx : Sl h Sh.int xs (.slice a n c)) (ok : (Sh.sl Sh.int).small xs) :
    ∃ v h', ACall Tryz.prog 169 [.slice a n c] h v h' ∧ h.Le h' ∧ h'.wf ∧ ∃ ids, v = .slice (some ⟨h.n, 0, some 1⟩) n (n + 1) ∧ So h' Sh.int xs (.slice (some ⟨h.n, 0, some 1⟩) n (n + 1)) ids ∧ Fresh h.n h'.n ids := by
  have en := hx.len
  have ok1 : xs.length ≤ 1048576 := ok.1
  refine acall_vc (fun _ => false) (fun _ => []) (fun _ => toL Sh.int [.int .i64 0] a n c h xs) mixed Tryz.func169 rfl rfl rfl (Nat.le_of_ble_eq_true rfl) ?_ ?_
  · refine vc_mp (by kernel_rfl : (True ∧ True ∧ (True ∧ (∀ (i : Nat × AHeap × List (List Value) × List (List Nat)), ToI Sh.int [Value.int IntKind.i64 (0 : Int)] n h xs (Prod.fst i) (Prod.fst (Prod.snd i)) (Prod.fst (Prod.snd (Prod.snd i))) (Prod.snd (Prod.snd (Prod.snd i))) → bs (decide ((↑(Prod.fst i) : Int) < (↑n : Int))) (∃ (l : Nat), ∃ (r : Nat), a = some (Addr.mk l r (some (1 : Nat))) ∧ (0 : Int) ≤ (↑(Prod.fst i) : Int) ∧ (↑(Prod.fst i) : Int) < (↑n : Int) ∧ ∃ (x : Int), AHeap.ld (Prod.fst (Prod.snd i)) l (r + Int.toNat (↑(Prod.fst i) : Int)) (0 : Nat) (1 : Nat) = some [Value.int IntKind.i64 x] ∧ ∃ (l : Nat), ∃ (r : Nat), some (Addr.mk (AHeap.n h) (0 : Nat) (some (Sh.cells Sh.int))) = some (Addr.mk l r (some (1 : Nat))) ∧ (0 : Int) ≤ (↑(Prod.fst i) : Int) ∧ (↑(Prod.fst i) : Int) < (↑n : Int) ∧ ∃ (h' : AHeap), AHeap.wr (Prod.fst (Prod.snd i)) l (r + Int.toNat (↑(Prod.fst i) : Int)) (0 : Nat) [Value.int IntKind.i64 x] = some h' ∧ ∃ (j : Nat × AHeap × List (List Value) × List (List Nat)), Value.slice a n c = Value.slice a n c ∧ Value.slice (some (Addr.mk (AHeap.n h) (0 : Nat) (some (Sh.cells Sh.int)))) n (n + (1 : Nat)) = Value.slice (some (Addr.mk (AHeap.n h) (0 : Nat) (some (Sh.cells Sh.int)))) n (n + (1 : Nat)) ∧ Value.int IntKind.i64 (IntKind.wrap IntKind.i64 ((↑(Prod.fst i) : Int) + (1 : Int))) = Value.int IntKind.i64 (↑(Prod.fst j) : Int) ∧ Prod.fst (Prod.snd j) = h' ∧ ToI Sh.int [Value.int IntKind.i64 (0 : Int)] n h xs (Prod.fst j) (Prod.fst (Prod.snd j)) (Prod.fst (Prod.snd (Prod.snd j))) (Prod.snd (Prod.snd (Prod.snd j))) ∧ n - Prod.fst j < n - Prod.fst i ∧ (∀ (k : AHeap × List (List Value) × List (List Nat)), ToI Sh.int [Value.int IntKind.i64 (0 : Int)] n h xs n (Prod.fst k) (Prod.fst (Prod.snd k)) (Prod.snd (Prod.snd k)) → ToI Sh.int [Value.int IntKind.i64 (0 : Int)] n h xs n (Prod.fst k) (Prod.fst (Prod.snd k)) (Prod.snd (Prod.snd k))) ∧ ∀ (v : Value) (h : AHeap), False → False) (∃ (j : AHeap × List (List Value) × List (List Nat)), Value.slice (some (Addr.mk (AHeap.n h) (0 : Nat) (some (Sh.cells Sh.int)))) n (n + (1 : Nat)) = Value.slice (some (Addr.mk (AHeap.n h) (0 : Nat) (some (Sh.cells Sh.int)))) n (n + (1 : Nat)) ∧ Prod.fst j = Prod.fst (Prod.snd i) ∧ ToI Sh.int [Value.int IntKind.i64 (0 : Int)] n h xs n (Prod.fst j) (Prod.fst (Prod.snd j)) (Prod.snd (Prod.snd j)))) ∧ (True ∧ True ∧ True) ∧ True ∧ True) ∧ True ∧ True) = _) ?_
    simp only [true_and, and_true]
    rintro ⟨i, h1, rows, idss⟩ I
    dsimp only at *
    refine bs_d (fun hlt => ?_) (fun hge => ?_)
    · have hio : i < xs.length := by omega
      obtain ⟨l, r, row, ha, _, hrd, hld⟩ := (hx.mono I.le).elem (List.getElem?_eq_getElem hio)
      obtain rfl : row = [.int .i64 xs[i]] := hrd
      obtain ⟨h3, e3, I3⟩ := I.step (cs := [.int .i64 xs[i]]) (ids := []) (by omega) (List.getElem?_eq_getElem hio) (.refl _) I.wf ⟨rfl, rfl⟩ .nil
      refine ⟨l, r, ha, Int.natCast_nonneg _, hlt, _, hld, h.n, 0, rfl, Int.natCast_nonneg _, hlt, h3, e3, (i + 1, h3, _, _), by rw [wrap_i64 (by omega)] <;> rfl, rfl, I3, by dsimp only; omega, fun _ h => h, fun _ _ h => h⟩
    · have hi := I.hi
      have e : i = n := by omega
      subst e
      exact ⟨(h1, rows, idss), rfl, I⟩
  · refine vc_mp (by kernel_rfl : ((0 : Int) ≤ (↑n : Int) ∧ (↑n : Int) ≤ (↑n : Int) ∧ (↑n : Int) * (↑(8 : Nat) : Int) ≤ (140737488355328 : Int) ∧ ∃ (i : Nat × AHeap × List (List Value) × List (List Nat)), Value.slice a n c = Value.slice a n c ∧ Value.slice (some (Addr.mk (AHeap.n h) (0 : Nat) (some (1 : Nat)))) (Int.toNat (↑n : Int)) (Int.toNat (↑n : Int) + (1 : Nat)) = Value.slice (some (Addr.mk (AHeap.n h) (0 : Nat) (some (Sh.cells Sh.int)))) n (n + (1 : Nat)) ∧ Value.int IntKind.i64 (0 : Int) = Value.int IntKind.i64 (↑(Prod.fst i) : Int) ∧ Prod.fst (Prod.snd i) = AHeap.push h (AObj.mk (List.replicate (Int.toNat (↑n : Int)) [Value.int IntKind.i64 (Int.ofNat (0 : Nat))]) (1 : Nat) true) ∧ ToI Sh.int [Value.int IntKind.i64 (0 : Int)] n h xs (Prod.fst i) (Prod.fst (Prod.snd i)) (Prod.fst (Prod.snd (Prod.snd i))) (Prod.snd (Prod.snd (Prod.snd i))) ∧ (∀ (j : AHeap × List (List Value) × List (List Nat)), ToI Sh.int [Value.int IntKind.i64 (0 : Int)] n h xs n (Prod.fst j) (Prod.fst (Prod.snd j)) (Prod.snd (Prod.snd j)) → AHeap.Le h (Prod.fst j) ∧ AHeap.wf (Prod.fst j) ∧ ∃ (ids : List Nat), Value.slice (some (Addr.mk (AHeap.n h) (0 : Nat) (some (Sh.cells Sh.int)))) n (n + (1 : Nat)) = Value.slice (some (Addr.mk (AHeap.n h) (0 : Nat) (some (1 : Nat)))) n (n + (1 : Nat)) ∧ So (Prod.fst j) Sh.int xs (Value.slice (some (Addr.mk (AHeap.n h) (0 : Nat) (some (1 : Nat)))) n (n + (1 : Nat))) ids ∧ Fresh (AHeap.n h) (AHeap.n (Prod.fst j)) ids) ∧ ∀ (v : Value) (h_1 : AHeap), False → AHeap.Le h h_1 ∧ AHeap.wf h_1 ∧ ∃ (ids : List Nat), v = Value.slice (some (Addr.mk (AHeap.n h) (0 : Nat) (some (1 : Nat)))) n (n + (1 : Nat)) ∧ So h_1 Sh.int xs (Value.slice (some (Addr.mk (AHeap.n h) (0 : Nat) (some (1 : Nat)))) n (n + (1 : Nat))) ids ∧ Fresh (AHeap.n h) (AHeap.n h_1) ids) = _) ?_
    refine ⟨Int.natCast_nonneg _, Int.le_refl _, by omega, (0, _, _, _), rfl, rfl, rfl, rfl, ToI.start hw rfl, ?_, fun _ _ h => h.elim⟩
    rintro ⟨h1, rows, idss⟩ I
    obtain ⟨ids, h2, h3⟩ := ToI.finish I en (n + 1)
    exact ⟨I.le, I.wf, ids, rfl, h2, h3⟩
theorem eqInt64S_spec (h : AHeap) (a : Option Addr) (n c : Nat) (a' : Option Addr) (n' c' : Nat) (xs ys : List (Sh.T Sh.int)) (hx : Sl h Sh.int xs (.slice a n c)) (hy : Sl h Sh.int ys (.slice a' n' c')) (hn : xs.length ≤ 9223372036854775807) :
    ACall Tryz.prog 170 [.slice a n c, .slice a' n' c'] h (.bool (eqb xs ys)) h := by
  have en := hx.len
  have en' := hy.len
  refine acall_out (acall_vc (fun _ => false) (fun _ => [(0, 0, []), (1, 0, []), (2, 0, []), (4, 0, []), (5, 0, []), (6, 0, []), (3, 1, []), (7, 1, []), (8, 0, [])]) (fun _ => eqLp h a n c a' n' c' xs ys) mixed Tryz.func170 rfl rfl rfl (Nat.le_of_ble_eq_true rfl) ?_ ?_)
  · refine vc_mp (by kernel_rfl : (True ∧ (True ∧ (True ∧ True) ∧ True) ∧ (True ∧ (∀ (i : Nat), EqI xs ys i → bs (decide ((↑i : Int) < (↑n : Int))) (∃ (l : Nat), ∃ (r : Nat), a = some (Addr.mk l r (some (1 : Nat))) ∧ (0 : Int) ≤ (↑i : Int) ∧ (↑i : Int) < (↑n : Int) ∧ ∃ (l_1 : Nat), ∃ (r_1 : Nat), a' = some (Addr.mk l_1 r_1 (some (1 : Nat))) ∧ (0 : Int) ≤ (↑i : Int) ∧ (↑i : Int) < (↑n' : Int) ∧ ∃ (x : Int), AHeap.ld h l (r + Int.toNat (↑i : Int)) (0 : Nat) (1 : Nat) = some [Value.int IntKind.i64 x] ∧ ∃ (x_1 : Int), AHeap.ld h l_1 (r_1 + Int.toNat (↑i : Int)) (0 : Nat) (1 : Nat) = some [Value.int IntKind.i64 x_1] ∧ bs (!decide (x = x_1)) (Value.bool false = Value.bool (eqb xs ys) ∧ h = h) (∃ (j : Nat), Value.slice a n c = Value.slice a n c ∧ Value.slice a' n' c' = Value.slice a' n' c' ∧ Value.int IntKind.i64 (IntKind.wrap IntKind.i64 ((↑i : Int) + (1 : Int))) = Value.int IntKind.i64 (↑j : Int) ∧ h = h ∧ EqI xs ys j ∧ List.length xs - j < List.length xs - i ∧ (∀ (k : Unit), xs = ys → xs = ys) ∧ ∀ (v : Value) (h_1 : AHeap), v = Value.bool (eqb xs ys) ∧ h_1 = h → v = Value.bool (eqb xs ys) ∧ h_1 = h)) (∃ (j : Unit), h = h ∧ xs = ys)) ∧ (True ∧ True ∧ True) ∧ (True ∧ (True ∧ True) ∧ True) ∧ True) ∧ True ∧ True) = _) ?_
    simp only [true_and, and_true]
    rintro (i : Nat) I
    have hl := I.len
    have hi := I.hi
    refine bs_d (fun hlt => ?_) (fun hge => ?_)
    · have hxi : i < xs.length := by omega
      have hyi : i < ys.length := by omega
      obtain ⟨l, r, row, ha, hin, hrd, hld⟩ := hx.elem (List.getElem?_eq_getElem hxi)
      obtain ⟨l', r', row', ha', hin', hrd', hld'⟩ := hy.elem (List.getElem?_eq_getElem hyi)
      obtain rfl : row = [.int .i64 xs[i]] := hrd
      obtain rfl : row' = [.int .i64 ys[i]] := hrd'
      refine ⟨l, r, ha, Int.natCast_nonneg _, hlt, l', r', ha', Int.natCast_nonneg _, by omega, _, hld, _, hld', bs_dn (fun hb => ?_) (fun hb => ?_)⟩
      · exact congrArg _ (eqb_false fun e => hb (by subst e; rfl))
      · exact ⟨i + 1, by rw [wrap_i64 (by omega)] <;> rfl, I.step hxi hyi hb, by omega, fun _ h => h, fun _ _ h => h⟩
    · have e : i = xs.length := by omega
      subst e
      exact ⟨(), I.all⟩
  · refine vc_mp (by kernel_rfl : (bs (!decide ((↑n : Int) = (↑n' : Int))) (Value.bool false = Value.bool (eqb xs ys) ∧ h = h) (∃ (i : Nat), Value.slice a n c = Value.slice a n c ∧ Value.slice a' n' c' = Value.slice a' n' c' ∧ Value.int IntKind.i64 (0 : Int) = Value.int IntKind.i64 (↑i : Int) ∧ h = h ∧ EqI xs ys i ∧ (∀ (j : Unit), xs = ys → Value.bool true = Value.bool (eqb xs ys) ∧ h = h) ∧ ∀ (v : Value) (h_1 : AHeap), v = Value.bool (eqb xs ys) ∧ h_1 = h → v = Value.bool (eqb xs ys) ∧ h_1 = h)) = _) ?_
    refine bs_dn (fun hne => ⟨congrArg _ (eqb_false fun e => hne (by rw [← en, ← en', e])), rfl⟩) (fun he => ?_)
    exact ⟨(0 : Nat), rfl, rfl, rfl, rfl, ⟨by omega, Nat.zero_le _, rfl⟩, fun j e => ⟨congrArg _ (eqb_true e), rfl⟩, fun _ _ h => h⟩
theorem szStringS_spec (h : AHeap) (a : Option Addr) (n c : Nat) (xs : List Sh.str.T) (left : Int) (hx : Sl h Sh.str xs (.slice a n c)) (hl : 0 ≤ left ∧ left ≤ 1048576) (ok : (Sh.sl Sh.str).ok xs) :
    ACall Tryz.prog 31 [.slice a n c, .int .i64 left] h (.int .i64 ((Sh.sl Sh.str).sz xs left)) h := by
  have en := hx.len
  have ok1 : xs.length ≤ 9223372036854775807 := ok.1
  have key : (Sh.sl Sh.str).sz xs left = (if left - (xs.length : Int) < 0 then -1 else szL Sh.str.sz xs (left - (xs.length : Int))) := rfl
  rw [key, en]
  refine acall_out (acall_vc (fun _ => false) (fun _ => []) (fun _ => szLp Sh.str a n c h xs (szL Sh.str.sz xs (left - n))) mixed Tryz.func31 rfl rfl rfl (Nat.le_of_ble_eq_true rfl) ?_ ?_)
  · refine vc_mp (by kernel_rfl : (True ∧ True ∧ (True ∧ (True ∧ True) ∧ True) ∧ (True ∧ (∀ (i : Nat × Int), Prod.fst i ≤ n ∧ (0 : Int) ≤ Prod.snd i ∧ Prod.snd i ≤ (1048576 : Int) ∧ szL (Sh.sz Sh.str) (List.drop (Prod.fst i) xs) (Prod.snd i) = szL (Sh.sz Sh.str) xs (left - (↑n : Int)) → bs (decide ((↑(Prod.fst i) : Int) < (↑n : Int))) (∃ (l : Nat), ∃ (r : Nat), a = some (Addr.mk l r (some (1 : Nat))) ∧ (0 : Int) ≤ (↑(Prod.fst i) : Int) ∧ (↑(Prod.fst i) : Int) < (↑n : Int) ∧ ∃ (x : ByteArray), AHeap.ld h l (r + Int.toNat (↑(Prod.fst i) : Int)) (0 : Nat) (1 : Nat) = some [Value.string x] ∧ bs (decide (IntKind.wrap IntKind.i64 (Prod.snd i - (↑(ByteArray.size x) : Int)) < (0 : Int))) (Value.int IntKind.i64 (-1 : Int) = Value.int IntKind.i64 (szL (Sh.sz Sh.str) xs (left - (↑n : Int))) ∧ h = h) (∃ (j : Nat × Int), Value.slice a n c = Value.slice a n c ∧ Value.int IntKind.i64 (IntKind.wrap IntKind.i64 (Prod.snd i - (↑(ByteArray.size x) : Int))) = Value.int IntKind.i64 (Prod.snd j) ∧ Value.int IntKind.i64 (IntKind.wrap IntKind.i64 ((↑(Prod.fst i) : Int) + (1 : Int))) = Value.int IntKind.i64 (↑(Prod.fst j) : Int) ∧ h = h ∧ (Prod.fst j ≤ n ∧ (0 : Int) ≤ Prod.snd j ∧ Prod.snd j ≤ (1048576 : Int) ∧ szL (Sh.sz Sh.str) (List.drop (Prod.fst j) xs) (Prod.snd j) = szL (Sh.sz Sh.str) xs (left - (↑n : Int))) ∧ n - Prod.fst j < n - Prod.fst i ∧ (∀ (k : Int), k = szL (Sh.sz Sh.str) xs (left - (↑n : Int)) → k = szL (Sh.sz Sh.str) xs (left - (↑n : Int))) ∧ ∀ (v : Value) (h_1 : AHeap), v = Value.int IntKind.i64 (szL (Sh.sz Sh.str) xs (left - (↑n : Int))) ∧ h_1 = h → v = Value.int IntKind.i64 (szL (Sh.sz Sh.str) xs (left - (↑n : Int))) ∧ h_1 = h)) (∃ (j : Int), Value.int IntKind.i64 (Prod.snd i) = Value.int IntKind.i64 j ∧ h = h ∧ j = szL (Sh.sz Sh.str) xs (left - (↑n : Int)))) ∧ (True ∧ True ∧ True) ∧ (True ∧ True ∧ (True ∧ True) ∧ True) ∧ True) ∧ True ∧ True) = _) ?_
    simp only [true_and, and_true]
    rintro ⟨i, x⟩ ⟨hi, h0, h1, he⟩
    dsimp only at *
    refine bs_d (fun hlt => ?_) (fun hge => ?_)
    · have hio : i < xs.length := by omega
      obtain ⟨l, r, row, ha, _, hrd, hld⟩ := hx.elem (List.getElem?_eq_getElem hio)
      have hoi : (xs[i] : ByteArray).size ≤ 9223372036854775807 := ok.2 xs[i] (List.getElem_mem hio)
      obtain rfl : row = [.string xs[i]] := hrd
      rw [List.drop_eq_getElem_cons hio] at he
      have he : (if Sh.str.sz xs[i] x < 0 then -1 else szL Sh.str.sz (xs.drop (i + 1)) (Sh.str.sz xs[i] x)) = szL Sh.str.sz xs (left - n) := he
      refine ⟨l, r, ha, Int.natCast_nonneg _, hlt, _, hld, ?_⟩
      rw [wrap_i64 (by omega)]
      refine bs_d (fun hneg => ?_) (fun hpos => ?_)
      · rw [sz_strn hneg, if_pos (by omega)] at he; exact congrArg _ he
      · rw [sz_str hpos, if_neg hpos] at he
        exact ⟨(i + 1, x - ((xs[i] : ByteArray).size : Int)), rfl, by rw [wrap_i64 (by omega)] <;> rfl, ⟨by dsimp only; omega, by dsimp only; omega, by dsimp only; omega, he⟩, by dsimp only; omega, fun _ h => h, fun _ _ h => h⟩
    · have e : i = xs.length := by omega
      subst e
      rw [List.drop_length] at he
      exact ⟨x, rfl, he⟩
  · refine vc_mp (by kernel_rfl : (bs (decide (IntKind.wrap IntKind.i64 (left - (↑n : Int)) < (0 : Int))) (Value.int IntKind.i64 (-1 : Int) = Value.int IntKind.i64 (if left - (↑n : Int) < (0 : Int) then (-1 : Int) else szL (Sh.sz Sh.str) xs (left - (↑n : Int))) ∧ h = h) (∃ (i : Nat × Int), Value.slice a n c = Value.slice a n c ∧ Value.int IntKind.i64 (IntKind.wrap IntKind.i64 (left - (↑n : Int))) = Value.int IntKind.i64 (Prod.snd i) ∧ Value.int IntKind.i64 (0 : Int) = Value.int IntKind.i64 (↑(Prod.fst i) : Int) ∧ h = h ∧ (Prod.fst i ≤ n ∧ (0 : Int) ≤ Prod.snd i ∧ Prod.snd i ≤ (1048576 : Int) ∧ szL (Sh.sz Sh.str) (List.drop (Prod.fst i) xs) (Prod.snd i) = szL (Sh.sz Sh.str) xs (left - (↑n : Int))) ∧ (∀ (j : Int), j = szL (Sh.sz Sh.str) xs (left - (↑n : Int)) → Value.int IntKind.i64 j = Value.int IntKind.i64 (if left - (↑n : Int) < (0 : Int) then (-1 : Int) else szL (Sh.sz Sh.str) xs (left - (↑n : Int))) ∧ h = h) ∧ ∀ (v : Value) (h_1 : AHeap), v = Value.int IntKind.i64 (szL (Sh.sz Sh.str) xs (left - (↑n : Int))) ∧ h_1 = h → v = Value.int IntKind.i64 (if left - (↑n : Int) < (0 : Int) then (-1 : Int) else szL (Sh.sz Sh.str) xs (left - (↑n : Int))) ∧ h_1 = h)) = _) ?_
    rw [wrap_i64 (by omega)]
    refine bs_d (fun e => ?_) (fun e => ?_)
    · rw [if_pos e]; exact ⟨rfl, rfl⟩
    · rw [if_neg e]
      exact ⟨(0, left - n), rfl, rfl, rfl, rfl, ⟨Nat.zero_le _, by dsimp only; omega, by dsimp only; omega, rfl⟩, fun j hj => ⟨by rw [hj], rfl⟩, fun _ _ h => h⟩
theorem toStringS_spec (h : AHeap) (a : Option Addr) (n c : Nat) (xs : List (Sh.T Sh.str)) (hw : h.wf) (hx : Sl h Sh.str xs (.slice a n c)) (ok : (Sh.sl Sh.str).small xs) :
    ∃ v h', ACall Tryz.prog 38 [.slice a n c] h v h' ∧ h.Le h' ∧ h'.wf ∧ ∃ ids, v = .slice (some ⟨h.n, 0, some 1⟩) n (n + 1) ∧ So h' Sh.str xs (.slice (some ⟨h.n, 0, some 1⟩) n (n + 1)) ids ∧ Fresh h.n h'.n ids := by
  have en := hx.len
  have ok1 : xs.length ≤ 1048576 := ok.1
  refine acall_vc (fun _ => false) (fun _ => []) (fun _ => toL Sh.str [.string ⟨#[]⟩] a n c h xs) mixed Tryz.func38 rfl rfl rfl (Nat.le_of_ble_eq_true rfl) ?_ ?_
  · refine vc_mp (by kernel_rfl : (True ∧ True ∧ (True ∧ (∀ (i : Nat × AHeap × List (List Value) × List (List Nat)), ToI Sh.str [Value.string (ByteArray.mk (Array.mk []))] n h xs (Prod.fst i) (Prod.fst (Prod.snd i)) (Prod.fst (Prod.snd (Prod.snd i))) (Prod.snd (Prod.snd (Prod.snd i))) → bs (decide ((↑(Prod.fst i) : Int) < (↑n : Int))) (∃ (l : Nat), ∃ (r : Nat), a = some (Addr.mk l r (some (1 : Nat))) ∧ (0 : Int) ≤ (↑(Prod.fst i) : Int) ∧ (↑(Prod.fst i) : Int) < (↑n : Int) ∧ ∃ (x : ByteArray), AHeap.ld (Prod.fst (Prod.snd i)) l (r + Int.toNat (↑(Prod.fst i) : Int)) (0 : Nat) (1 : Nat) = some [Value.string x] ∧ ∃ (l : Nat), ∃ (r : Nat), some (Addr.mk (AHeap.n h) (0 : Nat) (some (Sh.cells Sh.str))) = some (Addr.mk l r (some (1 : Nat))) ∧ (0 : Int) ≤ (↑(Prod.fst i) : Int) ∧ (↑(Prod.fst i) : Int) < (↑n : Int) ∧ ∃ (h' : AHeap), AHeap.wr (Prod.fst (Prod.snd i)) l (r + Int.toNat (↑(Prod.fst i) : Int)) (0 : Nat) [Value.string x] = some h' ∧ ∃ (j : Nat × AHeap × List (List Value) × List (List Nat)), Value.slice a n c = Value.slice a n c ∧ Value.slice (some (Addr.mk (AHeap.n h) (0 : Nat) (some (Sh.cells Sh.str)))) n (n + (1 : Nat)) = Value.slice (some (Addr.mk (AHeap.n h) (0 : Nat) (some (Sh.cells Sh.str)))) n (n + (1 : Nat)) ∧ Value.int IntKind.i64 (IntKind.wrap IntKind.i64 ((↑(Prod.fst i) : Int) + (1 : Int))) = Value.int IntKind.i64 (↑(Prod.fst j) : Int) ∧ Prod.fst (Prod.snd j) = h' ∧ ToI Sh.str [Value.string (ByteArray.mk (Array.mk []))] n h xs (Prod.fst j) (Prod.fst (Prod.snd j)) (Prod.fst (Prod.snd (Prod.snd j))) (Prod.snd (Prod.snd (Prod.snd j))) ∧ n - Prod.fst j < n - Prod.fst i ∧ (∀ (k : AHeap × List (List Value) × List (List Nat)), ToI Sh.str [Value.string (ByteArray.mk (Array.mk []))] n h xs n (Prod.fst k) (Prod.fst (Prod.snd k)) (Prod.snd (Prod.snd k)) → ToI Sh.str [Value.string (ByteArray.mk (Array.mk []))] n h xs n (Prod.fst k) (Prod.fst (Prod.snd k)) (Prod.snd (Prod.snd k))) ∧ ∀ (v : Value) (h : AHeap), False → False) (∃ (j : AHeap × List (List Value) × List (List Nat)), Value.slice (some (Addr.mk (AHeap.n h) (0 : Nat) (some (Sh.cells Sh.str)))) n (n + (1 : Nat)) = Value.slice (some (Addr.mk (AHeap.n h) (0 : Nat) (some (Sh.cells Sh.str)))) n (n + (1 : Nat)) ∧ Prod.fst j = Prod.fst (Prod.snd i) ∧ ToI Sh.str [Value.string (ByteArray.mk (Array.mk []))] n h xs n (Prod.fst j) (Prod.fst (Prod.snd j)) (Prod.snd (Prod.snd j)))) ∧ (True ∧ True ∧ True) ∧ True ∧ True) ∧ True ∧ True) = _) ?_
    simp only [true_and, and_true]
    rintro ⟨i, h1, rows, idss⟩ I
    dsimp only at *
    refine bs_d (fun hlt => ?_) (fun hge => ?_)
    · have hio : i < xs.length := by omega
      obtain ⟨l, r, row, ha, _, hrd, hld⟩ := (hx.mono I.le).elem (List.getElem?_eq_getElem hio)
      obtain rfl : row = [.string xs[i]] := hrd
      obtain ⟨h3, e3, I3⟩ := I.step (cs := [.string xs[i]]) (ids := []) (by omega) (List.getElem?_eq_getElem hio) (.refl _) I.wf ⟨rfl, rfl⟩ .nil
      refine ⟨l, r, ha, Int.natCast_nonneg _, hlt, _, hld, h.n, 0, rfl, Int.natCast_nonneg _, hlt, h3, e3, (i + 1, h3, _, _), by rw [wrap_i64 (by omega)] <;> rfl, rfl, I3, by dsimp only; omega, fun _ h => h, fun _ _ h => h⟩
    · have hi := I.hi
      have e : i = n := by omega
      subst e
      exact ⟨(h1, rows, idss), rfl, I⟩
  · refine vc_mp (by kernel_rfl : ((0 : Int) ≤ (↑n : Int) ∧ (↑n : Int) ≤ (↑n : Int) ∧ (↑n : Int) * (↑(16 : Nat) : Int) ≤ (140737488355328 : Int) ∧ ∃ (i : Nat × AHeap × List (List Value) × List (List Nat)), Value.slice a n c = Value.slice a n c ∧ Value.slice (some (Addr.mk (AHeap.n h) (0 : Nat) (some (1 : Nat)))) (Int.toNat (↑n : Int)) (Int.toNat (↑n : Int) + (1 : Nat)) = Value.slice (some (Addr.mk (AHeap.n h) (0 : Nat) (some (Sh.cells Sh.str)))) n (n + (1 : Nat)) ∧ Value.int IntKind.i64 (0 : Int) = Value.int IntKind.i64 (↑(Prod.fst i) : Int) ∧ Prod.fst (Prod.snd i) = AHeap.push h (AObj.mk (List.replicate (Int.toNat (↑n : Int)) [Value.string (ByteArray.mk (Array.mk []))]) (1 : Nat) true) ∧ ToI Sh.str [Value.string (ByteArray.mk (Array.mk []))] n h xs (Prod.fst i) (Prod.fst (Prod.snd i)) (Prod.fst (Prod.snd (Prod.snd i))) (Prod.snd (Prod.snd (Prod.snd i))) ∧ (∀ (j : AHeap × List (List Value) × List (List Nat)), ToI Sh.str [Value.string (ByteArray.mk (Array.mk []))] n h xs n (Prod.fst j) (Prod.fst (Prod.snd j)) (Prod.snd (Prod.snd j)) → AHeap.Le h (Prod.fst j) ∧ AHeap.wf (Prod.fst j) ∧ ∃ (ids : List Nat), Value.slice (some (Addr.mk (AHeap.n h) (0 : Nat) (some (Sh.cells Sh.str)))) n (n + (1 : Nat)) = Value.slice (some (Addr.mk (AHeap.n h) (0 : Nat) (some (1 : Nat)))) n (n + (1 : Nat)) ∧ So (Prod.fst j) Sh.str xs (Value.slice (some (Addr.mk (AHeap.n h) (0 : Nat) (some (1 : Nat)))) n (n + (1 : Nat))) ids ∧ Fresh (AHeap.n h) (AHeap.n (Prod.fst j)) ids) ∧ ∀ (v : Value) (h_1 : AHeap), False → AHeap.Le h h_1 ∧ AHeap.wf h_1 ∧ ∃ (ids : List Nat), v = Value.slice (some (Addr.mk (AHeap.n h) (0 : Nat) (some (1 : Nat)))) n (n + (1 : Nat)) ∧ So h_1 Sh.str xs (Value.slice (some (Addr.mk (AHeap.n h) (0 : Nat) (some (1 : Nat)))) n (n + (1 : Nat))) ids ∧ Fresh (AHeap.n h) (AHeap.n h_1) ids) = _) ?_
    refine ⟨Int.natCast_nonneg _, Int.le_refl _, by omega, (0, _, _, _), rfl, rfl, rfl, rfl, ToI.start hw rfl, ?_, fun _ _ h => h.elim⟩
    rintro ⟨h1, rows, idss⟩ I
    obtain ⟨ids, h2, h3⟩ := ToI.finish I en (n + 1)
    exact ⟨I.le, I.wf, ids, rfl, h2, h3⟩
theorem eqStringS_spec (h : AHeap) (a : Option Addr) (n c : Nat) (a' : Option Addr) (n' c' : Nat) (xs ys : List (Sh.T Sh.str)) (hx : Sl h Sh.str xs (.slice a n c)) (hy : Sl h Sh.str ys (.slice a' n' c')) (hn : xs.length ≤ 9223372036854775807) :
    ACall Tryz.prog 43 [.slice a n c, .slice a' n' c'] h (.bool (eqb xs ys)) h := by
  have en := hx.len
  have en' := hy.len
  refine acall_out (acall_vc (fun _ => false) (fun _ => [(0, 0, []), (1, 0, []), (2, 0, []), (4, 0, []), (5, 0, []), (6, 0, []), (3, 1, []), (7, 1, []), (8, 0, [])]) (fun _ => eqLp h a n c a' n' c' xs ys) mixed Tryz.func43 rfl rfl rfl (Nat.le_of_ble_eq_true rfl) ?_ ?_)
  · refine vc_mp (by kernel_rfl : (True ∧ (True ∧ (True ∧ True) ∧ True) ∧ (True ∧ (∀ (i : Nat), EqI xs ys i → bs (decide ((↑i : Int) < (↑n : Int))) (∃ (l : Nat), ∃ (r : Nat), a = some (Addr.mk l r (some (1 : Nat))) ∧ (0 : Int) ≤ (↑i : Int) ∧ (↑i : Int) < (↑n : Int) ∧ ∃ (l_1 : Nat), ∃ (r_1 : Nat), a' = some (Addr.mk l_1 r_1 (some (1 : Nat))) ∧ (0 : Int) ≤ (↑i : Int) ∧ (↑i : Int) < (↑n' : Int) ∧ ∃ (x : ByteArray), AHeap.ld h l (r + Int.toNat (↑i : Int)) (0 : Nat) (1 : Nat) = some [Value.string x] ∧ ∃ (x_1 : ByteArray), AHeap.ld h l_1 (r_1 + Int.toNat (↑i : Int)) (0 : Nat) (1 : Nat) = some [Value.string x_1] ∧ bs (!decide (x = x_1)) (Value.bool false = Value.bool (eqb xs ys) ∧ h = h) (∃ (j : Nat), Value.slice a n c = Value.slice a n c ∧ Value.slice a' n' c' = Value.slice a' n' c' ∧ Value.int IntKind.i64 (IntKind.wrap IntKind.i64 ((↑i : Int) + (1 : Int))) = Value.int IntKind.i64 (↑j : Int) ∧ h = h ∧ EqI xs ys j ∧ List.length xs - j < List.length xs - i ∧ (∀ (k : Unit), xs = ys → xs = ys) ∧ ∀ (v : Value) (h_1 : AHeap), v = Value.bool (eqb xs ys) ∧ h_1 = h → v = Value.bool (eqb xs ys) ∧ h_1 = h)) (∃ (j : Unit), h = h ∧ xs = ys)) ∧ (True ∧ True ∧ True) ∧ (True ∧ (True ∧ True) ∧ True) ∧ True) ∧ True ∧ True) = _) ?_
    simp only [true_and, and_true]
    rintro (i : Nat) I
    have hl := I.len
    have hi := I.hi
    refine bs_d (fun hlt => ?_) (fun hge => ?_)
    · have hxi : i < xs.length := by omega
      have hyi : i < ys.length := by omega
      obtain ⟨l, r, row, ha, hin, hrd, hld⟩ := hx.elem (List.getElem?_eq_getElem hxi)
      obtain ⟨l', r', row', ha', hin', hrd', hld'⟩ := hy.elem (List.getElem?_eq_getElem hyi)
      obtain rfl : row = [.string xs[i]] := hrd
      obtain rfl : row' = [.string ys[i]] := hrd'
      refine ⟨l, r, ha, Int.natCast_nonneg _, hlt, l', r', ha', Int.natCast_nonneg _, by omega, _, hld, _, hld', bs_dn (fun hb => ?_) (fun hb => ?_)⟩
      · exact congrArg _ (eqb_false fun e => hb (by subst e; rfl))
      · exact ⟨i + 1, by rw [wrap_i64 (by omega)] <;> rfl, I.step hxi hyi hb, by omega, fun _ h => h, fun _ _ h => h⟩
    · have e : i = xs.length := by omega
      subst e
      exact ⟨(), I.all⟩
  · refine vc_mp (by kernel_rfl : (bs (!decide ((↑n : Int) = (↑n' : Int))) (Value.bool false = Value.bool (eqb xs ys) ∧ h = h) (∃ (i : Nat), Value.slice a n c = Value.slice a n c ∧ Value.slice a' n' c' = Value.slice a' n' c' ∧ Value.int IntKind.i64 (0 : Int) = Value.int IntKind.i64 (↑i : Int) ∧ h = h ∧ EqI xs ys i ∧ (∀ (j : Unit), xs = ys → Value.bool true = Value.bool (eqb xs ys) ∧ h = h) ∧ ∀ (v : Value) (h_1 : AHeap), v = Value.bool (eqb xs ys) ∧ h_1 = h → v = Value.bool (eqb xs ys) ∧ h_1 = h)) = _) ?_
    refine bs_dn (fun hne => ⟨congrArg _ (eqb_false fun e => hne (by rw [← en, ← en', e])), rfl⟩) (fun he => ?_)
    exact ⟨(0 : Nat), rfl, rfl, rfl, rfl, ⟨by omega, Nat.zero_le _, rfl⟩, fun j e => ⟨congrArg _ (eqb_true e), rfl⟩, fun _ _ h => h⟩
theorem szProof_spec (h : AHeap) (x : proofSh.T) (left : Int) (v1 : Value) (h1 : Sl h Sh.int x.2.2.2 v1) (hl : 0 ≤ left ∧ left ≤ 1048576) (ok : proofSh.ok x) :
    ACall Tryz.prog 157 [.agg #[.int .i64 x.1, .int .i64 x.2.1, .string x.2.2.1, v1], .int .i64 left] h (.int .i64 (proofSh.sz x left)) h := by
  obtain ⟨x1, x2, x3, x4⟩ := x
  try dsimp only at *
  obtain ⟨a1, c1, rfl⟩ := h1.isSlice
  refine acall_out (acall_vc (fun _ => false) (fun _ => []) (fun _ => .none) mixed Tryz.func157 rfl rfl rfl (Nat.le_of_ble_eq_true rfl) (by refine vc_mp (by kernel_rfl : (True ∧ True ∧ (True ∧ (True ∧ True) ∧ True) ∧ True ∧ (True ∧ (True ∧ True) ∧ True) ∧ True ∧ True) = _) ?_; simp only [and_self]) ?_)
  refine vc_mp (by kernel_rfl : (bs (decide (IntKind.wrap IntKind.i64 (left - (↑(ByteArray.size x3) : Int)) < (0 : Int))) (Value.int IntKind.i64 (-1 : Int) = Value.int IntKind.i64 (Sh.sz proofSh (x1, x2, x3, x4) left) ∧ h = h) (∃ (x : Int), ∃ (h' : AHeap), ACall Tryz.prog (168 : Nat) [Value.slice a1 (List.length x4) c1, Value.int IntKind.i64 (IntKind.wrap IntKind.i64 (left - (↑(ByteArray.size x3) : Int)))] h (Value.int IntKind.i64 x) h' ∧ bs (decide (x < (0 : Int))) (Value.int IntKind.i64 (-1 : Int) = Value.int IntKind.i64 (Sh.sz proofSh (x1, x2, x3, x4) left) ∧ h' = h) (Value.int IntKind.i64 x = Value.int IntKind.i64 (Sh.sz proofSh (x1, x2, x3, x4) left) ∧ h' = h))) = _) ?_
  have o1 : (x3 : ByteArray).size ≤ 9223372036854775807 := ok.2.2.1
  rw [wrap_i64 (by omega)]
  refine bs_d (fun e1 => by refine ⟨congrArg _ (Eq.symm ?_), rfl⟩; exact sz_step rfl hl.1 (sz_step rfl hl.1 (sz_stop (neg1 (sz_strn e1))))) (fun e1 => ?_)
  have b2 := (Sh.sl Sh.int).sz_le x4 (left - ((x3 : ByteArray).size : Int)) (by omega)
  refine ⟨_, _, szInt64S_spec h a1 _ c1 _ (left - ((x3 : ByteArray).size : Int)) h1 (by omega) ok.2.2.2, bs_d (fun e2 => by refine ⟨congrArg _ (Eq.symm ?_), rfl⟩; exact sz_step rfl hl.1 (sz_step rfl hl.1 (sz_step (sz_str e1) (Int.not_lt.1 e1) (sz_neg (Int.not_lt.1 e1) e2)))) (fun e2 => ?_)⟩
  refine ⟨congrArg _ (Eq.symm ?_), rfl⟩
  exact sz_step rfl hl.1 (sz_step rfl hl.1 (sz_step (sz_str e1) (Int.not_lt.1 e1) (rfl)))
theorem szProofS_spec (h : AHeap) (a : Option Addr) (n c : Nat) (xs : List proofSh.T) (left : Int) (hx : Sl h proofSh xs (.slice a n c)) (hl : 0 ≤ left ∧ left ≤ 1048576) (ok : (Sh.sl proofSh).ok xs) :
    ACall Tryz.prog 130 [.slice a n c, .int .i64 left] h (.int .i64 ((Sh.sl proofSh).sz xs left)) h := by
  have en := hx.len
  have ok1 : xs.length ≤ 9223372036854775807 := ok.1
  have key : (Sh.sl proofSh).sz xs left = (if left - (xs.length : Int) < 0 then -1 else szL proofSh.sz xs (left - (xs.length : Int))) := rfl
  rw [key, en]
  refine acall_out (acall_vc (fun _ => false) (fun _ => []) (fun _ => szLp proofSh a n c h xs (szL proofSh.sz xs (left - n))) mixed Tryz.func130 rfl rfl rfl (Nat.le_of_ble_eq_true rfl) ?_ ?_)
  · refine vc_mp (by kernel_rfl : (True ∧ True ∧ (True ∧ (True ∧ True) ∧ True) ∧ (True ∧ (∀ (i : Nat × Int), Prod.fst i ≤ n ∧ (0 : Int) ≤ Prod.snd i ∧ Prod.snd i ≤ (1048576 : Int) ∧ szL (Sh.sz proofSh) (List.drop (Prod.fst i) xs) (Prod.snd i) = szL (Sh.sz proofSh) xs (left - (↑n : Int)) → bs (decide ((↑(Prod.fst i) : Int) < (↑n : Int))) (∃ (l : Nat), ∃ (r : Nat), a = some (Addr.mk l r (some (4 : Nat))) ∧ (0 : Int) ≤ (↑(Prod.fst i) : Int) ∧ (↑(Prod.fst i) : Int) < (↑n : Int) ∧ ∃ (x : Int), ∃ (x_1 : Int), ∃ (x_2 : ByteArray), ∃ (a_2 : Option Addr), ∃ (n_1 : Nat), ∃ (c_1 : Nat), AHeap.ld h l (r + Int.toNat (↑(Prod.fst i) : Int)) (0 : Nat) (4 : Nat) = some [Value.int IntKind.i64 x, Value.int IntKind.i64 x_1, Value.string x_2, Value.slice a_2 n_1 c_1] ∧ ∃ (x_3 : Int), ∃ (h' : AHeap), ACall Tryz.prog (157 : Nat) [Value.agg (Array.mk [Value.int IntKind.i64 x, Value.int IntKind.i64 x_1, Value.string x_2, Value.slice a_2 n_1 c_1]), Value.int IntKind.i64 (Prod.snd i)] h (Value.int IntKind.i64 x_3) h' ∧ bs (decide (x_3 < (0 : Int))) (Value.int IntKind.i64 (-1 : Int) = Value.int IntKind.i64 (szL (Sh.sz proofSh) xs (left - (↑n : Int))) ∧ h' = h) (∃ (j : Nat × Int), Value.slice a n c = Value.slice a n c ∧ Value.int IntKind.i64 x_3 = Value.int IntKind.i64 (Prod.snd j) ∧ Value.int IntKind.i64 (IntKind.wrap IntKind.i64 ((↑(Prod.fst i) : Int) + (1 : Int))) = Value.int IntKind.i64 (↑(Prod.fst j) : Int) ∧ h = h' ∧ (Prod.fst j ≤ n ∧ (0 : Int) ≤ Prod.snd j ∧ Prod.snd j ≤ (1048576 : Int) ∧ szL (Sh.sz proofSh) (List.drop (Prod.fst j) xs) (Prod.snd j) = szL (Sh.sz proofSh) xs (left - (↑n : Int))) ∧ n - Prod.fst j < n - Prod.fst i ∧ (∀ (k : Int), k = szL (Sh.sz proofSh) xs (left - (↑n : Int)) → k = szL (Sh.sz proofSh) xs (left - (↑n : Int))) ∧ ∀ (v : Value) (h_1 : AHeap), v = Value.int IntKind.i64 (szL (Sh.sz proofSh) xs (left - (↑n : Int))) ∧ h_1 = h → v = Value.int IntKind.i64 (szL (Sh.sz proofSh) xs (left - (↑n : Int))) ∧ h_1 = h)) (∃ (j : Int), Value.int IntKind.i64 (Prod.snd i) = Value.int IntKind.i64 j ∧ h = h ∧ j = szL (Sh.sz proofSh) xs (left - (↑n : Int)))) ∧ (True ∧ True ∧ True) ∧ (True ∧ True ∧ (True ∧ True) ∧ True) ∧ True) ∧ True ∧ True) = _) ?_
    simp only [true_and, and_true]
    rintro ⟨i, x⟩ ⟨hi, h0, h1, he⟩
    dsimp only at *
    refine bs_d (fun hlt => ?_) (fun hge => ?_)
    · have hio : i < xs.length := by omega
      obtain ⟨l, r, row, ha, _, hrd, hld⟩ := hx.elem (List.getElem?_eq_getElem hio)
      have hoi := ok.2 xs[i] (List.getElem_mem hio)
      obtain ⟨v1, rfl, k1⟩ := rd_proof.1 hrd
      rw [List.drop_eq_getElem_cons hio] at he
      have he : (if proofSh.sz xs[i] x < 0 then -1 else szL proofSh.sz (xs.drop (i + 1)) (proofSh.sz xs[i] x)) = szL proofSh.sz xs (left - n) := he
      have b1 := proofSh.sz_le xs[i] x h0
      obtain ⟨a1, c1, rfl⟩ := k1.isSlice
      refine ⟨l, r, ha, Int.natCast_nonneg _, hlt, _, _, _, _, _, _, hld, proofSh.sz xs[i] x, h, szProof_spec h xs[i] x _ k1 ⟨h0, h1⟩ hoi, bs_d (fun hneg => ?_) (fun hpos => ?_)⟩
      · rw [if_pos hneg] at he; rw [← he]; exact ⟨rfl, rfl⟩
      · rw [if_neg hpos] at he
        exact ⟨(i + 1, proofSh.sz xs[i] x), rfl, by rw [wrap_i64 (by omega)] <;> rfl, rfl, ⟨by dsimp only; omega, by dsimp only; omega, by dsimp only; omega, he⟩, by dsimp only; omega, fun _ h => h, fun _ _ h => h⟩
    · have e : i = xs.length := by omega
      subst e
      rw [List.drop_length] at he
      exact ⟨x, rfl, he⟩
  · refine vc_mp (by kernel_rfl : (bs (decide (IntKind.wrap IntKind.i64 (left - (↑n : Int)) < (0 : Int))) (Value.int IntKind.i64 (-1 : Int) = Value.int IntKind.i64 (if left - (↑n : Int) < (0 : Int) then (-1 : Int) else szL (Sh.sz proofSh) xs (left - (↑n : Int))) ∧ h = h) (∃ (i : Nat × Int), Value.slice a n c = Value.slice a n c ∧ Value.int IntKind.i64 (IntKind.wrap IntKind.i64 (left - (↑n : Int))) = Value.int IntKind.i64 (Prod.snd i) ∧ Value.int IntKind.i64 (0 : Int) = Value.int IntKind.i64 (↑(Prod.fst i) : Int) ∧ h = h ∧ (Prod.fst i ≤ n ∧ (0 : Int) ≤ Prod.snd i ∧ Prod.snd i ≤ (1048576 : Int) ∧ szL (Sh.sz proofSh) (List.drop (Prod.fst i) xs) (Prod.snd i) = szL (Sh.sz proofSh) xs (left - (↑n : Int))) ∧ (∀ (j : Int), j = szL (Sh.sz proofSh) xs (left - (↑n : Int)) → Value.int IntKind.i64 j = Value.int IntKind.i64 (if left - (↑n : Int) < (0 : Int) then (-1 : Int) else szL (Sh.sz proofSh) xs (left - (↑n : Int))) ∧ h = h) ∧ ∀ (v : Value) (h_1 : AHeap), v = Value.int IntKind.i64 (szL (Sh.sz proofSh) xs (left - (↑n : Int))) ∧ h_1 = h → v = Value.int IntKind.i64 (if left - (↑n : Int) < (0 : Int) then (-1 : Int) else szL (Sh.sz proofSh) xs (left - (↑n : Int))) ∧ h_1 = h)) = _) ?_
    rw [wrap_i64 (by omega)]
    refine bs_d (fun e => ?_) (fun e => ?_)
    · rw [if_pos e]; exact ⟨rfl, rfl⟩
    · rw [if_neg e]
      exact ⟨(0, left - n), rfl, rfl, rfl, rfl, ⟨Nat.zero_le _, by dsimp only; omega, by dsimp only; omega, rfl⟩, fun j hj => ⟨by rw [hj], rfl⟩, fun _ _ h => h⟩
theorem toProof_spec (h : AHeap) (x : proofSh.T) (v1 : Value) (h1 : Sl h Sh.int x.2.2.2 v1) (hw : h.wf) (ok : proofSh.small x) :
    ∃ v h', ACall Tryz.prog 158 [.agg #[.int .i64 x.1, .int .i64 x.2.1, .string x.2.2.1, v1]] h v h' ∧ h.Le h' ∧ h'.wf ∧ ∃ w1 ids, v = .agg #[.int .i64 x.1, .int .i64 x.2.1, .string x.2.2.1, w1] ∧ proofSh.ro h' x [.int .i64 x.1, .int .i64 x.2.1, .string x.2.2.1, w1] ids ∧ Fresh h.n h'.n ids := by
  obtain ⟨x1, x2, x3, x4⟩ := x
  try dsimp only at *
  obtain ⟨a1, c1, rfl⟩ := h1.isSlice
  refine acall_q fun Q HQ => ?_
  refine acall_vc (fun _ => false) (fun _ => []) (fun _ => .none) mixed Tryz.func158 rfl rfl rfl (Nat.le_of_ble_eq_true rfl) (by refine vc_mp (by kernel_rfl : (True ∧ True ∧ True ∧ True ∧ True ∧ True ∧ True ∧ True) = _) ?_; simp only [and_self]) ?_
  refine vc_mp (by kernel_rfl : (∃ (a : Option Addr), ∃ (n : Nat), ∃ (c : Nat), ∃ (h' : AHeap), ACall Tryz.prog (169 : Nat) [Value.slice a1 (List.length x4) c1] h (Value.slice a n c) h' ∧ Q (Value.agg (Array.mk [Value.int IntKind.i64 x1, Value.int IntKind.i64 x2, Value.string x3, Value.slice a n c])) h') = _) ?_
  obtain ⟨u1, g1, A1, l1, W1, ids1, rfl, r1, f1⟩ := toInt64S_spec h a1 _ c1 _ hw h1 ok.2.2.2
  have L1 : h.Le g1 := l1
  refine ⟨_, _, _, _, A1, HQ _ _ ⟨L1, W1, _, [] ++ ([] ++ ([] ++ (ids1))), rfl, ?_, ?_⟩⟩
  · exact ⟨[_], _, [], _, rfl, rfl, ⟨rfl, rfl⟩, [_], _, [], _, rfl, rfl, ⟨rfl, rfl⟩, [_], _, [], _, rfl, rfl, ⟨rfl, rfl⟩, ro_sl.2 ⟨_, rfl, r1⟩⟩
  · exact (show Fresh h.n g1.n (ids1) from f1)
theorem toProofS_spec (h : AHeap) (a : Option Addr) (n c : Nat) (xs : List proofSh.T) (hw : h.wf) (hx : Sl h proofSh xs (.slice a n c)) (ok : (Sh.sl proofSh).small xs) :
    ∃ v h', ACall Tryz.prog 132 [.slice a n c] h v h' ∧ h.Le h' ∧ h'.wf ∧ ∃ ids, v = .slice (some ⟨h.n, 0, some 4⟩) n (n + 1) ∧ So h' proofSh xs (.slice (some ⟨h.n, 0, some 4⟩) n (n + 1)) ids ∧ Fresh h.n h'.n ids := by
  have en := hx.len
  have ok1 : xs.length ≤ 1048576 := ok.1
  refine acall_vc (fun _ => false) (fun _ => []) (fun _ => toL proofSh [.int .i64 0, .int .i64 0, .string ⟨#[]⟩, .slice none 0 0] a n c h xs) mixed Tryz.func132 rfl rfl rfl (Nat.le_of_ble_eq_true rfl) ?_ ?_
  · refine vc_mp (by kernel_rfl : (True ∧ True ∧ (True ∧ (∀ (i : Nat × AHeap × List (List Value) × List (List Nat)), ToI proofSh [Value.int IntKind.i64 (0 : Int), Value.int IntKind.i64 (0 : Int), Value.string (ByteArray.mk (Array.mk [])), Value.slice none (0 : Nat) (0 : Nat)] n h xs (Prod.fst i) (Prod.fst (Prod.snd i)) (Prod.fst (Prod.snd (Prod.snd i))) (Prod.snd (Prod.snd (Prod.snd i))) → bs (decide ((↑(Prod.fst i) : Int) < (↑n : Int))) (∃ (l : Nat), ∃ (r : Nat), a = some (Addr.mk l r (some (4 : Nat))) ∧ (0 : Int) ≤ (↑(Prod.fst i) : Int) ∧ (↑(Prod.fst i) : Int) < (↑n : Int) ∧ ∃ (x : Int), ∃ (x_1 : Int), ∃ (x_2 : ByteArray), ∃ (a_2 : Option Addr), ∃ (n_1 : Nat), ∃ (c_1 : Nat), AHeap.ld (Prod.fst (Prod.snd i)) l (r + Int.toNat (↑(Prod.fst i) : Int)) (0 : Nat) (4 : Nat) = some [Value.int IntKind.i64 x, Value.int IntKind.i64 x_1, Value.string x_2, Value.slice a_2 n_1 c_1] ∧ ∃ (x_3 : Int), ∃ (x_4 : Int), ∃ (x_5 : ByteArray), ∃ (a_3 : Option Addr), ∃ (n_2 : Nat), ∃ (c_2 : Nat), ∃ (h' : AHeap), ACall Tryz.prog (158 : Nat) [Value.agg (Array.mk [Value.int IntKind.i64 x, Value.int IntKind.i64 x_1, Value.string x_2, Value.slice a_2 n_1 c_1])] (Prod.fst (Prod.snd i)) (Value.agg (Array.mk [Value.int IntKind.i64 x_3, Value.int IntKind.i64 x_4, Value.string x_5, Value.slice a_3 n_2 c_2])) h' ∧ ∃ (l : Nat), ∃ (r : Nat), some (Addr.mk (AHeap.n h) (0 : Nat) (some (Sh.cells proofSh))) = some (Addr.mk l r (some (4 : Nat))) ∧ (0 : Int) ≤ (↑(Prod.fst i) : Int) ∧ (↑(Prod.fst i) : Int) < (↑n : Int) ∧ ∃ (h'_1 : AHeap), AHeap.wr h' l (r + Int.toNat (↑(Prod.fst i) : Int)) (0 : Nat) [Value.int IntKind.i64 x_3, Value.int IntKind.i64 x_4, Value.string x_5, Value.slice a_3 n_2 c_2] = some h'_1 ∧ ∃ (j : Nat × AHeap × List (List Value) × List (List Nat)), Value.slice a n c = Value.slice a n c ∧ Value.slice (some (Addr.mk (AHeap.n h) (0 : Nat) (some (Sh.cells proofSh)))) n (n + (1 : Nat)) = Value.slice (some (Addr.mk (AHeap.n h) (0 : Nat) (some (Sh.cells proofSh)))) n (n + (1 : Nat)) ∧ Value.int IntKind.i64 (IntKind.wrap IntKind.i64 ((↑(Prod.fst i) : Int) + (1 : Int))) = Value.int IntKind.i64 (↑(Prod.fst j) : Int) ∧ Prod.fst (Prod.snd j) = h'_1 ∧ ToI proofSh [Value.int IntKind.i64 (0 : Int), Value.int IntKind.i64 (0 : Int), Value.string (ByteArray.mk (Array.mk [])), Value.slice none (0 : Nat) (0 : Nat)] n h xs (Prod.fst j) (Prod.fst (Prod.snd j)) (Prod.fst (Prod.snd (Prod.snd j))) (Prod.snd (Prod.snd (Prod.snd j))) ∧ n - Prod.fst j < n - Prod.fst i ∧ (∀ (k : AHeap × List (List Value) × List (List Nat)), ToI proofSh [Value.int IntKind.i64 (0 : Int), Value.int IntKind.i64 (0 : Int), Value.string (ByteArray.mk (Array.mk [])), Value.slice none (0 : Nat) (0 : Nat)] n h xs n (Prod.fst k) (Prod.fst (Prod.snd k)) (Prod.snd (Prod.snd k)) → ToI proofSh [Value.int IntKind.i64 (0 : Int), Value.int IntKind.i64 (0 : Int), Value.string (ByteArray.mk (Array.mk [])), Value.slice none (0 : Nat) (0 : Nat)] n h xs n (Prod.fst k) (Prod.fst (Prod.snd k)) (Prod.snd (Prod.snd k))) ∧ ∀ (v : Value) (h : AHeap), False → False) (∃ (j : AHeap × List (List Value) × List (List Nat)), Value.slice (some (Addr.mk (AHeap.n h) (0 : Nat) (some (Sh.cells proofSh)))) n (n + (1 : Nat)) = Value.slice (some (Addr.mk (AHeap.n h) (0 : Nat) (some (Sh.cells proofSh)))) n (n + (1 : Nat)) ∧ Prod.fst j = Prod.fst (Prod.snd i) ∧ ToI proofSh [Value.int IntKind.i64 (0 : Int), Value.int IntKind.i64 (0 : Int), Value.string (ByteArray.mk (Array.mk [])), Value.slice none (0 : Nat) (0 : Nat)] n h xs n (Prod.fst j) (Prod.fst (Prod.snd j)) (Prod.snd (Prod.snd j)))) ∧ (True ∧ True ∧ True) ∧ True ∧ True) ∧ True ∧ True) = _) ?_
    simp only [true_and, and_true]
    rintro ⟨i, h1, rows, idss⟩ I
    dsimp only at *
    refine bs_d (fun hlt => ?_) (fun hge => ?_)
    · have hio : i < xs.length := by omega
      obtain ⟨l, r, row, ha, _, hrd, hld⟩ := (hx.mono I.le).elem (List.getElem?_eq_getElem hio)
      obtain ⟨v1, rfl, k1⟩ := rd_proof.1 hrd
      obtain ⟨a1, c1, rfl⟩ := k1.isSlice
      obtain ⟨v, h2, hA, hle, hw2, w1, ids, rfl, hro, hf⟩ := toProof_spec h1 xs[i] _ k1 I.wf (ok.2 _ (List.getElem_mem hio))
      obtain ⟨z1, ez, q1⟩ := rd_proof.1 hro.rd
      cases ez
      obtain ⟨b1, d1, rfl⟩ := q1.isSlice
      obtain ⟨h3, e3, I3⟩ := I.step (by omega) (List.getElem?_eq_getElem hio) hle hw2 hro hf
      refine ⟨l, r, ha, Int.natCast_nonneg _, hlt, _, _, _, _, _, _, hld, _, _, _, _, _, _, _, hA, h.n, 0, rfl, Int.natCast_nonneg _, hlt, h3, e3, (i + 1, h3, _, _), by rw [wrap_i64 (by omega)] <;> rfl, rfl, I3, by dsimp only; omega, fun _ h => h, fun _ _ h => h⟩
    · have hi := I.hi
      have e : i = n := by omega
      subst e
      exact ⟨(h1, rows, idss), rfl, I⟩
  · refine vc_mp (by kernel_rfl : ((0 : Int) ≤ (↑n : Int) ∧ (↑n : Int) ≤ (↑n : Int) ∧ (↑n : Int) * (↑(56 : Nat) : Int) ≤ (140737488355328 : Int) ∧ ∃ (i : Nat × AHeap × List (List Value) × List (List Nat)), Value.slice a n c = Value.slice a n c ∧ Value.slice (some (Addr.mk (AHeap.n h) (0 : Nat) (some (4 : Nat)))) (Int.toNat (↑n : Int)) (Int.toNat (↑n : Int) + (1 : Nat)) = Value.slice (some (Addr.mk (AHeap.n h) (0 : Nat) (some (Sh.cells proofSh)))) n (n + (1 : Nat)) ∧ Value.int IntKind.i64 (0 : Int) = Value.int IntKind.i64 (↑(Prod.fst i) : Int) ∧ Prod.fst (Prod.snd i) = AHeap.push h (AObj.mk (List.replicate (Int.toNat (↑n : Int)) [Value.int IntKind.i64 (Int.ofNat (0 : Nat)), Value.int IntKind.i64 (Int.ofNat (0 : Nat)), Value.string (ByteArray.mk (Array.mk [])), Value.slice none (0 : Nat) (0 : Nat)]) (4 : Nat) true) ∧ ToI proofSh [Value.int IntKind.i64 (0 : Int), Value.int IntKind.i64 (0 : Int), Value.string (ByteArray.mk (Array.mk [])), Value.slice none (0 : Nat) (0 : Nat)] n h xs (Prod.fst i) (Prod.fst (Prod.snd i)) (Prod.fst (Prod.snd (Prod.snd i))) (Prod.snd (Prod.snd (Prod.snd i))) ∧ (∀ (j : AHeap × List (List Value) × List (List Nat)), ToI proofSh [Value.int IntKind.i64 (0 : Int), Value.int IntKind.i64 (0 : Int), Value.string (ByteArray.mk (Array.mk [])), Value.slice none (0 : Nat) (0 : Nat)] n h xs n (Prod.fst j) (Prod.fst (Prod.snd j)) (Prod.snd (Prod.snd j)) → AHeap.Le h (Prod.fst j) ∧ AHeap.wf (Prod.fst j) ∧ ∃ (ids : List Nat), Value.slice (some (Addr.mk (AHeap.n h) (0 : Nat) (some (Sh.cells proofSh)))) n (n + (1 : Nat)) = Value.slice (some (Addr.mk (AHeap.n h) (0 : Nat) (some (4 : Nat)))) n (n + (1 : Nat)) ∧ So (Prod.fst j) proofSh xs (Value.slice (some (Addr.mk (AHeap.n h) (0 : Nat) (some (4 : Nat)))) n (n + (1 : Nat))) ids ∧ Fresh (AHeap.n h) (AHeap.n (Prod.fst j)) ids) ∧ ∀ (v : Value) (h_1 : AHeap), False → AHeap.Le h h_1 ∧ AHeap.wf h_1 ∧ ∃ (ids : List Nat), v = Value.slice (some (Addr.mk (AHeap.n h) (0 : Nat) (some (4 : Nat)))) n (n + (1 : Nat)) ∧ So h_1 proofSh xs (Value.slice (some (Addr.mk (AHeap.n h) (0 : Nat) (some (4 : Nat)))) n (n + (1 : Nat))) ids ∧ Fresh (AHeap.n h) (AHeap.n h_1) ids) = _) ?_
    refine ⟨Int.natCast_nonneg _, Int.le_refl _, by omega, (0, _, _, _), rfl, rfl, rfl, rfl, ToI.start hw rfl, ?_, fun _ _ h => h.elim⟩
    rintro ⟨h1, rows, idss⟩ I
    obtain ⟨ids, h2, h3⟩ := ToI.finish I en (n + 1)
    exact ⟨I.le, I.wf, ids, rfl, h2, h3⟩
theorem eqProof_spec (h : AHeap) (x y : proofSh.T) (v1 : Value) (h1 : Sl h Sh.int x.2.2.2 v1) (w1 : Value) (j1 : Sl h Sh.int y.2.2.2 w1) (ok : proofSh.ok x) :
    ACall Tryz.prog 161 [.agg #[.int .i64 x.1, .int .i64 x.2.1, .string x.2.2.1, v1], .agg #[.int .i64 y.1, .int .i64 y.2.1, .string y.2.2.1, w1]] h (.bool (eqb x y)) h := by
  obtain ⟨x1, x2, x3, x4⟩ := x
  obtain ⟨y1, y2, y3, y4⟩ := y
  try dsimp only at *
  obtain ⟨a1, c1, rfl⟩ := h1.isSlice
  obtain ⟨ab1, cb1, rfl⟩ := j1.isSlice
  refine acall_out (acall_vc (fun _ => false) (fun _ => []) (fun _ => .none) mixed Tryz.func161 rfl rfl rfl (Nat.le_of_ble_eq_true rfl) (by refine vc_mp (by kernel_rfl : (True ∧ (True ∧ (True ∧ True) ∧ True) ∧ (True ∧ (True ∧ True) ∧ True) ∧ (True ∧ (True ∧ True) ∧ True) ∧ (True ∧ (True ∧ True) ∧ True) ∧ True ∧ True) = _) ?_; simp only [and_self]) ?_)
  refine vc_mp (by kernel_rfl : (bs (!decide (x1 = y1)) (Value.bool false = Value.bool (eqb (x1, x2, x3, x4) (y1, y2, y3, y4)) ∧ h = h) (bs (!decide (x2 = y2)) (Value.bool false = Value.bool (eqb (x1, x2, x3, x4) (y1, y2, y3, y4)) ∧ h = h) (bs (!decide (x3 = y3)) (Value.bool false = Value.bool (eqb (x1, x2, x3, x4) (y1, y2, y3, y4)) ∧ h = h) (∃ (x : Bool), ∃ (h' : AHeap), ACall Tryz.prog (170 : Nat) [Value.slice a1 (List.length x4) c1, Value.slice ab1 (List.length y4) cb1] h (Value.bool x) h' ∧ bs (!x) (Value.bool false = Value.bool (eqb (x1, x2, x3, x4) (y1, y2, y3, y4)) ∧ h' = h) (Value.bool true = Value.bool (eqb (x1, x2, x3, x4) (y1, y2, y3, y4)) ∧ h' = h))))) = _) ?_
  refine bs_dn (fun e => ⟨congrArg _ (eqb_false fun e' => e (by cases e'; rfl)), rfl⟩) (fun e1 => ?_)
  refine bs_dn (fun e => ⟨congrArg _ (eqb_false fun e' => e (by cases e'; rfl)), rfl⟩) (fun e2 => ?_)
  refine bs_dn (fun e => ⟨congrArg _ (eqb_false fun e' => e (by cases e'; rfl)), rfl⟩) (fun e3 => ?_)
  refine ⟨_, _, eqInt64S_spec h a1 _ c1 ab1 _ cb1 _ _ h1 j1 ok.2.2.2.1, bs_nb (fun e => ⟨congrArg _ (eqb_false fun e' => of_eqb_false e (by cases e'; rfl)), rfl⟩) (fun e4 => ?_)⟩
  exact ⟨congrArg _ (eqb_true (Prod.ext e1 (Prod.ext e2 (Prod.ext e3 (of_eqb e4))))), rfl⟩
theorem eqProofS_spec (h : AHeap) (a : Option Addr) (n c : Nat) (a' : Option Addr) (n' c' : Nat) (xs ys : List proofSh.T) (hx : Sl h proofSh xs (.slice a n c)) (hy : Sl h proofSh ys (.slice a' n' c')) (ok : (Sh.sl proofSh).ok xs) :
    ACall Tryz.prog 140 [.slice a n c, .slice a' n' c'] h (.bool (eqb xs ys)) h := by
  have en := hx.len
  have en' := hy.len
  have hn : xs.length ≤ 9223372036854775807 := ok.1
  refine acall_out (acall_vc (fun _ => false) (fun _ => [(0, 0, []), (1, 0, []), (2, 0, []), (4, 0, []), (5, 0, []), (6, 0, []), (3, 1, []), (7, 1, []), (8, 3, []), (9, 0, [])]) (fun _ => eqLp h a n c a' n' c' xs ys) mixed Tryz.func140 rfl rfl rfl (Nat.le_of_ble_eq_true rfl) ?_ ?_)
  · refine vc_mp (by kernel_rfl : (True ∧ (True ∧ (True ∧ True) ∧ True) ∧ (True ∧ (∀ (i : Nat), EqI xs ys i → bs (decide ((↑i : Int) < (↑n : Int))) (∃ (l : Nat), ∃ (r : Nat), a = some (Addr.mk l r (some (4 : Nat))) ∧ (0 : Int) ≤ (↑i : Int) ∧ (↑i : Int) < (↑n : Int) ∧ ∃ (l_1 : Nat), ∃ (r_1 : Nat), a' = some (Addr.mk l_1 r_1 (some (4 : Nat))) ∧ (0 : Int) ≤ (↑i : Int) ∧ (↑i : Int) < (↑n' : Int) ∧ ∃ (x : Int), ∃ (x_1 : Int), ∃ (x_2 : ByteArray), ∃ (a_2 : Option Addr), ∃ (n_1 : Nat), ∃ (c_1 : Nat), AHeap.ld h l (r + Int.toNat (↑i : Int)) (0 : Nat) (4 : Nat) = some [Value.int IntKind.i64 x, Value.int IntKind.i64 x_1, Value.string x_2, Value.slice a_2 n_1 c_1] ∧ ∃ (x_3 : Int), ∃ (x_4 : Int), ∃ (x_5 : ByteArray), ∃ (a_3 : Option Addr), ∃ (n_2 : Nat), ∃ (c_2 : Nat), AHeap.ld h l_1 (r_1 + Int.toNat (↑i : Int)) (0 : Nat) (4 : Nat) = some [Value.int IntKind.i64 x_3, Value.int IntKind.i64 x_4, Value.string x_5, Value.slice a_3 n_2 c_2] ∧ ∃ (x_6 : Bool), ∃ (h' : AHeap), ACall Tryz.prog (161 : Nat) [Value.agg (Array.mk [Value.int IntKind.i64 x, Value.int IntKind.i64 x_1, Value.string x_2, Value.slice a_2 n_1 c_1]), Value.agg (Array.mk [Value.int IntKind.i64 x_3, Value.int IntKind.i64 x_4, Value.string x_5, Value.slice a_3 n_2 c_2])] h (Value.bool x_6) h' ∧ bs (!x_6) (Value.bool false = Value.bool (eqb xs ys) ∧ h' = h) (∃ (j : Nat), Value.slice a n c = Value.slice a n c ∧ Value.slice a' n' c' = Value.slice a' n' c' ∧ Value.int IntKind.i64 (IntKind.wrap IntKind.i64 ((↑i : Int) + (1 : Int))) = Value.int IntKind.i64 (↑j : Int) ∧ h = h' ∧ EqI xs ys j ∧ List.length xs - j < List.length xs - i ∧ (∀ (k : Unit), xs = ys → xs = ys) ∧ ∀ (v : Value) (h_1 : AHeap), v = Value.bool (eqb xs ys) ∧ h_1 = h → v = Value.bool (eqb xs ys) ∧ h_1 = h)) (∃ (j : Unit), h = h ∧ xs = ys)) ∧ (True ∧ True ∧ True) ∧ (True ∧ (True ∧ True) ∧ True) ∧ True) ∧ True ∧ True) = _) ?_
    simp only [true_and, and_true]
    rintro (i : Nat) I
    have hl := I.len
    have hi := I.hi
    refine bs_d (fun hlt => ?_) (fun hge => ?_)
    · have hxi : i < xs.length := by omega
      have hyi : i < ys.length := by omega
      obtain ⟨l, r, row, ha, hin, hrd, hld⟩ := hx.elem (List.getElem?_eq_getElem hxi)
      obtain ⟨l', r', row', ha', hin', hrd', hld'⟩ := hy.elem (List.getElem?_eq_getElem hyi)
      obtain ⟨v1, rfl, k1⟩ := rd_proof.1 hrd
      obtain ⟨w1, rfl, kk1⟩ := rd_proof.1 hrd'
      obtain ⟨a1, c1, rfl⟩ := k1.isSlice
      obtain ⟨b1, d1, rfl⟩ := kk1.isSlice
      refine ⟨l, r, ha, Int.natCast_nonneg _, hlt, l', r', ha', Int.natCast_nonneg _, by omega, _, _, _, _, _, _, hld, _, _, _, _, _, _, hld', _, _, eqProof_spec h xs[i] ys[i] _ k1 _ kk1 (ok.2 _ (List.getElem_mem hxi)), bs_nb (fun hb => ?_) (fun hb => ?_)⟩
      · exact ⟨congrArg _ (eqb_false fun e => of_eqb_false hb (by subst e; rfl)), rfl⟩
      · exact ⟨i + 1, by rw [wrap_i64 (by omega)] <;> rfl, rfl, I.step hxi hyi (of_eqb hb), by omega, fun _ h => h, fun _ _ h => h⟩
    · have e : i = xs.length := by omega
      subst e
      exact ⟨(), I.all⟩
  · refine vc_mp (by kernel_rfl : (bs (!decide ((↑n : Int) = (↑n' : Int))) (Value.bool false = Value.bool (eqb xs ys) ∧ h = h) (∃ (i : Nat), Value.slice a n c = Value.slice a n c ∧ Value.slice a' n' c' = Value.slice a' n' c' ∧ Value.int IntKind.i64 (0 : Int) = Value.int IntKind.i64 (↑i : Int) ∧ h = h ∧ EqI xs ys i ∧ (∀ (j : Unit), xs = ys → Value.bool true = Value.bool (eqb xs ys) ∧ h = h) ∧ ∀ (v : Value) (h_1 : AHeap), v = Value.bool (eqb xs ys) ∧ h_1 = h → v = Value.bool (eqb xs ys) ∧ h_1 = h)) = _) ?_
    refine bs_dn (fun hne => ⟨congrArg _ (eqb_false fun e => hne (by rw [← en, ← en', e])), rfl⟩) (fun he => ?_)
    exact ⟨(0 : Nat), rfl, rfl, rfl, rfl, ⟨by omega, Nat.zero_le _, rfl⟩, fun j e => ⟨congrArg _ (eqb_true e), rfl⟩, fun _ _ h => h⟩
theorem szChange_spec (h : AHeap) (x : changeSh.T) (left : Int) (v1 : Value) (h1 : Sl h proofSh x.2.2 v1) (hl : 0 ≤ left ∧ left ≤ 1048576) (ok : changeSh.ok x) :
    ACall Tryz.prog 75 [.agg #[.int .i64 x.1, .int .i64 x.2.1, v1], .int .i64 left] h (.int .i64 (changeSh.sz x left)) h := by
  obtain ⟨x1, x2, x3⟩ := x
  try dsimp only at *
  obtain ⟨a1, c1, rfl⟩ := h1.isSlice
  refine acall_out (acall_vc (fun _ => false) (fun _ => []) (fun _ => .none) mixed Tryz.func75 rfl rfl rfl (Nat.le_of_ble_eq_true rfl) (by refine vc_mp (by kernel_rfl : (True ∧ True ∧ (True ∧ (True ∧ True) ∧ True) ∧ True ∧ True) = _) ?_; simp only [and_self]) ?_)
  refine vc_mp (by kernel_rfl : (∃ (x : Int), ∃ (h' : AHeap), ACall Tryz.prog (130 : Nat) [Value.slice a1 (List.length x3) c1, Value.int IntKind.i64 left] h (Value.int IntKind.i64 x) h' ∧ bs (decide (x < (0 : Int))) (Value.int IntKind.i64 (-1 : Int) = Value.int IntKind.i64 (Sh.sz changeSh (x1, x2, x3) left) ∧ h' = h) (Value.int IntKind.i64 x = Value.int IntKind.i64 (Sh.sz changeSh (x1, x2, x3) left) ∧ h' = h)) = _) ?_
  have b1 := (Sh.sl proofSh).sz_le x3 left (by omega)
  refine ⟨_, _, szProofS_spec h a1 _ c1 _ left h1 (by omega) ok.2.2, bs_d (fun e1 => by refine ⟨congrArg _ (Eq.symm ?_), rfl⟩; exact sz_step rfl hl.1 (sz_step rfl hl.1 (sz_neg hl.1 e1))) (fun e1 => ?_)⟩
  refine ⟨congrArg _ (Eq.symm ?_), rfl⟩
  exact sz_step rfl hl.1 (sz_step rfl hl.1 (rfl))
theorem szChangeS_spec (h : AHeap) (a : Option Addr) (n c : Nat) (xs : List changeSh.T) (left : Int) (hx : Sl h changeSh xs (.slice a n c)) (hl : 0 ≤ left ∧ left ≤ 1048576) (ok : (Sh.sl changeSh).ok xs) :
    ACall Tryz.prog 30 [.slice a n c, .int .i64 left] h (.int .i64 ((Sh.sl changeSh).sz xs left)) h := by
  have en := hx.len
  have ok1 : xs.length ≤ 9223372036854775807 := ok.1
  have key : (Sh.sl changeSh).sz xs left = (if left - (xs.length : Int) < 0 then -1 else szL changeSh.sz xs (left - (xs.length : Int))) := rfl
  rw [key, en]
  refine acall_out (acall_vc (fun _ => false) (fun _ => []) (fun _ => szLp changeSh a n c h xs (szL changeSh.sz xs (left - n))) mixed Tryz.func30 rfl rfl rfl (Nat.le_of_ble_eq_true rfl) ?_ ?_)
  · refine vc_mp (by kernel_rfl : (True ∧ True ∧ (True ∧ (True ∧ True) ∧ True) ∧ (True ∧ (∀ (i : Nat × Int), Prod.fst i ≤ n ∧ (0 : Int) ≤ Prod.snd i ∧ Prod.snd i ≤ (1048576 : Int) ∧ szL (Sh.sz changeSh) (List.drop (Prod.fst i) xs) (Prod.snd i) = szL (Sh.sz changeSh) xs (left - (↑n : Int)) → bs (decide ((↑(Prod.fst i) : Int) < (↑n : Int))) (∃ (l : Nat), ∃ (r : Nat), a = some (Addr.mk l r (some (3 : Nat))) ∧ (0 : Int) ≤ (↑(Prod.fst i) : Int) ∧ (↑(Prod.fst i) : Int) < (↑n : Int) ∧ ∃ (x : Int), ∃ (x_1 : Int), ∃ (a_2 : Option Addr), ∃ (n_1 : Nat), ∃ (c_1 : Nat), AHeap.ld h l (r + Int.toNat (↑(Prod.fst i) : Int)) (0 : Nat) (3 : Nat) = some [Value.int IntKind.i64 x, Value.int IntKind.i64 x_1, Value.slice a_2 n_1 c_1] ∧ ∃ (x_2 : Int), ∃ (h' : AHeap), ACall Tryz.prog (75 : Nat) [Value.agg (Array.mk [Value.int IntKind.i64 x, Value.int IntKind.i64 x_1, Value.slice a_2 n_1 c_1]), Value.int IntKind.i64 (Prod.snd i)] h (Value.int IntKind.i64 x_2) h' ∧ bs (decide (x_2 < (0 : Int))) (Value.int IntKind.i64 (-1 : Int) = Value.int IntKind.i64 (szL (Sh.sz changeSh) xs (left - (↑n : Int))) ∧ h' = h) (∃ (j : Nat × Int), Value.slice a n c = Value.slice a n c ∧ Value.int IntKind.i64 x_2 = Value.int IntKind.i64 (Prod.snd j) ∧ Value.int IntKind.i64 (IntKind.wrap IntKind.i64 ((↑(Prod.fst i) : Int) + (1 : Int))) = Value.int IntKind.i64 (↑(Prod.fst j) : Int) ∧ h = h' ∧ (Prod.fst j ≤ n ∧ (0 : Int) ≤ Prod.snd j ∧ Prod.snd j ≤ (1048576 : Int) ∧ szL (Sh.sz changeSh) (List.drop (Prod.fst j) xs) (Prod.snd j) = szL (Sh.sz changeSh) xs (left - (↑n : Int))) ∧ n - Prod.fst j < n - Prod.fst i ∧ (∀ (k : Int), k = szL (Sh.sz changeSh) xs (left - (↑n : Int)) → k = szL (Sh.sz changeSh) xs (left - (↑n : Int))) ∧ ∀ (v : Value) (h_1 : AHeap), v = Value.int IntKind.i64 (szL (Sh.sz changeSh) xs (left - (↑n : Int))) ∧ h_1 = h → v = Value.int IntKind.i64 (szL (Sh.sz changeSh) xs (left - (↑n : Int))) ∧ h_1 = h)) (∃ (j : Int), Value.int IntKind.i64 (Prod.snd i) = Value.int IntKind.i64 j ∧ h = h ∧ j = szL (Sh.sz changeSh) xs (left - (↑n : Int)))) ∧ (True ∧ True ∧ True) ∧ (True ∧ True ∧ (True ∧ True) ∧ True) ∧ True) ∧ True ∧ True) = _) ?_
    simp only [true_and, and_true]
    rintro ⟨i, x⟩ ⟨hi, h0, h1, he⟩
    dsimp only at *
    refine bs_d (fun hlt => ?_) (fun hge => ?_)
    · have hio : i < xs.length := by omega
      obtain ⟨l, r, row, ha, _, hrd, hld⟩ := hx.elem (List.getElem?_eq_getElem hio)
      have hoi := ok.2 xs[i] (List.getElem_mem hio)
      obtain ⟨v1, rfl, k1⟩ := rd_change.1 hrd
      rw [List.drop_eq_getElem_cons hio] at he
      have he : (if changeSh.sz xs[i] x < 0 then -1 else szL changeSh.sz (xs.drop (i + 1)) (changeSh.sz xs[i] x)) = szL changeSh.sz xs (left - n) := he
      have b1 := changeSh.sz_le xs[i] x h0
      obtain ⟨a1, c1, rfl⟩ := k1.isSlice
      refine ⟨l, r, ha, Int.natCast_nonneg _, hlt, _, _, _, _, _, hld, changeSh.sz xs[i] x, h, szChange_spec h xs[i] x _ k1 ⟨h0, h1⟩ hoi, bs_d (fun hneg => ?_) (fun hpos => ?_)⟩
      · rw [if_pos hneg] at he; rw [← he]; exact ⟨rfl, rfl⟩
      · rw [if_neg hpos] at he
        exact ⟨(i + 1, changeSh.sz xs[i] x), rfl, by rw [wrap_i64 (by omega)] <;> rfl, rfl, ⟨by dsimp only; omega, by dsimp only; omega, by dsimp only; omega, he⟩, by dsimp only; omega, fun _ h => h, fun _ _ h => h⟩
    · have e : i = xs.length := by omega
      subst e
      rw [List.drop_length] at he
      exact ⟨x, rfl, he⟩
  · refine vc_mp (by kernel_rfl : (bs (decide (IntKind.wrap IntKind.i64 (left - (↑n : Int)) < (0 : Int))) (Value.int IntKind.i64 (-1 : Int) = Value.int IntKind.i64 (if left - (↑n : Int) < (0 : Int) then (-1 : Int) else szL (Sh.sz changeSh) xs (left - (↑n : Int))) ∧ h = h) (∃ (i : Nat × Int), Value.slice a n c = Value.slice a n c ∧ Value.int IntKind.i64 (IntKind.wrap IntKind.i64 (left - (↑n : Int))) = Value.int IntKind.i64 (Prod.snd i) ∧ Value.int IntKind.i64 (0 : Int) = Value.int IntKind.i64 (↑(Prod.fst i) : Int) ∧ h = h ∧ (Prod.fst i ≤ n ∧ (0 : Int) ≤ Prod.snd i ∧ Prod.snd i ≤ (1048576 : Int) ∧ szL (Sh.sz changeSh) (List.drop (Prod.fst i) xs) (Prod.snd i) = szL (Sh.sz changeSh) xs (left - (↑n : Int))) ∧ (∀ (j : Int), j = szL (Sh.sz changeSh) xs (left - (↑n : Int)) → Value.int IntKind.i64 j = Value.int IntKind.i64 (if left - (↑n : Int) < (0 : Int) then (-1 : Int) else szL (Sh.sz changeSh) xs (left - (↑n : Int))) ∧ h = h) ∧ ∀ (v : Value) (h_1 : AHeap), v = Value.int IntKind.i64 (szL (Sh.sz changeSh) xs (left - (↑n : Int))) ∧ h_1 = h → v = Value.int IntKind.i64 (if left - (↑n : Int) < (0 : Int) then (-1 : Int) else szL (Sh.sz changeSh) xs (left - (↑n : Int))) ∧ h_1 = h)) = _) ?_
    rw [wrap_i64 (by omega)]
    refine bs_d (fun e => ?_) (fun e => ?_)
    · rw [if_pos e]; exact ⟨rfl, rfl⟩
    · rw [if_neg e]
      exact ⟨(0, left - n), rfl, rfl, rfl, rfl, ⟨Nat.zero_le _, by dsimp only; omega, by dsimp only; omega, rfl⟩, fun j hj => ⟨by rw [hj], rfl⟩, fun _ _ h => h⟩
theorem toChange_spec (h : AHeap) (x : changeSh.T) (v1 : Value) (h1 : Sl h proofSh x.2.2 v1) (hw : h.wf) (ok : changeSh.small x) :
    ∃ v h', ACall Tryz.prog 85 [.agg #[.int .i64 x.1, .int .i64 x.2.1, v1]] h v h' ∧ h.Le h' ∧ h'.wf ∧ ∃ w1 ids, v = .agg #[.int .i64 x.1, .int .i64 x.2.1, w1] ∧ changeSh.ro h' x [.int .i64 x.1, .int .i64 x.2.1, w1] ids ∧ Fresh h.n h'.n ids := by
  obtain ⟨x1, x2, x3⟩ := x
  try dsimp only at *
  obtain ⟨a1, c1, rfl⟩ := h1.isSlice
  refine acall_q fun Q HQ => ?_
  refine acall_vc (fun _ => false) (fun _ => []) (fun _ => .none) mixed Tryz.func85 rfl rfl rfl (Nat.le_of_ble_eq_true rfl) (by refine vc_mp (by kernel_rfl : (True ∧ True ∧ True ∧ True ∧ True ∧ True ∧ True) = _) ?_; simp only [and_self]) ?_
  refine vc_mp (by kernel_rfl : (∃ (a : Option Addr), ∃ (n : Nat), ∃ (c : Nat), ∃ (h' : AHeap), ACall Tryz.prog (132 : Nat) [Value.slice a1 (List.length x3) c1] h (Value.slice a n c) h' ∧ Q (Value.agg (Array.mk [Value.int IntKind.i64 x1, Value.int IntKind.i64 x2, Value.slice a n c])) h') = _) ?_
  obtain ⟨u1, g1, A1, l1, W1, ids1, rfl, r1, f1⟩ := toProofS_spec h a1 _ c1 _ hw h1 ok.2.2
  have L1 : h.Le g1 := l1
  refine ⟨_, _, _, _, A1, HQ _ _ ⟨L1, W1, _, [] ++ ([] ++ (ids1)), rfl, ?_, ?_⟩⟩
  · exact ⟨[_], _, [], _, rfl, rfl, ⟨rfl, rfl⟩, [_], _, [], _, rfl, rfl, ⟨rfl, rfl⟩, ro_sl.2 ⟨_, rfl, r1⟩⟩
  · exact (show Fresh h.n g1.n (ids1) from f1)
theorem toChangeS_spec (h : AHeap) (a : Option Addr) (n c : Nat) (xs : List changeSh.T) (hw : h.wf) (hx : Sl h changeSh xs (.slice a n c)) (ok : (Sh.sl changeSh).small xs) :
    ∃ v h', ACall Tryz.prog 37 [.slice a n c] h v h' ∧ h.Le h' ∧ h'.wf ∧ ∃ ids, v = .slice (some ⟨h.n, 0, some 3⟩) n (n + 1) ∧ So h' changeSh xs (.slice (some ⟨h.n, 0, some 3⟩) n (n + 1)) ids ∧ Fresh h.n h'.n ids := by
  have en := hx.len
  have ok1 : xs.length ≤ 1048576 := ok.1
  refine acall_vc (fun _ => false) (fun _ => []) (fun _ => toL changeSh [.int .i64 0, .int .i64 0, .slice none 0 0] a n c h xs) mixed Tryz.func37 rfl rfl rfl (Nat.le_of_ble_eq_true rfl) ?_ ?_
  · refine vc_mp (by kernel_rfl : (True ∧ True ∧ (True ∧ (∀ (i : Nat × AHeap × List (List Value) × List (List Nat)), ToI changeSh [Value.int IntKind.i64 (0 : Int), Value.int IntKind.i64 (0 : Int), Value.slice none (0 : Nat) (0 : Nat)] n h xs (Prod.fst i) (Prod.fst (Prod.snd i)) (Prod.fst (Prod.snd (Prod.snd i))) (Prod.snd (Prod.snd (Prod.snd i))) → bs (decide ((↑(Prod.fst i) : Int) < (↑n : Int))) (∃ (l : Nat), ∃ (r : Nat), a = some (Addr.mk l r (some (3 : Nat))) ∧ (0 : Int) ≤ (↑(Prod.fst i) : Int) ∧ (↑(Prod.fst i) : Int) < (↑n : Int) ∧ ∃ (x : Int), ∃ (x_1 : Int), ∃ (a_2 : Option Addr), ∃ (n_1 : Nat), ∃ (c_1 : Nat), AHeap.ld (Prod.fst (Prod.snd i)) l (r + Int.toNat (↑(Prod.fst i) : Int)) (0 : Nat) (3 : Nat) = some [Value.int IntKind.i64 x, Value.int IntKind.i64 x_1, Value.slice a_2 n_1 c_1] ∧ ∃ (x_2 : Int), ∃ (x_3 : Int), ∃ (a_3 : Option Addr), ∃ (n_2 : Nat), ∃ (c_2 : Nat), ∃ (h' : AHeap), ACall Tryz.prog (85 : Nat) [Value.agg (Array.mk [Value.int IntKind.i64 x, Value.int IntKind.i64 x_1, Value.slice a_2 n_1 c_1])] (Prod.fst (Prod.snd i)) (Value.agg (Array.mk [Value.int IntKind.i64 x_2, Value.int IntKind.i64 x_3, Value.slice a_3 n_2 c_2])) h' ∧ ∃ (l : Nat), ∃ (r : Nat), some (Addr.mk (AHeap.n h) (0 : Nat) (some (Sh.cells changeSh))) = some (Addr.mk l r (some (3 : Nat))) ∧ (0 : Int) ≤ (↑(Prod.fst i) : Int) ∧ (↑(Prod.fst i) : Int) < (↑n : Int) ∧ ∃ (h'_1 : AHeap), AHeap.wr h' l (r + Int.toNat (↑(Prod.fst i) : Int)) (0 : Nat) [Value.int IntKind.i64 x_2, Value.int IntKind.i64 x_3, Value.slice a_3 n_2 c_2] = some h'_1 ∧ ∃ (j : Nat × AHeap × List (List Value) × List (List Nat)), Value.slice a n c = Value.slice a n c ∧ Value.slice (some (Addr.mk (AHeap.n h) (0 : Nat) (some (Sh.cells changeSh)))) n (n + (1 : Nat)) = Value.slice (some (Addr.mk (AHeap.n h) (0 : Nat) (some (Sh.cells changeSh)))) n (n + (1 : Nat)) ∧ Value.int IntKind.i64 (IntKind.wrap IntKind.i64 ((↑(Prod.fst i) : Int) + (1 : Int))) = Value.int IntKind.i64 (↑(Prod.fst j) : Int) ∧ Prod.fst (Prod.snd j) = h'_1 ∧ ToI changeSh [Value.int IntKind.i64 (0 : Int), Value.int IntKind.i64 (0 : Int), Value.slice none (0 : Nat) (0 : Nat)] n h xs (Prod.fst j) (Prod.fst (Prod.snd j)) (Prod.fst (Prod.snd (Prod.snd j))) (Prod.snd (Prod.snd (Prod.snd j))) ∧ n - Prod.fst j < n - Prod.fst i ∧ (∀ (k : AHeap × List (List Value) × List (List Nat)), ToI changeSh [Value.int IntKind.i64 (0 : Int), Value.int IntKind.i64 (0 : Int), Value.slice none (0 : Nat) (0 : Nat)] n h xs n (Prod.fst k) (Prod.fst (Prod.snd k)) (Prod.snd (Prod.snd k)) → ToI changeSh [Value.int IntKind.i64 (0 : Int), Value.int IntKind.i64 (0 : Int), Value.slice none (0 : Nat) (0 : Nat)] n h xs n (Prod.fst k) (Prod.fst (Prod.snd k)) (Prod.snd (Prod.snd k))) ∧ ∀ (v : Value) (h : AHeap), False → False) (∃ (j : AHeap × List (List Value) × List (List Nat)), Value.slice (some (Addr.mk (AHeap.n h) (0 : Nat) (some (Sh.cells changeSh)))) n (n + (1 : Nat)) = Value.slice (some (Addr.mk (AHeap.n h) (0 : Nat) (some (Sh.cells changeSh)))) n (n + (1 : Nat)) ∧ Prod.fst j = Prod.fst (Prod.snd i) ∧ ToI changeSh [Value.int IntKind.i64 (0 : Int), Value.int IntKind.i64 (0 : Int), Value.slice none (0 : Nat) (0 : Nat)] n h xs n (Prod.fst j) (Prod.fst (Prod.snd j)) (Prod.snd (Prod.snd j)))) ∧ (True ∧ True ∧ True) ∧ True ∧ True) ∧ True ∧ True) = _) ?_
    simp only [true_and, and_true]
    rintro ⟨i, h1, rows, idss⟩ I
    dsimp only at *
    refine bs_d (fun hlt => ?_) (fun hge => ?_)
    · have hio : i < xs.length := by omega
      obtain ⟨l, r, row, ha, _, hrd, hld⟩ := (hx.mono I.le).elem (List.getElem?_eq_getElem hio)
      obtain ⟨v1, rfl, k1⟩ := rd_change.1 hrd
      obtain ⟨a1, c1, rfl⟩ := k1.isSlice
      obtain ⟨v, h2, hA, hle, hw2, w1, ids, rfl, hro, hf⟩ := toChange_spec h1 xs[i] _ k1 I.wf (ok.2 _ (List.getElem_mem hio))
      obtain ⟨z1, ez, q1⟩ := rd_change.1 hro.rd
      cases ez
      obtain ⟨b1, d1, rfl⟩ := q1.isSlice
      obtain ⟨h3, e3, I3⟩ := I.step (by omega) (List.getElem?_eq_getElem hio) hle hw2 hro hf
      refine ⟨l, r, ha, Int.natCast_nonneg _, hlt, _, _, _, _, _, hld, _, _, _, _, _, _, hA, h.n, 0, rfl, Int.natCast_nonneg _, hlt, h3, e3, (i + 1, h3, _, _), by rw [wrap_i64 (by omega)] <;> rfl, rfl, I3, by dsimp only; omega, fun _ h => h, fun _ _ h => h⟩
    · have hi := I.hi
      have e : i = n := by omega
      subst e
      exact ⟨(h1, rows, idss), rfl, I⟩
  · refine vc_mp (by kernel_rfl : ((0 : Int) ≤ (↑n : Int) ∧ (↑n : Int) ≤ (↑n : Int) ∧ (↑n : Int) * (↑(40 : Nat) : Int) ≤ (140737488355328 : Int) ∧ ∃ (i : Nat × AHeap × List (List Value) × List (List Nat)), Value.slice a n c = Value.slice a n c ∧ Value.slice (some (Addr.mk (AHeap.n h) (0 : Nat) (some (3 : Nat)))) (Int.toNat (↑n : Int)) (Int.toNat (↑n : Int) + (1 : Nat)) = Value.slice (some (Addr.mk (AHeap.n h) (0 : Nat) (some (Sh.cells changeSh)))) n (n + (1 : Nat)) ∧ Value.int IntKind.i64 (0 : Int) = Value.int IntKind.i64 (↑(Prod.fst i) : Int) ∧ Prod.fst (Prod.snd i) = AHeap.push h (AObj.mk (List.replicate (Int.toNat (↑n : Int)) [Value.int IntKind.i64 (Int.ofNat (0 : Nat)), Value.int IntKind.i64 (Int.ofNat (0 : Nat)), Value.slice none (0 : Nat) (0 : Nat)]) (3 : Nat) true) ∧ ToI changeSh [Value.int IntKind.i64 (0 : Int), Value.int IntKind.i64 (0 : Int), Value.slice none (0 : Nat) (0 : Nat)] n h xs (Prod.fst i) (Prod.fst (Prod.snd i)) (Prod.fst (Prod.snd (Prod.snd i))) (Prod.snd (Prod.snd (Prod.snd i))) ∧ (∀ (j : AHeap × List (List Value) × List (List Nat)), ToI changeSh [Value.int IntKind.i64 (0 : Int), Value.int IntKind.i64 (0 : Int), Value.slice none (0 : Nat) (0 : Nat)] n h xs n (Prod.fst j) (Prod.fst (Prod.snd j)) (Prod.snd (Prod.snd j)) → AHeap.Le h (Prod.fst j) ∧ AHeap.wf (Prod.fst j) ∧ ∃ (ids : List Nat), Value.slice (some (Addr.mk (AHeap.n h) (0 : Nat) (some (Sh.cells changeSh)))) n (n + (1 : Nat)) = Value.slice (some (Addr.mk (AHeap.n h) (0 : Nat) (some (3 : Nat)))) n (n + (1 : Nat)) ∧ So (Prod.fst j) changeSh xs (Value.slice (some (Addr.mk (AHeap.n h) (0 : Nat) (some (3 : Nat)))) n (n + (1 : Nat))) ids ∧ Fresh (AHeap.n h) (AHeap.n (Prod.fst j)) ids) ∧ ∀ (v : Value) (h_1 : AHeap), False → AHeap.Le h h_1 ∧ AHeap.wf h_1 ∧ ∃ (ids : List Nat), v = Value.slice (some (Addr.mk (AHeap.n h) (0 : Nat) (some (3 : Nat)))) n (n + (1 : Nat)) ∧ So h_1 changeSh xs (Value.slice (some (Addr.mk (AHeap.n h) (0 : Nat) (some (3 : Nat)))) n (n + (1 : Nat))) ids ∧ Fresh (AHeap.n h) (AHeap.n h_1) ids) = _) ?_
    refine ⟨Int.natCast_nonneg _, Int.le_refl _, by omega, (0, _, _, _), rfl, rfl, rfl, rfl, ToI.start hw rfl, ?_, fun _ _ h => h.elim⟩
    rintro ⟨h1, rows, idss⟩ I
    obtain ⟨ids, h2, h3⟩ := ToI.finish I en (n + 1)
    exact ⟨I.le, I.wf, ids, rfl, h2, h3⟩
theorem eqChange_spec (h : AHeap) (x y : changeSh.T) (v1 : Value) (h1 : Sl h proofSh x.2.2 v1) (w1 : Value) (j1 : Sl h proofSh y.2.2 w1) (ok : changeSh.ok x) :
    ACall Tryz.prog 101 [.agg #[.int .i64 x.1, .int .i64 x.2.1, v1], .agg #[.int .i64 y.1, .int .i64 y.2.1, w1]] h (.bool (eqb x y)) h := by
  obtain ⟨x1, x2, x3⟩ := x
  obtain ⟨y1, y2, y3⟩ := y
  try dsimp only at *
  obtain ⟨a1, c1, rfl⟩ := h1.isSlice
  obtain ⟨ab1, cb1, rfl⟩ := j1.isSlice
  refine acall_out (acall_vc (fun _ => false) (fun _ => []) (fun _ => .none) mixed Tryz.func101 rfl rfl rfl (Nat.le_of_ble_eq_true rfl) (by refine vc_mp (by kernel_rfl : (True ∧ (True ∧ (True ∧ True) ∧ True) ∧ (True ∧ (True ∧ True) ∧ True) ∧ (True ∧ (True ∧ True) ∧ True) ∧ True ∧ True) = _) ?_; simp only [and_self]) ?_)
  refine vc_mp (by kernel_rfl : (bs (!decide (x1 = y1)) (Value.bool false = Value.bool (eqb (x1, x2, x3) (y1, y2, y3)) ∧ h = h) (bs (!decide (x2 = y2)) (Value.bool false = Value.bool (eqb (x1, x2, x3) (y1, y2, y3)) ∧ h = h) (∃ (x : Bool), ∃ (h' : AHeap), ACall Tryz.prog (140 : Nat) [Value.slice a1 (List.length x3) c1, Value.slice ab1 (List.length y3) cb1] h (Value.bool x) h' ∧ bs (!x) (Value.bool false = Value.bool (eqb (x1, x2, x3) (y1, y2, y3)) ∧ h' = h) (Value.bool true = Value.bool (eqb (x1, x2, x3) (y1, y2, y3)) ∧ h' = h)))) = _) ?_
  refine bs_dn (fun e => ⟨congrArg _ (eqb_false fun e' => e (by cases e'; rfl)), rfl⟩) (fun e1 => ?_)
  refine bs_dn (fun e => ⟨congrArg _ (eqb_false fun e' => e (by cases e'; rfl)), rfl⟩) (fun e2 => ?_)
  refine ⟨_, _, eqProofS_spec h a1 _ c1 ab1 _ cb1 _ _ h1 j1 ok.2.2, bs_nb (fun e => ⟨congrArg _ (eqb_false fun e' => of_eqb_false e (by cases e'; rfl)), rfl⟩) (fun e3 => ?_)⟩
  exact ⟨congrArg _ (eqb_true (Prod.ext e1 (Prod.ext e2 (of_eqb e3)))), rfl⟩
theorem eqChangeS_spec (h : AHeap) (a : Option Addr) (n c : Nat) (a' : Option Addr) (n' c' : Nat) (xs ys : List changeSh.T) (hx : Sl h changeSh xs (.slice a n c)) (hy : Sl h changeSh ys (.slice a' n' c')) (ok : (Sh.sl changeSh).ok xs) :
    ACall Tryz.prog 42 [.slice a n c, .slice a' n' c'] h (.bool (eqb xs ys)) h := by
  have en := hx.len
  have en' := hy.len
  have hn : xs.length ≤ 9223372036854775807 := ok.1
  refine acall_out (acall_vc (fun _ => false) (fun _ => [(0, 0, []), (1, 0, []), (2, 0, []), (4, 0, []), (5, 0, []), (6, 0, []), (3, 1, []), (7, 1, []), (8, 3, []), (9, 0, [])]) (fun _ => eqLp h a n c a' n' c' xs ys) mixed Tryz.func42 rfl rfl rfl (Nat.le_of_ble_eq_true rfl) ?_ ?_)
  · refine vc_mp (by kernel_rfl : (True ∧ (True ∧ (True ∧ True) ∧ True) ∧ (True ∧ (∀ (i : Nat), EqI xs ys i → bs (decide ((↑i : Int) < (↑n : Int))) (∃ (l : Nat), ∃ (r : Nat), a = some (Addr.mk l r (some (3 : Nat))) ∧ (0 : Int) ≤ (↑i : Int) ∧ (↑i : Int) < (↑n : Int) ∧ ∃ (l_1 : Nat), ∃ (r_1 : Nat), a' = some (Addr.mk l_1 r_1 (some (3 : Nat))) ∧ (0 : Int) ≤ (↑i : Int) ∧ (↑i : Int) < (↑n' : Int) ∧ ∃ (x : Int), ∃ (x_1 : Int), ∃ (a_2 : Option Addr), ∃ (n_1 : Nat), ∃ (c_1 : Nat), AHeap.ld h l (r + Int.toNat (↑i : Int)) (0 : Nat) (3 : Nat) = some [Value.int IntKind.i64 x, Value.int IntKind.i64 x_1, Value.slice a_2 n_1 c_1] ∧ ∃ (x_2 : Int), ∃ (x_3 : Int), ∃ (a_3 : Option Addr), ∃ (n_2 : Nat), ∃ (c_2 : Nat), AHeap.ld h l_1 (r_1 + Int.toNat (↑i : Int)) (0 : Nat) (3 : Nat) = some [Value.int IntKind.i64 x_2, Value.int IntKind.i64 x_3, Value.slice a_3 n_2 c_2] ∧ ∃ (x_4 : Bool), ∃ (h' : AHeap), ACall Tryz.prog (101 : Nat) [Value.agg (Array.mk [Value.int IntKind.i64 x, Value.int IntKind.i64 x_1, Value.slice a_2 n_1 c_1]), Value.agg (Array.mk [Value.int IntKind.i64 x_2, Value.int IntKind.i64 x_3, Value.slice a_3 n_2 c_2])] h (Value.bool x_4) h' ∧ bs (!x_4) (Value.bool false = Value.bool (eqb xs ys) ∧ h' = h) (∃ (j : Nat), Value.slice a n c = Value.slice a n c ∧ Value.slice a' n' c' = Value.slice a' n' c' ∧ Value.int IntKind.i64 (IntKind.wrap IntKind.i64 ((↑i : Int) + (1 : Int))) = Value.int IntKind.i64 (↑j : Int) ∧ h = h' ∧ EqI xs ys j ∧ List.length xs - j < List.length xs - i ∧ (∀ (k : Unit), xs = ys → xs = ys) ∧ ∀ (v : Value) (h_1 : AHeap), v = Value.bool (eqb xs ys) ∧ h_1 = h → v = Value.bool (eqb xs ys) ∧ h_1 = h)) (∃ (j : Unit), h = h ∧ xs = ys)) ∧ (True ∧ True ∧ True) ∧ (True ∧ (True ∧ True) ∧ True) ∧ True) ∧ True ∧ True) = _) ?_
    simp only [true_and, and_true]
    rintro (i : Nat) I
    have hl := I.len
    have hi := I.hi
    refine bs_d (fun hlt => ?_) (fun hge => ?_)
    · have hxi : i < xs.length := by omega
      have hyi : i < ys.length := by omega
      obtain ⟨l, r, row, ha, hin, hrd, hld⟩ := hx.elem (List.getElem?_eq_getElem hxi)
      obtain ⟨l', r', row', ha', hin', hrd', hld'⟩ := hy.elem (List.getElem?_eq_getElem hyi)
      obtain ⟨v1, rfl, k1⟩ := rd_change.1 hrd
      obtain ⟨w1, rfl, kk1⟩ := rd_change.1 hrd'
      obtain ⟨a1, c1, rfl⟩ := k1.isSlice
      obtain ⟨b1, d1, rfl⟩ := kk1.isSlice
      refine ⟨l, r, ha, Int.natCast_nonneg _, hlt, l', r', ha', Int.natCast_nonneg _, by omega, _, _, _, _, _, hld, _, _, _, _, _, hld', _, _, eqChange_spec h xs[i] ys[i] _ k1 _ kk1 (ok.2 _ (List.getElem_mem hxi)), bs_nb (fun hb => ?_) (fun hb => ?_)⟩
      · exact ⟨congrArg _ (eqb_false fun e => of_eqb_false hb (by subst e; rfl)), rfl⟩
      · exact ⟨i + 1, by rw [wrap_i64 (by omega)] <;> rfl, rfl, I.step hxi hyi (of_eqb hb), by omega, fun _ h => h, fun _ _ h => h⟩
    · have e : i = xs.length := by omega
      subst e
      exact ⟨(), I.all⟩
  · refine vc_mp (by kernel_rfl : (bs (!decide ((↑n : Int) = (↑n' : Int))) (Value.bool false = Value.bool (eqb xs ys) ∧ h = h) (∃ (i : Nat), Value.slice a n c = Value.slice a n c ∧ Value.slice a' n' c' = Value.slice a' n' c' ∧ Value.int IntKind.i64 (0 : Int) = Value.int IntKind.i64 (↑i : Int) ∧ h = h ∧ EqI xs ys i ∧ (∀ (j : Unit), xs = ys → Value.bool true = Value.bool (eqb xs ys) ∧ h = h) ∧ ∀ (v : Value) (h_1 : AHeap), v = Value.bool (eqb xs ys) ∧ h_1 = h → v = Value.bool (eqb xs ys) ∧ h_1 = h)) = _) ?_
    refine bs_dn (fun hne => ⟨congrArg _ (eqb_false fun e => hne (by rw [← en, ← en', e])), rfl⟩) (fun he => ?_)
    exact ⟨(0 : Nat), rfl, rfl, rfl, rfl, ⟨by omega, Nat.zero_le _, rfl⟩, fun j e => ⟨congrArg _ (eqb_true e), rfl⟩, fun _ _ h => h⟩
theorem szSay_spec (h : AHeap) (x : saySh.T) (left : Int) (v1 : Value) (h1 : Sl h changeSh x.2.2.2.2.2 v1) (hl : 0 ≤ left ∧ left ≤ 1048576) (ok : saySh.ok x) :
    ACall Tryz.prog 21 [.agg #[.int .i64 x.1, .int .i64 x.2.1, .int .i64 x.2.2.1, .int .i64 x.2.2.2.1, .string x.2.2.2.2.1, v1], .int .i64 left] h (.int .i64 (saySh.sz x left)) h := by
  obtain ⟨x1, x2, x3, x4, x5, x6⟩ := x
  try dsimp only at *
  obtain ⟨a1, c1, rfl⟩ := h1.isSlice
  refine acall_out (acall_vc (fun _ => false) (fun _ => []) (fun _ => .none) mixed Tryz.func21 rfl rfl rfl (Nat.le_of_ble_eq_true rfl) (by refine vc_mp (by kernel_rfl : (True ∧ True ∧ (True ∧ (True ∧ True) ∧ True) ∧ True ∧ (True ∧ (True ∧ True) ∧ True) ∧ True ∧ True) = _) ?_; simp only [and_self]) ?_)
  refine vc_mp (by kernel_rfl : (bs (decide (IntKind.wrap IntKind.i64 (left - (↑(ByteArray.size x5) : Int)) < (0 : Int))) (Value.int IntKind.i64 (-1 : Int) = Value.int IntKind.i64 (Sh.sz saySh (x1, x2, x3, x4, x5, x6) left) ∧ h = h) (∃ (x : Int), ∃ (h' : AHeap), ACall Tryz.prog (30 : Nat) [Value.slice a1 (List.length x6) c1, Value.int IntKind.i64 (IntKind.wrap IntKind.i64 (left - (↑(ByteArray.size x5) : Int)))] h (Value.int IntKind.i64 x) h' ∧ bs (decide (x < (0 : Int))) (Value.int IntKind.i64 (-1 : Int) = Value.int IntKind.i64 (Sh.sz saySh (x1, x2, x3, x4, x5, x6) left) ∧ h' = h) (Value.int IntKind.i64 x = Value.int IntKind.i64 (Sh.sz saySh (x1, x2, x3, x4, x5, x6) left) ∧ h' = h))) = _) ?_
  have o1 : (x5 : ByteArray).size ≤ 9223372036854775807 := ok.2.2.2.2.1
  rw [wrap_i64 (by omega)]
  refine bs_d (fun e1 => by refine ⟨congrArg _ (Eq.symm ?_), rfl⟩; exact sz_step rfl hl.1 (sz_step rfl hl.1 (sz_step rfl hl.1 (sz_step rfl hl.1 (sz_stop (neg1 (sz_strn e1))))))) (fun e1 => ?_)
  have b2 := (Sh.sl changeSh).sz_le x6 (left - ((x5 : ByteArray).size : Int)) (by omega)
  refine ⟨_, _, szChangeS_spec h a1 _ c1 _ (left - ((x5 : ByteArray).size : Int)) h1 (by omega) ok.2.2.2.2.2, bs_d (fun e2 => by refine ⟨congrArg _ (Eq.symm ?_), rfl⟩; exact sz_step rfl hl.1 (sz_step rfl hl.1 (sz_step rfl hl.1 (sz_step rfl hl.1 (sz_step (sz_str e1) (Int.not_lt.1 e1) (sz_neg (Int.not_lt.1 e1) e2)))))) (fun e2 => ?_)⟩
  refine ⟨congrArg _ (Eq.symm ?_), rfl⟩
  exact sz_step rfl hl.1 (sz_step rfl hl.1 (sz_step rfl hl.1 (sz_step rfl hl.1 (sz_step (sz_str e1) (Int.not_lt.1 e1) (rfl)))))
theorem toSay_spec (h : AHeap) (x : saySh.T) (v1 : Value) (h1 : Sl h changeSh x.2.2.2.2.2 v1) (hw : h.wf) (ok : saySh.small x) :
    ∃ v h', ACall Tryz.prog 23 [.agg #[.int .i64 x.1, .int .i64 x.2.1, .int .i64 x.2.2.1, .int .i64 x.2.2.2.1, .string x.2.2.2.2.1, v1]] h v h' ∧ h.Le h' ∧ h'.wf ∧ ∃ w1 ids, v = .agg #[.int .i64 x.1, .int .i64 x.2.1, .int .i64 x.2.2.1, .int .i64 x.2.2.2.1, .string x.2.2.2.2.1, w1] ∧ saySh.ro h' x [.int .i64 x.1, .int .i64 x.2.1, .int .i64 x.2.2.1, .int .i64 x.2.2.2.1, .string x.2.2.2.2.1, w1] ids ∧ Fresh h.n h'.n ids := by
  obtain ⟨x1, x2, x3, x4, x5, x6⟩ := x
  try dsimp only at *
  obtain ⟨a1, c1, rfl⟩ := h1.isSlice
  refine acall_q fun Q HQ => ?_
  refine acall_vc (fun _ => false) (fun _ => []) (fun _ => .none) mixed Tryz.func23 rfl rfl rfl (Nat.le_of_ble_eq_true rfl) (by refine vc_mp (by kernel_rfl : (True ∧ True ∧ True ∧ True ∧ True ∧ True ∧ True ∧ True ∧ True ∧ True) = _) ?_; simp only [and_self]) ?_
  refine vc_mp (by kernel_rfl : (∃ (a : Option Addr), ∃ (n : Nat), ∃ (c : Nat), ∃ (h' : AHeap), ACall Tryz.prog (37 : Nat) [Value.slice a1 (List.length x6) c1] h (Value.slice a n c) h' ∧ Q (Value.agg (Array.mk [Value.int IntKind.i64 x1, Value.int IntKind.i64 x2, Value.int IntKind.i64 x3, Value.int IntKind.i64 x4, Value.string x5, Value.slice a n c])) h') = _) ?_
  obtain ⟨u1, g1, A1, l1, W1, ids1, rfl, r1, f1⟩ := toChangeS_spec h a1 _ c1 _ hw h1 ok.2.2.2.2.2
  have L1 : h.Le g1 := l1
  refine ⟨_, _, _, _, A1, HQ _ _ ⟨L1, W1, _, [] ++ ([] ++ ([] ++ ([] ++ ([] ++ (ids1))))), rfl, ?_, ?_⟩⟩
  · exact ⟨[_], _, [], _, rfl, rfl, ⟨rfl, rfl⟩, [_], _, [], _, rfl, rfl, ⟨rfl, rfl⟩, [_], _, [], _, rfl, rfl, ⟨rfl, rfl⟩, [_], _, [], _, rfl, rfl, ⟨rfl, rfl⟩, [_], _, [], _, rfl, rfl, ⟨rfl, rfl⟩, ro_sl.2 ⟨_, rfl, r1⟩⟩
  · exact (show Fresh h.n g1.n (ids1) from f1)
theorem eqSay_spec (h : AHeap) (x y : saySh.T) (v1 : Value) (h1 : Sl h changeSh x.2.2.2.2.2 v1) (w1 : Value) (j1 : Sl h changeSh y.2.2.2.2.2 w1) (ok : saySh.ok x) :
    ACall Tryz.prog 25 [.agg #[.int .i64 x.1, .int .i64 x.2.1, .int .i64 x.2.2.1, .int .i64 x.2.2.2.1, .string x.2.2.2.2.1, v1], .agg #[.int .i64 y.1, .int .i64 y.2.1, .int .i64 y.2.2.1, .int .i64 y.2.2.2.1, .string y.2.2.2.2.1, w1]] h (.bool (eqb x y)) h := by
  obtain ⟨x1, x2, x3, x4, x5, x6⟩ := x
  obtain ⟨y1, y2, y3, y4, y5, y6⟩ := y
  try dsimp only at *
  obtain ⟨a1, c1, rfl⟩ := h1.isSlice
  obtain ⟨ab1, cb1, rfl⟩ := j1.isSlice
  refine acall_out (acall_vc (fun _ => false) (fun _ => []) (fun _ => .none) mixed Tryz.func25 rfl rfl rfl (Nat.le_of_ble_eq_true rfl) (by refine vc_mp (by kernel_rfl : (True ∧ (True ∧ (True ∧ True) ∧ True) ∧ (True ∧ (True ∧ True) ∧ True) ∧ (True ∧ (True ∧ True) ∧ True) ∧ (True ∧ (True ∧ True) ∧ True) ∧ (True ∧ (True ∧ True) ∧ True) ∧ (True ∧ (True ∧ True) ∧ True) ∧ True ∧ True) = _) ?_; simp only [and_self]) ?_)
  refine vc_mp (by kernel_rfl : (bs (!decide (x1 = y1)) (Value.bool false = Value.bool (eqb (x1, x2, x3, x4, x5, x6) (y1, y2, y3, y4, y5, y6)) ∧ h = h) (bs (!decide (x2 = y2)) (Value.bool false = Value.bool (eqb (x1, x2, x3, x4, x5, x6) (y1, y2, y3, y4, y5, y6)) ∧ h = h) (bs (!decide (x3 = y3)) (Value.bool false = Value.bool (eqb (x1, x2, x3, x4, x5, x6) (y1, y2, y3, y4, y5, y6)) ∧ h = h) (bs (!decide (x4 = y4)) (Value.bool false = Value.bool (eqb (x1, x2, x3, x4, x5, x6) (y1, y2, y3, y4, y5, y6)) ∧ h = h) (bs (!decide (x5 = y5)) (Value.bool false = Value.bool (eqb (x1, x2, x3, x4, x5, x6) (y1, y2, y3, y4, y5, y6)) ∧ h = h) (∃ (x : Bool), ∃ (h' : AHeap), ACall Tryz.prog (42 : Nat) [Value.slice a1 (List.length x6) c1, Value.slice ab1 (List.length y6) cb1] h (Value.bool x) h' ∧ bs (!x) (Value.bool false = Value.bool (eqb (x1, x2, x3, x4, x5, x6) (y1, y2, y3, y4, y5, y6)) ∧ h' = h) (Value.bool true = Value.bool (eqb (x1, x2, x3, x4, x5, x6) (y1, y2, y3, y4, y5, y6)) ∧ h' = h))))))) = _) ?_
  refine bs_dn (fun e => ⟨congrArg _ (eqb_false fun e' => e (by cases e'; rfl)), rfl⟩) (fun e1 => ?_)
  refine bs_dn (fun e => ⟨congrArg _ (eqb_false fun e' => e (by cases e'; rfl)), rfl⟩) (fun e2 => ?_)
  refine bs_dn (fun e => ⟨congrArg _ (eqb_false fun e' => e (by cases e'; rfl)), rfl⟩) (fun e3 => ?_)
  refine bs_dn (fun e => ⟨congrArg _ (eqb_false fun e' => e (by cases e'; rfl)), rfl⟩) (fun e4 => ?_)
  refine bs_dn (fun e => ⟨congrArg _ (eqb_false fun e' => e (by cases e'; rfl)), rfl⟩) (fun e5 => ?_)
  refine ⟨_, _, eqChangeS_spec h a1 _ c1 ab1 _ cb1 _ _ h1 j1 ok.2.2.2.2.2, bs_nb (fun e => ⟨congrArg _ (eqb_false fun e' => of_eqb_false e (by cases e'; rfl)), rfl⟩) (fun e6 => ?_)⟩
  exact ⟨congrArg _ (eqb_true (Prod.ext e1 (Prod.ext e2 (Prod.ext e3 (Prod.ext e4 (Prod.ext e5 (of_eqb e6))))))), rfl⟩
theorem eqSayS_spec (h : AHeap) (a : Option Addr) (n c : Nat) (a' : Option Addr) (n' c' : Nat) (xs ys : List saySh.T) (hx : Sl h saySh xs (.slice a n c)) (hy : Sl h saySh ys (.slice a' n' c')) (ok : (Sh.sl saySh).ok xs) :
    ACall Tryz.prog 11 [.slice a n c, .slice a' n' c'] h (.bool (eqb xs ys)) h := by
  have en := hx.len
  have en' := hy.len
  have hn : xs.length ≤ 9223372036854775807 := ok.1
  refine acall_out (acall_vc (fun _ => false) (fun _ => [(0, 0, []), (1, 0, []), (2, 0, []), (4, 0, []), (5, 0, []), (6, 0, []), (3, 1, []), (7, 1, []), (8, 3, []), (9, 0, [])]) (fun _ => eqLp h a n c a' n' c' xs ys) mixed Tryz.func11 rfl rfl rfl (Nat.le_of_ble_eq_true rfl) ?_ ?_)
  · refine vc_mp (by kernel_rfl : (True ∧ (True ∧ (True ∧ True) ∧ True) ∧ (True ∧ (∀ (i : Nat), EqI xs ys i → bs (decide ((↑i : Int) < (↑n : Int))) (∃ (l : Nat), ∃ (r : Nat), a = some (Addr.mk l r (some (6 : Nat))) ∧ (0 : Int) ≤ (↑i : Int) ∧ (↑i : Int) < (↑n : Int) ∧ ∃ (l_1 : Nat), ∃ (r_1 : Nat), a' = some (Addr.mk l_1 r_1 (some (6 : Nat))) ∧ (0 : Int) ≤ (↑i : Int) ∧ (↑i : Int) < (↑n' : Int) ∧ ∃ (x : Int), ∃ (x_1 : Int), ∃ (x_2 : Int), ∃ (x_3 : Int), ∃ (x_4 : ByteArray), ∃ (a_2 : Option Addr), ∃ (n_1 : Nat), ∃ (c_1 : Nat), AHeap.ld h l (r + Int.toNat (↑i : Int)) (0 : Nat) (6 : Nat) = some [Value.int IntKind.i64 x, Value.int IntKind.i64 x_1, Value.int IntKind.i64 x_2, Value.int IntKind.i64 x_3, Value.string x_4, Value.slice a_2 n_1 c_1] ∧ ∃ (x_5 : Int), ∃ (x_6 : Int), ∃ (x_7 : Int), ∃ (x_8 : Int), ∃ (x_9 : ByteArray), ∃ (a_3 : Option Addr), ∃ (n_2 : Nat), ∃ (c_2 : Nat), AHeap.ld h l_1 (r_1 + Int.toNat (↑i : Int)) (0 : Nat) (6 : Nat) = some [Value.int IntKind.i64 x_5, Value.int IntKind.i64 x_6, Value.int IntKind.i64 x_7, Value.int IntKind.i64 x_8, Value.string x_9, Value.slice a_3 n_2 c_2] ∧ ∃ (x_10 : Bool), ∃ (h' : AHeap), ACall Tryz.prog (25 : Nat) [Value.agg (Array.mk [Value.int IntKind.i64 x, Value.int IntKind.i64 x_1, Value.int IntKind.i64 x_2, Value.int IntKind.i64 x_3, Value.string x_4, Value.slice a_2 n_1 c_1]), Value.agg (Array.mk [Value.int IntKind.i64 x_5, Value.int IntKind.i64 x_6, Value.int IntKind.i64 x_7, Value.int IntKind.i64 x_8, Value.string x_9, Value.slice a_3 n_2 c_2])] h (Value.bool x_10) h' ∧ bs (!x_10) (Value.bool false = Value.bool (eqb xs ys) ∧ h' = h) (∃ (j : Nat), Value.slice a n c = Value.slice a n c ∧ Value.slice a' n' c' = Value.slice a' n' c' ∧ Value.int IntKind.i64 (IntKind.wrap IntKind.i64 ((↑i : Int) + (1 : Int))) = Value.int IntKind.i64 (↑j : Int) ∧ h = h' ∧ EqI xs ys j ∧ List.length xs - j < List.length xs - i ∧ (∀ (k : Unit), xs = ys → xs = ys) ∧ ∀ (v : Value) (h_1 : AHeap), v = Value.bool (eqb xs ys) ∧ h_1 = h → v = Value.bool (eqb xs ys) ∧ h_1 = h)) (∃ (j : Unit), h = h ∧ xs = ys)) ∧ (True ∧ True ∧ True) ∧ (True ∧ (True ∧ True) ∧ True) ∧ True) ∧ True ∧ True) = _) ?_
    simp only [true_and, and_true]
    rintro (i : Nat) I
    have hl := I.len
    have hi := I.hi
    refine bs_d (fun hlt => ?_) (fun hge => ?_)
    · have hxi : i < xs.length := by omega
      have hyi : i < ys.length := by omega
      obtain ⟨l, r, row, ha, hin, hrd, hld⟩ := hx.elem (List.getElem?_eq_getElem hxi)
      obtain ⟨l', r', row', ha', hin', hrd', hld'⟩ := hy.elem (List.getElem?_eq_getElem hyi)
      obtain ⟨v1, rfl, k1⟩ := rd_say.1 hrd
      obtain ⟨w1, rfl, kk1⟩ := rd_say.1 hrd'
      obtain ⟨a1, c1, rfl⟩ := k1.isSlice
      obtain ⟨b1, d1, rfl⟩ := kk1.isSlice
      refine ⟨l, r, ha, Int.natCast_nonneg _, hlt, l', r', ha', Int.natCast_nonneg _, by omega, _, _, _, _, _, _, _, _, hld, _, _, _, _, _, _, _, _, hld', _, _, eqSay_spec h xs[i] ys[i] _ k1 _ kk1 (ok.2 _ (List.getElem_mem hxi)), bs_nb (fun hb => ?_) (fun hb => ?_)⟩
      · exact ⟨congrArg _ (eqb_false fun e => of_eqb_false hb (by subst e; rfl)), rfl⟩
      · exact ⟨i + 1, by rw [wrap_i64 (by omega)] <;> rfl, rfl, I.step hxi hyi (of_eqb hb), by omega, fun _ h => h, fun _ _ h => h⟩
    · have e : i = xs.length := by omega
      subst e
      exact ⟨(), I.all⟩
  · refine vc_mp (by kernel_rfl : (bs (!decide ((↑n : Int) = (↑n' : Int))) (Value.bool false = Value.bool (eqb xs ys) ∧ h = h) (∃ (i : Nat), Value.slice a n c = Value.slice a n c ∧ Value.slice a' n' c' = Value.slice a' n' c' ∧ Value.int IntKind.i64 (0 : Int) = Value.int IntKind.i64 (↑i : Int) ∧ h = h ∧ EqI xs ys i ∧ (∀ (j : Unit), xs = ys → Value.bool true = Value.bool (eqb xs ys) ∧ h = h) ∧ ∀ (v : Value) (h_1 : AHeap), v = Value.bool (eqb xs ys) ∧ h_1 = h → v = Value.bool (eqb xs ys) ∧ h_1 = h)) = _) ?_
    refine bs_dn (fun hne => ⟨congrArg _ (eqb_false fun e => hne (by rw [← en, ← en', e])), rfl⟩) (fun he => ?_)
    exact ⟨(0 : Nat), rfl, rfl, rfl, rfl, ⟨by omega, Nat.zero_le _, rfl⟩, fun j e => ⟨congrArg _ (eqb_true e), rfl⟩, fun _ _ h => h⟩
theorem szVote_spec (h : AHeap) (x : voteSh.T) (left : Int) (hl : 0 ≤ left ∧ left ≤ 1048576) (ok : voteSh.ok x) :
    ACall Tryz.prog 74 [.agg #[.int .i64 x.1, .int .i64 x.2.1, .int .i64 x.2.2.1, .string x.2.2.2.1, .int .i64 x.2.2.2.2], .int .i64 left] h (.int .i64 (voteSh.sz x left)) h := by
  obtain ⟨x1, x2, x3, x4, x5⟩ := x
  try dsimp only at *
  refine acall_out (acall_vc (fun _ => false) (fun _ => []) (fun _ => .none) mixed Tryz.func74 rfl rfl rfl (Nat.le_of_ble_eq_true rfl) (by refine vc_mp (by kernel_rfl : (True ∧ True ∧ (True ∧ (True ∧ True) ∧ True) ∧ True ∧ True) = _) ?_; simp only [and_self]) ?_)
  refine vc_mp (by kernel_rfl : (bs (decide (IntKind.wrap IntKind.i64 (left - (↑(ByteArray.size x4) : Int)) < (0 : Int))) (Value.int IntKind.i64 (-1 : Int) = Value.int IntKind.i64 (Sh.sz voteSh (x1, x2, x3, x4, x5) left) ∧ h = h) (Value.int IntKind.i64 (IntKind.wrap IntKind.i64 (left - (↑(ByteArray.size x4) : Int))) = Value.int IntKind.i64 (Sh.sz voteSh (x1, x2, x3, x4, x5) left) ∧ h = h)) = _) ?_
  have o1 : (x4 : ByteArray).size ≤ 9223372036854775807 := ok.2.2.2.1
  rw [wrap_i64 (by omega)]
  refine bs_d (fun e1 => by refine ⟨congrArg _ (Eq.symm ?_), rfl⟩; exact sz_step rfl hl.1 (sz_step rfl hl.1 (sz_step rfl hl.1 (sz_stop (neg1 (sz_strn e1)))))) (fun e1 => ?_)
  refine ⟨congrArg _ (Eq.symm ?_), rfl⟩
  exact sz_step rfl hl.1 (sz_step rfl hl.1 (sz_step rfl hl.1 (sz_step (sz_str e1) (Int.not_lt.1 e1) (rfl))))
theorem szVoteS_spec (h : AHeap) (a : Option Addr) (n c : Nat) (xs : List voteSh.T) (left : Int) (hx : Sl h voteSh xs (.slice a n c)) (hl : 0 ≤ left ∧ left ≤ 1048576) (ok : (Sh.sl voteSh).ok xs) :
    ACall Tryz.prog 29 [.slice a n c, .int .i64 left] h (.int .i64 ((Sh.sl voteSh).sz xs left)) h := by
  have en := hx.len
  have ok1 : xs.length ≤ 9223372036854775807 := ok.1
  have key : (Sh.sl voteSh).sz xs left = (if left - (xs.length : Int) < 0 then -1 else szL voteSh.sz xs (left - (xs.length : Int))) := rfl
  rw [key, en]
  refine acall_out (acall_vc (fun _ => false) (fun _ => []) (fun _ => szLp voteSh a n c h xs (szL voteSh.sz xs (left - n))) mixed Tryz.func29 rfl rfl rfl (Nat.le_of_ble_eq_true rfl) ?_ ?_)
  · refine vc_mp (by kernel_rfl : (True ∧ True ∧ (True ∧ (True ∧ True) ∧ True) ∧ (True ∧ (∀ (i : Nat × Int), Prod.fst i ≤ n ∧ (0 : Int) ≤ Prod.snd i ∧ Prod.snd i ≤ (1048576 : Int) ∧ szL (Sh.sz voteSh) (List.drop (Prod.fst i) xs) (Prod.snd i) = szL (Sh.sz voteSh) xs (left - (↑n : Int)) → bs (decide ((↑(Prod.fst i) : Int) < (↑n : Int))) (∃ (l : Nat), ∃ (r : Nat), a = some (Addr.mk l r (some (5 : Nat))) ∧ (0 : Int) ≤ (↑(Prod.fst i) : Int) ∧ (↑(Prod.fst i) : Int) < (↑n : Int) ∧ ∃ (x : Int), ∃ (x_1 : Int), ∃ (x_2 : Int), ∃ (x_3 : ByteArray), ∃ (x_4 : Int), AHeap.ld h l (r + Int.toNat (↑(Prod.fst i) : Int)) (0 : Nat) (5 : Nat) = some [Value.int IntKind.i64 x, Value.int IntKind.i64 x_1, Value.int IntKind.i64 x_2, Value.string x_3, Value.int IntKind.i64 x_4] ∧ ∃ (x_5 : Int), ∃ (h' : AHeap), ACall Tryz.prog (74 : Nat) [Value.agg (Array.mk [Value.int IntKind.i64 x, Value.int IntKind.i64 x_1, Value.int IntKind.i64 x_2, Value.string x_3, Value.int IntKind.i64 x_4]), Value.int IntKind.i64 (Prod.snd i)] h (Value.int IntKind.i64 x_5) h' ∧ bs (decide (x_5 < (0 : Int))) (Value.int IntKind.i64 (-1 : Int) = Value.int IntKind.i64 (szL (Sh.sz voteSh) xs (left - (↑n : Int))) ∧ h' = h) (∃ (j : Nat × Int), Value.slice a n c = Value.slice a n c ∧ Value.int IntKind.i64 x_5 = Value.int IntKind.i64 (Prod.snd j) ∧ Value.int IntKind.i64 (IntKind.wrap IntKind.i64 ((↑(Prod.fst i) : Int) + (1 : Int))) = Value.int IntKind.i64 (↑(Prod.fst j) : Int) ∧ h = h' ∧ (Prod.fst j ≤ n ∧ (0 : Int) ≤ Prod.snd j ∧ Prod.snd j ≤ (1048576 : Int) ∧ szL (Sh.sz voteSh) (List.drop (Prod.fst j) xs) (Prod.snd j) = szL (Sh.sz voteSh) xs (left - (↑n : Int))) ∧ n - Prod.fst j < n - Prod.fst i ∧ (∀ (k : Int), k = szL (Sh.sz voteSh) xs (left - (↑n : Int)) → k = szL (Sh.sz voteSh) xs (left - (↑n : Int))) ∧ ∀ (v : Value) (h_1 : AHeap), v = Value.int IntKind.i64 (szL (Sh.sz voteSh) xs (left - (↑n : Int))) ∧ h_1 = h → v = Value.int IntKind.i64 (szL (Sh.sz voteSh) xs (left - (↑n : Int))) ∧ h_1 = h)) (∃ (j : Int), Value.int IntKind.i64 (Prod.snd i) = Value.int IntKind.i64 j ∧ h = h ∧ j = szL (Sh.sz voteSh) xs (left - (↑n : Int)))) ∧ (True ∧ True ∧ True) ∧ (True ∧ True ∧ (True ∧ True) ∧ True) ∧ True) ∧ True ∧ True) = _) ?_
    simp only [true_and, and_true]
    rintro ⟨i, x⟩ ⟨hi, h0, h1, he⟩
    dsimp only at *
    refine bs_d (fun hlt => ?_) (fun hge => ?_)
    · have hio : i < xs.length := by omega
      obtain ⟨l, r, row, ha, _, hrd, hld⟩ := hx.elem (List.getElem?_eq_getElem hio)
      have hoi := ok.2 xs[i] (List.getElem_mem hio)
      obtain rfl := rd_vote.1 hrd
      rw [List.drop_eq_getElem_cons hio] at he
      have he : (if voteSh.sz xs[i] x < 0 then -1 else szL voteSh.sz (xs.drop (i + 1)) (voteSh.sz xs[i] x)) = szL voteSh.sz xs (left - n) := he
      have b1 := voteSh.sz_le xs[i] x h0
      refine ⟨l, r, ha, Int.natCast_nonneg _, hlt, _, _, _, _, _, hld, voteSh.sz xs[i] x, h, szVote_spec h xs[i] x   ⟨h0, h1⟩ hoi, bs_d (fun hneg => ?_) (fun hpos => ?_)⟩
      · rw [if_pos hneg] at he; rw [← he]; exact ⟨rfl, rfl⟩
      · rw [if_neg hpos] at he
        exact ⟨(i + 1, voteSh.sz xs[i] x), rfl, by rw [wrap_i64 (by omega)] <;> rfl, rfl, ⟨by dsimp only; omega, by dsimp only; omega, by dsimp only; omega, he⟩, by dsimp only; omega, fun _ h => h, fun _ _ h => h⟩
    · have e : i = xs.length := by omega
      subst e
      rw [List.drop_length] at he
      exact ⟨x, rfl, he⟩
  · refine vc_mp (by kernel_rfl : (bs (decide (IntKind.wrap IntKind.i64 (left - (↑n : Int)) < (0 : Int))) (Value.int IntKind.i64 (-1 : Int) = Value.int IntKind.i64 (if left - (↑n : Int) < (0 : Int) then (-1 : Int) else szL (Sh.sz voteSh) xs (left - (↑n : Int))) ∧ h = h) (∃ (i : Nat × Int), Value.slice a n c = Value.slice a n c ∧ Value.int IntKind.i64 (IntKind.wrap IntKind.i64 (left - (↑n : Int))) = Value.int IntKind.i64 (Prod.snd i) ∧ Value.int IntKind.i64 (0 : Int) = Value.int IntKind.i64 (↑(Prod.fst i) : Int) ∧ h = h ∧ (Prod.fst i ≤ n ∧ (0 : Int) ≤ Prod.snd i ∧ Prod.snd i ≤ (1048576 : Int) ∧ szL (Sh.sz voteSh) (List.drop (Prod.fst i) xs) (Prod.snd i) = szL (Sh.sz voteSh) xs (left - (↑n : Int))) ∧ (∀ (j : Int), j = szL (Sh.sz voteSh) xs (left - (↑n : Int)) → Value.int IntKind.i64 j = Value.int IntKind.i64 (if left - (↑n : Int) < (0 : Int) then (-1 : Int) else szL (Sh.sz voteSh) xs (left - (↑n : Int))) ∧ h = h) ∧ ∀ (v : Value) (h_1 : AHeap), v = Value.int IntKind.i64 (szL (Sh.sz voteSh) xs (left - (↑n : Int))) ∧ h_1 = h → v = Value.int IntKind.i64 (if left - (↑n : Int) < (0 : Int) then (-1 : Int) else szL (Sh.sz voteSh) xs (left - (↑n : Int))) ∧ h_1 = h)) = _) ?_
    rw [wrap_i64 (by omega)]
    refine bs_d (fun e => ?_) (fun e => ?_)
    · rw [if_pos e]; exact ⟨rfl, rfl⟩
    · rw [if_neg e]
      exact ⟨(0, left - n), rfl, rfl, rfl, rfl, ⟨Nat.zero_le _, by dsimp only; omega, by dsimp only; omega, rfl⟩, fun j hj => ⟨by rw [hj], rfl⟩, fun _ _ h => h⟩
theorem toVote_spec (h : AHeap) (x : voteSh.T) (hw : h.wf) :
    ∃ v h', ACall Tryz.prog 84 [.agg #[.int .i64 x.1, .int .i64 x.2.1, .int .i64 x.2.2.1, .string x.2.2.2.1, .int .i64 x.2.2.2.2]] h v h' ∧ h.Le h' ∧ h'.wf ∧ ∃ ids, v = .agg #[.int .i64 x.1, .int .i64 x.2.1, .int .i64 x.2.2.1, .string x.2.2.2.1, .int .i64 x.2.2.2.2] ∧ voteSh.ro h' x [.int .i64 x.1, .int .i64 x.2.1, .int .i64 x.2.2.1, .string x.2.2.2.1, .int .i64 x.2.2.2.2] ids ∧ Fresh h.n h'.n ids := by
  obtain ⟨x1, x2, x3, x4, x5⟩ := x
  try dsimp only at *
  refine acall_q fun Q HQ => ?_
  refine acall_vc (fun _ => false) (fun _ => []) (fun _ => .none) mixed Tryz.func84 rfl rfl rfl (Nat.le_of_ble_eq_true rfl) (by refine vc_mp (by kernel_rfl : (True ∧ True ∧ True ∧ True ∧ True ∧ True ∧ True ∧ True ∧ True) = _) ?_; simp only [and_self]) ?_
  refine vc_mp (by kernel_rfl : (Q (Value.agg (Array.mk [Value.int IntKind.i64 x1, Value.int IntKind.i64 x2, Value.int IntKind.i64 x3, Value.string x4, Value.int IntKind.i64 x5])) h) = _) ?_
  exact HQ _ _ ⟨.refl _, hw, [], rfl, (ro_vote (x := (x1, x2, x3, x4, x5))).2 ⟨rfl, rfl⟩, .nil⟩
theorem toVoteS_spec (h : AHeap) (a : Option Addr) (n c : Nat) (xs : List voteSh.T) (hw : h.wf) (hx : Sl h voteSh xs (.slice a n c)) (ok : (Sh.sl voteSh).small xs) :
    ∃ v h', ACall Tryz.prog 36 [.slice a n c] h v h' ∧ h.Le h' ∧ h'.wf ∧ ∃ ids, v = .slice (some ⟨h.n, 0, some 5⟩) n (n + 1) ∧ So h' voteSh xs (.slice (some ⟨h.n, 0, some 5⟩) n (n + 1)) ids ∧ Fresh h.n h'.n ids := by
  have en := hx.len
  have ok1 : xs.length ≤ 1048576 := ok.1
  refine acall_vc (fun _ => false) (fun _ => []) (fun _ => toL voteSh [.int .i64 0, .int .i64 0, .int .i64 0, .string ⟨#[]⟩, .int .i64 0] a n c h xs) mixed Tryz.func36 rfl rfl rfl (Nat.le_of_ble_eq_true rfl) ?_ ?_
  · refine vc_mp (by kernel_rfl : (True ∧ True ∧ (True ∧ (∀ (i : Nat × AHeap × List (List Value) × List (List Nat)), ToI voteSh [Value.int IntKind.i64 (0 : Int), Value.int IntKind.i64 (0 : Int), Value.int IntKind.i64 (0 : Int), Value.string (ByteArray.mk (Array.mk [])), Value.int IntKind.i64 (0 : Int)] n h xs (Prod.fst i) (Prod.fst (Prod.snd i)) (Prod.fst (Prod.snd (Prod.snd i))) (Prod.snd (Prod.snd (Prod.snd i))) → bs (decide ((↑(Prod.fst i) : Int) < (↑n : Int))) (∃ (l : Nat), ∃ (r : Nat), a = some (Addr.mk l r (some (5 : Nat))) ∧ (0 : Int) ≤ (↑(Prod.fst i) : Int) ∧ (↑(Prod.fst i) : Int) < (↑n : Int) ∧ ∃ (x : Int), ∃ (x_1 : Int), ∃ (x_2 : Int), ∃ (x_3 : ByteArray), ∃ (x_4 : Int), AHeap.ld (Prod.fst (Prod.snd i)) l (r + Int.toNat (↑(Prod.fst i) : Int)) (0 : Nat) (5 : Nat) = some [Value.int IntKind.i64 x, Value.int IntKind.i64 x_1, Value.int IntKind.i64 x_2, Value.string x_3, Value.int IntKind.i64 x_4] ∧ ∃ (x_5 : Int), ∃ (x_6 : Int), ∃ (x_7 : Int), ∃ (x_8 : ByteArray), ∃ (x_9 : Int), ∃ (h' : AHeap), ACall Tryz.prog (84 : Nat) [Value.agg (Array.mk [Value.int IntKind.i64 x, Value.int IntKind.i64 x_1, Value.int IntKind.i64 x_2, Value.string x_3, Value.int IntKind.i64 x_4])] (Prod.fst (Prod.snd i)) (Value.agg (Array.mk [Value.int IntKind.i64 x_5, Value.int IntKind.i64 x_6, Value.int IntKind.i64 x_7, Value.string x_8, Value.int IntKind.i64 x_9])) h' ∧ ∃ (l : Nat), ∃ (r : Nat), some (Addr.mk (AHeap.n h) (0 : Nat) (some (Sh.cells voteSh))) = some (Addr.mk l r (some (5 : Nat))) ∧ (0 : Int) ≤ (↑(Prod.fst i) : Int) ∧ (↑(Prod.fst i) : Int) < (↑n : Int) ∧ ∃ (h'_1 : AHeap), AHeap.wr h' l (r + Int.toNat (↑(Prod.fst i) : Int)) (0 : Nat) [Value.int IntKind.i64 x_5, Value.int IntKind.i64 x_6, Value.int IntKind.i64 x_7, Value.string x_8, Value.int IntKind.i64 x_9] = some h'_1 ∧ ∃ (j : Nat × AHeap × List (List Value) × List (List Nat)), Value.slice a n c = Value.slice a n c ∧ Value.slice (some (Addr.mk (AHeap.n h) (0 : Nat) (some (Sh.cells voteSh)))) n (n + (1 : Nat)) = Value.slice (some (Addr.mk (AHeap.n h) (0 : Nat) (some (Sh.cells voteSh)))) n (n + (1 : Nat)) ∧ Value.int IntKind.i64 (IntKind.wrap IntKind.i64 ((↑(Prod.fst i) : Int) + (1 : Int))) = Value.int IntKind.i64 (↑(Prod.fst j) : Int) ∧ Prod.fst (Prod.snd j) = h'_1 ∧ ToI voteSh [Value.int IntKind.i64 (0 : Int), Value.int IntKind.i64 (0 : Int), Value.int IntKind.i64 (0 : Int), Value.string (ByteArray.mk (Array.mk [])), Value.int IntKind.i64 (0 : Int)] n h xs (Prod.fst j) (Prod.fst (Prod.snd j)) (Prod.fst (Prod.snd (Prod.snd j))) (Prod.snd (Prod.snd (Prod.snd j))) ∧ n - Prod.fst j < n - Prod.fst i ∧ (∀ (k : AHeap × List (List Value) × List (List Nat)), ToI voteSh [Value.int IntKind.i64 (0 : Int), Value.int IntKind.i64 (0 : Int), Value.int IntKind.i64 (0 : Int), Value.string (ByteArray.mk (Array.mk [])), Value.int IntKind.i64 (0 : Int)] n h xs n (Prod.fst k) (Prod.fst (Prod.snd k)) (Prod.snd (Prod.snd k)) → ToI voteSh [Value.int IntKind.i64 (0 : Int), Value.int IntKind.i64 (0 : Int), Value.int IntKind.i64 (0 : Int), Value.string (ByteArray.mk (Array.mk [])), Value.int IntKind.i64 (0 : Int)] n h xs n (Prod.fst k) (Prod.fst (Prod.snd k)) (Prod.snd (Prod.snd k))) ∧ ∀ (v : Value) (h : AHeap), False → False) (∃ (j : AHeap × List (List Value) × List (List Nat)), Value.slice (some (Addr.mk (AHeap.n h) (0 : Nat) (some (Sh.cells voteSh)))) n (n + (1 : Nat)) = Value.slice (some (Addr.mk (AHeap.n h) (0 : Nat) (some (Sh.cells voteSh)))) n (n + (1 : Nat)) ∧ Prod.fst j = Prod.fst (Prod.snd i) ∧ ToI voteSh [Value.int IntKind.i64 (0 : Int), Value.int IntKind.i64 (0 : Int), Value.int IntKind.i64 (0 : Int), Value.string (ByteArray.mk (Array.mk [])), Value.int IntKind.i64 (0 : Int)] n h xs n (Prod.fst j) (Prod.fst (Prod.snd j)) (Prod.snd (Prod.snd j)))) ∧ (True ∧ True ∧ True) ∧ True ∧ True) ∧ True ∧ True) = _) ?_
    simp only [true_and, and_true]
    rintro ⟨i, h1, rows, idss⟩ I
    dsimp only at *
    refine bs_d (fun hlt => ?_) (fun hge => ?_)
    · have hio : i < xs.length := by omega
      obtain ⟨l, r, row, ha, _, hrd, hld⟩ := (hx.mono I.le).elem (List.getElem?_eq_getElem hio)
      obtain rfl := rd_vote.1 hrd
      obtain ⟨v, h2, hA, hle, hw2, ids, rfl, hro, hf⟩ := toVote_spec h1 xs[i]   I.wf
      obtain ⟨h3, e3, I3⟩ := I.step (by omega) (List.getElem?_eq_getElem hio) hle hw2 hro hf
      refine ⟨l, r, ha, Int.natCast_nonneg _, hlt, _, _, _, _, _, hld, _, _, _, _, _, _, hA, h.n, 0, rfl, Int.natCast_nonneg _, hlt, h3, e3, (i + 1, h3, _, _), by rw [wrap_i64 (by omega)] <;> rfl, rfl, I3, by dsimp only; omega, fun _ h => h, fun _ _ h => h⟩
    · have hi := I.hi
      have e : i = n := by omega
      subst e
      exact ⟨(h1, rows, idss), rfl, I⟩
  · refine vc_mp (by kernel_rfl : ((0 : Int) ≤ (↑n : Int) ∧ (↑n : Int) ≤ (↑n : Int) ∧ (↑n : Int) * (↑(48 : Nat) : Int) ≤ (140737488355328 : Int) ∧ ∃ (i : Nat × AHeap × List (List Value) × List (List Nat)), Value.slice a n c = Value.slice a n c ∧ Value.slice (some (Addr.mk (AHeap.n h) (0 : Nat) (some (5 : Nat)))) (Int.toNat (↑n : Int)) (Int.toNat (↑n : Int) + (1 : Nat)) = Value.slice (some (Addr.mk (AHeap.n h) (0 : Nat) (some (Sh.cells voteSh)))) n (n + (1 : Nat)) ∧ Value.int IntKind.i64 (0 : Int) = Value.int IntKind.i64 (↑(Prod.fst i) : Int) ∧ Prod.fst (Prod.snd i) = AHeap.push h (AObj.mk (List.replicate (Int.toNat (↑n : Int)) [Value.int IntKind.i64 (Int.ofNat (0 : Nat)), Value.int IntKind.i64 (Int.ofNat (0 : Nat)), Value.int IntKind.i64 (Int.ofNat (0 : Nat)), Value.string (ByteArray.mk (Array.mk [])), Value.int IntKind.i64 (Int.ofNat (0 : Nat))]) (5 : Nat) true) ∧ ToI voteSh [Value.int IntKind.i64 (0 : Int), Value.int IntKind.i64 (0 : Int), Value.int IntKind.i64 (0 : Int), Value.string (ByteArray.mk (Array.mk [])), Value.int IntKind.i64 (0 : Int)] n h xs (Prod.fst i) (Prod.fst (Prod.snd i)) (Prod.fst (Prod.snd (Prod.snd i))) (Prod.snd (Prod.snd (Prod.snd i))) ∧ (∀ (j : AHeap × List (List Value) × List (List Nat)), ToI voteSh [Value.int IntKind.i64 (0 : Int), Value.int IntKind.i64 (0 : Int), Value.int IntKind.i64 (0 : Int), Value.string (ByteArray.mk (Array.mk [])), Value.int IntKind.i64 (0 : Int)] n h xs n (Prod.fst j) (Prod.fst (Prod.snd j)) (Prod.snd (Prod.snd j)) → AHeap.Le h (Prod.fst j) ∧ AHeap.wf (Prod.fst j) ∧ ∃ (ids : List Nat), Value.slice (some (Addr.mk (AHeap.n h) (0 : Nat) (some (Sh.cells voteSh)))) n (n + (1 : Nat)) = Value.slice (some (Addr.mk (AHeap.n h) (0 : Nat) (some (5 : Nat)))) n (n + (1 : Nat)) ∧ So (Prod.fst j) voteSh xs (Value.slice (some (Addr.mk (AHeap.n h) (0 : Nat) (some (5 : Nat)))) n (n + (1 : Nat))) ids ∧ Fresh (AHeap.n h) (AHeap.n (Prod.fst j)) ids) ∧ ∀ (v : Value) (h_1 : AHeap), False → AHeap.Le h h_1 ∧ AHeap.wf h_1 ∧ ∃ (ids : List Nat), v = Value.slice (some (Addr.mk (AHeap.n h) (0 : Nat) (some (5 : Nat)))) n (n + (1 : Nat)) ∧ So h_1 voteSh xs (Value.slice (some (Addr.mk (AHeap.n h) (0 : Nat) (some (5 : Nat)))) n (n + (1 : Nat))) ids ∧ Fresh (AHeap.n h) (AHeap.n h_1) ids) = _) ?_
    refine ⟨Int.natCast_nonneg _, Int.le_refl _, by omega, (0, _, _, _), rfl, rfl, rfl, rfl, ToI.start hw rfl, ?_, fun _ _ h => h.elim⟩
    rintro ⟨h1, rows, idss⟩ I
    obtain ⟨ids, h2, h3⟩ := ToI.finish I en (n + 1)
    exact ⟨I.le, I.wf, ids, rfl, h2, h3⟩
theorem eqVote_spec (h : AHeap) (x y : voteSh.T) :
    ACall Tryz.prog 100 [.agg #[.int .i64 x.1, .int .i64 x.2.1, .int .i64 x.2.2.1, .string x.2.2.2.1, .int .i64 x.2.2.2.2], .agg #[.int .i64 y.1, .int .i64 y.2.1, .int .i64 y.2.2.1, .string y.2.2.2.1, .int .i64 y.2.2.2.2]] h (.bool (eqb x y)) h := by
  obtain ⟨x1, x2, x3, x4, x5⟩ := x
  obtain ⟨y1, y2, y3, y4, y5⟩ := y
  try dsimp only at *
  refine acall_out (acall_vc (fun _ => false) (fun _ => []) (fun _ => .none) mixed Tryz.func100 rfl rfl rfl (Nat.le_of_ble_eq_true rfl) (by refine vc_mp (by kernel_rfl : (True ∧ (True ∧ (True ∧ True) ∧ True) ∧ (True ∧ (True ∧ True) ∧ True) ∧ (True ∧ (True ∧ True) ∧ True) ∧ (True ∧ (True ∧ True) ∧ True) ∧ (True ∧ (True ∧ True) ∧ True) ∧ True ∧ True) = _) ?_; simp only [and_self]) ?_)
  refine vc_mp (by kernel_rfl : (bs (!decide (x1 = y1)) (Value.bool false = Value.bool (eqb (x1, x2, x3, x4, x5) (y1, y2, y3, y4, y5)) ∧ h = h) (bs (!decide (x2 = y2)) (Value.bool false = Value.bool (eqb (x1, x2, x3, x4, x5) (y1, y2, y3, y4, y5)) ∧ h = h) (bs (!decide (x3 = y3)) (Value.bool false = Value.bool (eqb (x1, x2, x3, x4, x5) (y1, y2, y3, y4, y5)) ∧ h = h) (bs (!decide (x4 = y4)) (Value.bool false = Value.bool (eqb (x1, x2, x3, x4, x5) (y1, y2, y3, y4, y5)) ∧ h = h) (bs (!decide (x5 = y5)) (Value.bool false = Value.bool (eqb (x1, x2, x3, x4, x5) (y1, y2, y3, y4, y5)) ∧ h = h) (Value.bool true = Value.bool (eqb (x1, x2, x3, x4, x5) (y1, y2, y3, y4, y5)) ∧ h = h)))))) = _) ?_
  refine bs_dn (fun e => ⟨congrArg _ (eqb_false fun e' => e (by cases e'; rfl)), rfl⟩) (fun e1 => ?_)
  refine bs_dn (fun e => ⟨congrArg _ (eqb_false fun e' => e (by cases e'; rfl)), rfl⟩) (fun e2 => ?_)
  refine bs_dn (fun e => ⟨congrArg _ (eqb_false fun e' => e (by cases e'; rfl)), rfl⟩) (fun e3 => ?_)
  refine bs_dn (fun e => ⟨congrArg _ (eqb_false fun e' => e (by cases e'; rfl)), rfl⟩) (fun e4 => ?_)
  refine bs_dn (fun e => ⟨congrArg _ (eqb_false fun e' => e (by cases e'; rfl)), rfl⟩) (fun e5 => ?_)
  exact ⟨congrArg _ (eqb_true (Prod.ext e1 (Prod.ext e2 (Prod.ext e3 (Prod.ext e4 e5))))), rfl⟩
theorem eqVoteS_spec (h : AHeap) (a : Option Addr) (n c : Nat) (a' : Option Addr) (n' c' : Nat) (xs ys : List voteSh.T) (hx : Sl h voteSh xs (.slice a n c)) (hy : Sl h voteSh ys (.slice a' n' c')) (ok : xs.length ≤ 9223372036854775807) :
    ACall Tryz.prog 41 [.slice a n c, .slice a' n' c'] h (.bool (eqb xs ys)) h := by
  have en := hx.len
  have en' := hy.len
  have hn : xs.length ≤ 9223372036854775807 := ok
  refine acall_out (acall_vc (fun _ => false) (fun _ => [(0, 0, []), (1, 0, []), (2, 0, []), (4, 0, []), (5, 0, []), (6, 0, []), (3, 1, []), (7, 1, []), (8, 3, []), (9, 0, [])]) (fun _ => eqLp h a n c a' n' c' xs ys) mixed Tryz.func41 rfl rfl rfl (Nat.le_of_ble_eq_true rfl) ?_ ?_)
  · refine vc_mp (by kernel_rfl : (True ∧ (True ∧ (True ∧ True) ∧ True) ∧ (True ∧ (∀ (i : Nat), EqI xs ys i → bs (decide ((↑i : Int) < (↑n : Int))) (∃ (l : Nat), ∃ (r : Nat), a = some (Addr.mk l r (some (5 : Nat))) ∧ (0 : Int) ≤ (↑i : Int) ∧ (↑i : Int) < (↑n : Int) ∧ ∃ (l_1 : Nat), ∃ (r_1 : Nat), a' = some (Addr.mk l_1 r_1 (some (5 : Nat))) ∧ (0 : Int) ≤ (↑i : Int) ∧ (↑i : Int) < (↑n' : Int) ∧ ∃ (x : Int), ∃ (x_1 : Int), ∃ (x_2 : Int), ∃ (x_3 : ByteArray), ∃ (x_4 : Int), AHeap.ld h l (r + Int.toNat (↑i : Int)) (0 : Nat) (5 : Nat) = some [Value.int IntKind.i64 x, Value.int IntKind.i64 x_1, Value.int IntKind.i64 x_2, Value.string x_3, Value.int IntKind.i64 x_4] ∧ ∃ (x_5 : Int), ∃ (x_6 : Int), ∃ (x_7 : Int), ∃ (x_8 : ByteArray), ∃ (x_9 : Int), AHeap.ld h l_1 (r_1 + Int.toNat (↑i : Int)) (0 : Nat) (5 : Nat) = some [Value.int IntKind.i64 x_5, Value.int IntKind.i64 x_6, Value.int IntKind.i64 x_7, Value.string x_8, Value.int IntKind.i64 x_9] ∧ ∃ (x_10 : Bool), ∃ (h' : AHeap), ACall Tryz.prog (100 : Nat) [Value.agg (Array.mk [Value.int IntKind.i64 x, Value.int IntKind.i64 x_1, Value.int IntKind.i64 x_2, Value.string x_3, Value.int IntKind.i64 x_4]), Value.agg (Array.mk [Value.int IntKind.i64 x_5, Value.int IntKind.i64 x_6, Value.int IntKind.i64 x_7, Value.string x_8, Value.int IntKind.i64 x_9])] h (Value.bool x_10) h' ∧ bs (!x_10) (Value.bool false = Value.bool (eqb xs ys) ∧ h' = h) (∃ (j : Nat), Value.slice a n c = Value.slice a n c ∧ Value.slice a' n' c' = Value.slice a' n' c' ∧ Value.int IntKind.i64 (IntKind.wrap IntKind.i64 ((↑i : Int) + (1 : Int))) = Value.int IntKind.i64 (↑j : Int) ∧ h = h' ∧ EqI xs ys j ∧ List.length xs - j < List.length xs - i ∧ (∀ (k : Unit), xs = ys → xs = ys) ∧ ∀ (v : Value) (h_1 : AHeap), v = Value.bool (eqb xs ys) ∧ h_1 = h → v = Value.bool (eqb xs ys) ∧ h_1 = h)) (∃ (j : Unit), h = h ∧ xs = ys)) ∧ (True ∧ True ∧ True) ∧ (True ∧ (True ∧ True) ∧ True) ∧ True) ∧ True ∧ True) = _) ?_
    simp only [true_and, and_true]
    rintro (i : Nat) I
    have hl := I.len
    have hi := I.hi
    refine bs_d (fun hlt => ?_) (fun hge => ?_)
    · have hxi : i < xs.length := by omega
      have hyi : i < ys.length := by omega
      obtain ⟨l, r, row, ha, hin, hrd, hld⟩ := hx.elem (List.getElem?_eq_getElem hxi)
      obtain ⟨l', r', row', ha', hin', hrd', hld'⟩ := hy.elem (List.getElem?_eq_getElem hyi)
      obtain rfl := rd_vote.1 hrd
      obtain rfl := rd_vote.1 hrd'
      refine ⟨l, r, ha, Int.natCast_nonneg _, hlt, l', r', ha', Int.natCast_nonneg _, by omega, _, _, _, _, _, hld, _, _, _, _, _, hld', _, _, eqVote_spec h xs[i] ys[i], bs_nb (fun hb => ?_) (fun hb => ?_)⟩
      · exact ⟨congrArg _ (eqb_false fun e => of_eqb_false hb (by subst e; rfl)), rfl⟩
      · exact ⟨i + 1, by rw [wrap_i64 (by omega)] <;> rfl, rfl, I.step hxi hyi (of_eqb hb), by omega, fun _ h => h, fun _ _ h => h⟩
    · have e : i = xs.length := by omega
      subst e
      exact ⟨(), I.all⟩
  · refine vc_mp (by kernel_rfl : (bs (!decide ((↑n : Int) = (↑n' : Int))) (Value.bool false = Value.bool (eqb xs ys) ∧ h = h) (∃ (i : Nat), Value.slice a n c = Value.slice a n c ∧ Value.slice a' n' c' = Value.slice a' n' c' ∧ Value.int IntKind.i64 (0 : Int) = Value.int IntKind.i64 (↑i : Int) ∧ h = h ∧ EqI xs ys i ∧ (∀ (j : Unit), xs = ys → Value.bool true = Value.bool (eqb xs ys) ∧ h = h) ∧ ∀ (v : Value) (h_1 : AHeap), v = Value.bool (eqb xs ys) ∧ h_1 = h → v = Value.bool (eqb xs ys) ∧ h_1 = h)) = _) ?_
    refine bs_dn (fun hne => ⟨congrArg _ (eqb_false fun e => hne (by rw [← en, ← en', e])), rfl⟩) (fun he => ?_)
    exact ⟨(0 : Nat), rfl, rfl, rfl, rfl, ⟨by omega, Nat.zero_le _, rfl⟩, fun j e => ⟨congrArg _ (eqb_true e), rfl⟩, fun _ _ h => h⟩
theorem szReplica_spec (h : AHeap) (x : replicaSh.T) (left : Int) (v1 : Value) (v2 : Value) (v3 : Value) (v4 : Value) (h1 : Sl h voteSh x.2.2.2.2.1 v1) (h2 : Sl h changeSh x.2.2.2.2.2.1 v2) (h3 : Sl h changeSh x.2.2.2.2.2.2.1.2.2.2.2.2 v3) (h4 : Sl h Sh.str x.2.2.2.2.2.2.2 v4) (hl : 0 ≤ left ∧ left ≤ 1048576) (ok : replicaSh.ok x) :
    ACall Tryz.prog 7 [.agg #[.int .i64 x.1, .int .i64 x.2.1, .bool x.2.2.1, .int .i64 x.2.2.2.1, v1, v2, .int .i64 x.2.2.2.2.2.2.1.1, .int .i64 x.2.2.2.2.2.2.1.2.1, .int .i64 x.2.2.2.2.2.2.1.2.2.1, .int .i64 x.2.2.2.2.2.2.1.2.2.2.1, .string x.2.2.2.2.2.2.1.2.2.2.2.1, v3, v4], .int .i64 left] h (.int .i64 (replicaSh.sz x left)) h := by
  obtain ⟨x1, x2, x3, x4, x5, x6, ⟨x7, x8, x9, x10, x11, x12⟩, x13⟩ := x
  try dsimp only at *
  obtain ⟨a1, c1, rfl⟩ := h1.isSlice
  obtain ⟨a2, c2, rfl⟩ := h2.isSlice
  obtain ⟨a3, c3, rfl⟩ := h3.isSlice
  obtain ⟨a4, c4, rfl⟩ := h4.isSlice
  refine acall_out (acall_vc (fun _ => false) (fun _ => []) (fun _ => .none) mixed Tryz.func7 rfl rfl rfl (Nat.le_of_ble_eq_true rfl) (by refine vc_mp (by kernel_rfl : (True ∧ True ∧ (True ∧ (True ∧ True) ∧ True) ∧ True ∧ (True ∧ (True ∧ True) ∧ True) ∧ True ∧ (True ∧ (True ∧ True) ∧ True) ∧ True ∧ (True ∧ (True ∧ True) ∧ True) ∧ True ∧ True) = _) ?_; simp only [and_self]) ?_)
  refine vc_mp (by kernel_rfl : (∃ (x : Int), ∃ (h' : AHeap), ACall Tryz.prog (29 : Nat) [Value.slice a1 (List.length x5) c1, Value.int IntKind.i64 left] h (Value.int IntKind.i64 x) h' ∧ bs (decide (x < (0 : Int))) (Value.int IntKind.i64 (-1 : Int) = Value.int IntKind.i64 (Sh.sz replicaSh (x1, x2, x3, x4, x5, x6, (x7, x8, x9, x10, x11, x12), x13) left) ∧ h' = h) (∃ (x_1 : Int), ∃ (h'_1 : AHeap), ACall Tryz.prog (30 : Nat) [Value.slice a2 (List.length x6) c2, Value.int IntKind.i64 x] h' (Value.int IntKind.i64 x_1) h'_1 ∧ bs (decide (x_1 < (0 : Int))) (Value.int IntKind.i64 (-1 : Int) = Value.int IntKind.i64 (Sh.sz replicaSh (x1, x2, x3, x4, x5, x6, (x7, x8, x9, x10, x11, x12), x13) left) ∧ h'_1 = h) (∃ (x : Int), ∃ (h' : AHeap), ACall Tryz.prog (21 : Nat) [Value.agg (Array.mk [Value.int IntKind.i64 x7, Value.int IntKind.i64 x8, Value.int IntKind.i64 x9, Value.int IntKind.i64 x10, Value.string x11, Value.slice a3 (List.length x12) c3]), Value.int IntKind.i64 x_1] h'_1 (Value.int IntKind.i64 x) h' ∧ bs (decide (x < (0 : Int))) (Value.int IntKind.i64 (-1 : Int) = Value.int IntKind.i64 (Sh.sz replicaSh (x1, x2, x3, x4, x5, x6, (x7, x8, x9, x10, x11, x12), x13) left) ∧ h' = h) (∃ (x_2 : Int), ∃ (h'_2 : AHeap), ACall Tryz.prog (31 : Nat) [Value.slice a4 (List.length x13) c4, Value.int IntKind.i64 x] h' (Value.int IntKind.i64 x_2) h'_2 ∧ bs (decide (x_2 < (0 : Int))) (Value.int IntKind.i64 (-1 : Int) = Value.int IntKind.i64 (Sh.sz replicaSh (x1, x2, x3, x4, x5, x6, (x7, x8, x9, x10, x11, x12), x13) left) ∧ h'_2 = h) (Value.int IntKind.i64 x_2 = Value.int IntKind.i64 (Sh.sz replicaSh (x1, x2, x3, x4, x5, x6, (x7, x8, x9, x10, x11, x12), x13) left) ∧ h'_2 = h))))) = _) ?_
  have b1 := (Sh.sl voteSh).sz_le x5 left (by omega)
  refine ⟨_, _, szVoteS_spec h a1 _ c1 _ left h1 (by omega) ok.2.2.2.2.1, bs_d (fun e1 => by refine ⟨congrArg _ (Eq.symm ?_), rfl⟩; exact sz_step rfl hl.1 (sz_step rfl hl.1 (sz_step rfl hl.1 (sz_step rfl hl.1 (sz_stop e1))))) (fun e1 => ?_)⟩
  have b2 := (Sh.sl changeSh).sz_le x6 ((Sh.sl voteSh).sz x5 left) (by omega)
  refine ⟨_, _, szChangeS_spec h a2 _ c2 _ ((Sh.sl voteSh).sz x5 left) h2 (by omega) ok.2.2.2.2.2.1, bs_d (fun e2 => by refine ⟨congrArg _ (Eq.symm ?_), rfl⟩; exact sz_step rfl hl.1 (sz_step rfl hl.1 (sz_step rfl hl.1 (sz_step rfl hl.1 (sz_step rfl (Int.not_lt.1 e1) (sz_stop e2)))))) (fun e2 => ?_)⟩
  have b3 := saySh.sz_le (x7, x8, x9, x10, x11, x12) ((Sh.sl changeSh).sz x6 ((Sh.sl voteSh).sz x5 left)) (by omega)
  refine ⟨_, _, szSay_spec h (x7, x8, x9, x10, x11, x12) ((Sh.sl changeSh).sz x6 ((Sh.sl voteSh).sz x5 left)) _ h3 (by omega) ok.2.2.2.2.2.2.1, bs_d (fun e3 => by refine ⟨congrArg _ (Eq.symm ?_), rfl⟩; exact sz_step rfl hl.1 (sz_step rfl hl.1 (sz_step rfl hl.1 (sz_step rfl hl.1 (sz_step rfl (Int.not_lt.1 e1) (sz_step rfl (Int.not_lt.1 e2) (sz_stop e3))))))) (fun e3 => ?_)⟩
  have b4 := (Sh.sl Sh.str).sz_le x13 (saySh.sz (x7, x8, x9, x10, x11, x12) ((Sh.sl changeSh).sz x6 ((Sh.sl voteSh).sz x5 left))) (by omega)
  refine ⟨_, _, szStringS_spec h a4 _ c4 _ (saySh.sz (x7, x8, x9, x10, x11, x12) ((Sh.sl changeSh).sz x6 ((Sh.sl voteSh).sz x5 left))) h4 (by omega) ok.2.2.2.2.2.2.2, bs_d (fun e4 => by refine ⟨congrArg _ (Eq.symm ?_), rfl⟩; exact sz_step rfl hl.1 (sz_step rfl hl.1 (sz_step rfl hl.1 (sz_step rfl hl.1 (sz_step rfl (Int.not_lt.1 e1) (sz_step rfl (Int.not_lt.1 e2) (sz_step rfl (Int.not_lt.1 e3) (sz_neg (Int.not_lt.1 e3) e4)))))))) (fun e4 => ?_)⟩
  refine ⟨congrArg _ (Eq.symm ?_), rfl⟩
  exact sz_step rfl hl.1 (sz_step rfl hl.1 (sz_step rfl hl.1 (sz_step rfl hl.1 (sz_step rfl (Int.not_lt.1 e1) (sz_step rfl (Int.not_lt.1 e2) (sz_step rfl (Int.not_lt.1 e3) (rfl)))))))
theorem toReplica_spec (h : AHeap) (x : replicaSh.T) (v1 : Value) (v2 : Value) (v3 : Value) (v4 : Value) (h1 : Sl h voteSh x.2.2.2.2.1 v1) (h2 : Sl h changeSh x.2.2.2.2.2.1 v2) (h3 : Sl h changeSh x.2.2.2.2.2.2.1.2.2.2.2.2 v3) (h4 : Sl h Sh.str x.2.2.2.2.2.2.2 v4) (hw : h.wf) (ok : replicaSh.small x) :
    ∃ v h', ACall Tryz.prog 9 [.agg #[.int .i64 x.1, .int .i64 x.2.1, .bool x.2.2.1, .int .i64 x.2.2.2.1, v1, v2, .int .i64 x.2.2.2.2.2.2.1.1, .int .i64 x.2.2.2.2.2.2.1.2.1, .int .i64 x.2.2.2.2.2.2.1.2.2.1, .int .i64 x.2.2.2.2.2.2.1.2.2.2.1, .string x.2.2.2.2.2.2.1.2.2.2.2.1, v3, v4]] h v h' ∧ h.Le h' ∧ h'.wf ∧ ∃ w1 w2 w3 w4 ids, v = .agg #[.int .i64 x.1, .int .i64 x.2.1, .bool x.2.2.1, .int .i64 x.2.2.2.1, w1, w2, .int .i64 x.2.2.2.2.2.2.1.1, .int .i64 x.2.2.2.2.2.2.1.2.1, .int .i64 x.2.2.2.2.2.2.1.2.2.1, .int .i64 x.2.2.2.2.2.2.1.2.2.2.1, .string x.2.2.2.2.2.2.1.2.2.2.2.1, w3, w4] ∧ replicaSh.ro h' x [.int .i64 x.1, .int .i64 x.2.1, .bool x.2.2.1, .int .i64 x.2.2.2.1, w1, w2, .int .i64 x.2.2.2.2.2.2.1.1, .int .i64 x.2.2.2.2.2.2.1.2.1, .int .i64 x.2.2.2.2.2.2.1.2.2.1, .int .i64 x.2.2.2.2.2.2.1.2.2.2.1, .string x.2.2.2.2.2.2.1.2.2.2.2.1, w3, w4] ids ∧ Fresh h.n h'.n ids := by
  obtain ⟨x1, x2, x3, x4, x5, x6, ⟨x7, x8, x9, x10, x11, x12⟩, x13⟩ := x
  try dsimp only at *
  obtain ⟨a1, c1, rfl⟩ := h1.isSlice
  obtain ⟨a2, c2, rfl⟩ := h2.isSlice
  obtain ⟨a3, c3, rfl⟩ := h3.isSlice
  obtain ⟨a4, c4, rfl⟩ := h4.isSlice
  refine acall_q fun Q HQ => ?_
  refine acall_vc (fun _ => false) (fun _ => []) (fun _ => .none) mixed Tryz.func9 rfl rfl rfl (Nat.le_of_ble_eq_true rfl) (by refine vc_mp (by kernel_rfl : (True ∧ True ∧ True ∧ True ∧ True ∧ True ∧ True ∧ True ∧ True ∧ True ∧ True ∧ True) = _) ?_; simp only [and_self]) ?_
  refine vc_mp (by kernel_rfl : (∃ (a : Option Addr), ∃ (n : Nat), ∃ (c : Nat), ∃ (h' : AHeap), ACall Tryz.prog (36 : Nat) [Value.slice a1 (List.length x5) c1] h (Value.slice a n c) h' ∧ ∃ (a_1 : Option Addr), ∃ (n_1 : Nat), ∃ (c_1 : Nat), ∃ (h'_1 : AHeap), ACall Tryz.prog (37 : Nat) [Value.slice a2 (List.length x6) c2] h' (Value.slice a_1 n_1 c_1) h'_1 ∧ ∃ (x : Int), ∃ (x_1 : Int), ∃ (x_2 : Int), ∃ (x_3 : Int), ∃ (x_4 : ByteArray), ∃ (a_2 : Option Addr), ∃ (n_2 : Nat), ∃ (c_2 : Nat), ∃ (h' : AHeap), ACall Tryz.prog (23 : Nat) [Value.agg (Array.mk [Value.int IntKind.i64 x7, Value.int IntKind.i64 x8, Value.int IntKind.i64 x9, Value.int IntKind.i64 x10, Value.string x11, Value.slice a3 (List.length x12) c3])] h'_1 (Value.agg (Array.mk [Value.int IntKind.i64 x, Value.int IntKind.i64 x_1, Value.int IntKind.i64 x_2, Value.int IntKind.i64 x_3, Value.string x_4, Value.slice a_2 n_2 c_2])) h' ∧ ∃ (a_3 : Option Addr), ∃ (n_3 : Nat), ∃ (c_3 : Nat), ∃ (h'_2 : AHeap), ACall Tryz.prog (38 : Nat) [Value.slice a4 (List.length x13) c4] h' (Value.slice a_3 n_3 c_3) h'_2 ∧ Q (Value.agg (Array.mk [Value.int IntKind.i64 x1, Value.int IntKind.i64 x2, Value.bool x3, Value.int IntKind.i64 x4, Value.slice a n c, Value.slice a_1 n_1 c_1, Value.int IntKind.i64 x, Value.int IntKind.i64 x_1, Value.int IntKind.i64 x_2, Value.int IntKind.i64 x_3, Value.string x_4, Value.slice a_2 n_2 c_2, Value.slice a_3 n_3 c_3])) h'_2) = _) ?_
  obtain ⟨u1, g1, A1, l1, W1, ids1, rfl, r1, f1⟩ := toVoteS_spec h a1 _ c1 _ hw h1 ok.2.2.2.2.1
  have L1 : h.Le g1 := l1
  obtain ⟨u2, g2, A2, l2, W2, ids2, rfl, r2, f2⟩ := toChangeS_spec g1 a2 _ c2 _ W1 (h2.mono L1) ok.2.2.2.2.2.1
  have L2 : h.Le g2 := L1.trans l2
  obtain ⟨u3, g3, A3, l3, W3, y3_0, ids3, rfl, r3, f3⟩ := toSay_spec g2 (x7, x8, x9, x10, x11, x12) _ (h3.mono L2) W2 ok.2.2.2.2.2.2.1
  obtain ⟨z3_0, ez3, q3_0⟩ := rd_say.1 r3.rd
  cases ez3
  obtain ⟨b3_0, d3_0, rfl⟩ := q3_0.isSlice
  have L3 : h.Le g3 := L2.trans l3
  obtain ⟨u4, g4, A4, l4, W4, ids4, rfl, r4, f4⟩ := toStringS_spec g3 a4 _ c4 _ W3 (h4.mono L3) ok.2.2.2.2.2.2.2
  have L4 : h.Le g4 := L3.trans l4
  refine ⟨_, _, _, _, A1, _, _, _, _, A2, _, _, _, _, _, _, _, _, _, A3, _, _, _, _, A4, HQ _ _ ⟨L4, W4, _, _, _, _, [] ++ ([] ++ ([] ++ ([] ++ (ids1 ++ (ids2 ++ (ids3 ++ (ids4))))))), rfl, ?_, ?_⟩⟩
  · exact ⟨[_], _, [], _, rfl, rfl, ⟨rfl, rfl⟩, [_], _, [], _, rfl, rfl, ⟨rfl, rfl⟩, [_], _, [], _, rfl, rfl, ⟨rfl, rfl⟩, [_], _, [], _, rfl, rfl, ⟨rfl, rfl⟩, [_], _, ids1, _, rfl, rfl, ro_sl.2 ⟨_, rfl, r1.le ((l2.trans l3).trans l4)⟩, [_], _, ids2, _, rfl, rfl, ro_sl.2 ⟨_, rfl, r2.le (l3.trans l4)⟩, [_, _, _, _, _, _], _, ids3, _, rfl, rfl, r3.le l4, ro_sl.2 ⟨_, rfl, r4⟩⟩
  · exact (show Fresh h.n g4.n (ids1 ++ (ids2 ++ (ids3 ++ (ids4)))) from .append l1.n ((l2.trans l3).trans l4).n f1 (.append l2.n (l3.trans l4).n f2 (.append l3.n l4.n f3 (f4))))
theorem eqReplica_spec (h : AHeap) (x y : replicaSh.T) (v1 : Value) (v2 : Value) (v3 : Value) (v4 : Value) (h1 : Sl h voteSh x.2.2.2.2.1 v1) (h2 : Sl h changeSh x.2.2.2.2.2.1 v2) (h3 : Sl h changeSh x.2.2.2.2.2.2.1.2.2.2.2.2 v3) (h4 : Sl h Sh.str x.2.2.2.2.2.2.2 v4) (w1 : Value) (w2 : Value) (w3 : Value) (w4 : Value) (j1 : Sl h voteSh y.2.2.2.2.1 w1) (j2 : Sl h changeSh y.2.2.2.2.2.1 w2) (j3 : Sl h changeSh y.2.2.2.2.2.2.1.2.2.2.2.2 w3) (j4 : Sl h Sh.str y.2.2.2.2.2.2.2 w4) (ok : replicaSh.ok x) :
    ACall Tryz.prog 12 [.agg #[.int .i64 x.1, .int .i64 x.2.1, .bool x.2.2.1, .int .i64 x.2.2.2.1, v1, v2, .int .i64 x.2.2.2.2.2.2.1.1, .int .i64 x.2.2.2.2.2.2.1.2.1, .int .i64 x.2.2.2.2.2.2.1.2.2.1, .int .i64 x.2.2.2.2.2.2.1.2.2.2.1, .string x.2.2.2.2.2.2.1.2.2.2.2.1, v3, v4], .agg #[.int .i64 y.1, .int .i64 y.2.1, .bool y.2.2.1, .int .i64 y.2.2.2.1, w1, w2, .int .i64 y.2.2.2.2.2.2.1.1, .int .i64 y.2.2.2.2.2.2.1.2.1, .int .i64 y.2.2.2.2.2.2.1.2.2.1, .int .i64 y.2.2.2.2.2.2.1.2.2.2.1, .string y.2.2.2.2.2.2.1.2.2.2.2.1, w3, w4]] h (.bool (eqb x y)) h := by
  obtain ⟨x1, x2, x3, x4, x5, x6, ⟨x7, x8, x9, x10, x11, x12⟩, x13⟩ := x
  obtain ⟨y1, y2, y3, y4, y5, y6, ⟨y7, y8, y9, y10, y11, y12⟩, y13⟩ := y
  try dsimp only at *
  obtain ⟨a1, c1, rfl⟩ := h1.isSlice
  obtain ⟨a2, c2, rfl⟩ := h2.isSlice
  obtain ⟨a3, c3, rfl⟩ := h3.isSlice
  obtain ⟨a4, c4, rfl⟩ := h4.isSlice
  obtain ⟨ab1, cb1, rfl⟩ := j1.isSlice
  obtain ⟨ab2, cb2, rfl⟩ := j2.isSlice
  obtain ⟨ab3, cb3, rfl⟩ := j3.isSlice
  obtain ⟨ab4, cb4, rfl⟩ := j4.isSlice
  refine acall_out (acall_vc (fun _ => false) (fun _ => []) (fun _ => .none) mixed Tryz.func12 rfl rfl rfl (Nat.le_of_ble_eq_true rfl) (by refine vc_mp (by kernel_rfl : (True ∧ (True ∧ (True ∧ True) ∧ True) ∧ (True ∧ (True ∧ True) ∧ True) ∧ (True ∧ (True ∧ True) ∧ True) ∧ (True ∧ (True ∧ True) ∧ True) ∧ (True ∧ (True ∧ True) ∧ True) ∧ (True ∧ (True ∧ True) ∧ True) ∧ (True ∧ (True ∧ True) ∧ True) ∧ (True ∧ (True ∧ True) ∧ True) ∧ True ∧ True) = _) ?_; simp only [and_self]) ?_)
  refine vc_mp (by kernel_rfl : (bs (!decide (x1 = y1)) (Value.bool false = Value.bool (eqb (x1, x2, x3, x4, x5, x6, (x7, x8, x9, x10, x11, x12), x13) (y1, y2, y3, y4, y5, y6, (y7, y8, y9, y10, y11, y12), y13)) ∧ h = h) (bs (!decide (x2 = y2)) (Value.bool false = Value.bool (eqb (x1, x2, x3, x4, x5, x6, (x7, x8, x9, x10, x11, x12), x13) (y1, y2, y3, y4, y5, y6, (y7, y8, y9, y10, y11, y12), y13)) ∧ h = h) (bs (!decide (x3 = y3)) (Value.bool false = Value.bool (eqb (x1, x2, x3, x4, x5, x6, (x7, x8, x9, x10, x11, x12), x13) (y1, y2, y3, y4, y5, y6, (y7, y8, y9, y10, y11, y12), y13)) ∧ h = h) (bs (!decide (x4 = y4)) (Value.bool false = Value.bool (eqb (x1, x2, x3, x4, x5, x6, (x7, x8, x9, x10, x11, x12), x13) (y1, y2, y3, y4, y5, y6, (y7, y8, y9, y10, y11, y12), y13)) ∧ h = h) (∃ (x : Bool), ∃ (h' : AHeap), ACall Tryz.prog (41 : Nat) [Value.slice a1 (List.length x5) c1, Value.slice ab1 (List.length y5) cb1] h (Value.bool x) h' ∧ bs (!x) (Value.bool false = Value.bool (eqb (x1, x2, x3, x4, x5, x6, (x7, x8, x9, x10, x11, x12), x13) (y1, y2, y3, y4, y5, y6, (y7, y8, y9, y10, y11, y12), y13)) ∧ h' = h) (∃ (x : Bool), ∃ (h'_1 : AHeap), ACall Tryz.prog (42 : Nat) [Value.slice a2 (List.length x6) c2, Value.slice ab2 (List.length y6) cb2] h' (Value.bool x) h'_1 ∧ bs (!x) (Value.bool false = Value.bool (eqb (x1, x2, x3, x4, x5, x6, (x7, x8, x9, x10, x11, x12), x13) (y1, y2, y3, y4, y5, y6, (y7, y8, y9, y10, y11, y12), y13)) ∧ h'_1 = h) (∃ (x : Bool), ∃ (h' : AHeap), ACall Tryz.prog (25 : Nat) [Value.agg (Array.mk [Value.int IntKind.i64 x7, Value.int IntKind.i64 x8, Value.int IntKind.i64 x9, Value.int IntKind.i64 x10, Value.string x11, Value.slice a3 (List.length x12) c3]), Value.agg (Array.mk [Value.int IntKind.i64 y7, Value.int IntKind.i64 y8, Value.int IntKind.i64 y9, Value.int IntKind.i64 y10, Value.string y11, Value.slice ab3 (List.length y12) cb3])] h'_1 (Value.bool x) h' ∧ bs (!x) (Value.bool false = Value.bool (eqb (x1, x2, x3, x4, x5, x6, (x7, x8, x9, x10, x11, x12), x13) (y1, y2, y3, y4, y5, y6, (y7, y8, y9, y10, y11, y12), y13)) ∧ h' = h) (∃ (x : Bool), ∃ (h'_2 : AHeap), ACall Tryz.prog (43 : Nat) [Value.slice a4 (List.length x13) c4, Value.slice ab4 (List.length y13) cb4] h' (Value.bool x) h'_2 ∧ bs (!x) (Value.bool false = Value.bool (eqb (x1, x2, x3, x4, x5, x6, (x7, x8, x9, x10, x11, x12), x13) (y1, y2, y3, y4, y5, y6, (y7, y8, y9, y10, y11, y12), y13)) ∧ h'_2 = h) (Value.bool true = Value.bool (eqb (x1, x2, x3, x4, x5, x6, (x7, x8, x9, x10, x11, x12), x13) (y1, y2, y3, y4, y5, y6, (y7, y8, y9, y10, y11, y12), y13)) ∧ h'_2 = h))))))))) = _) ?_
  refine bs_dn (fun e => ⟨congrArg _ (eqb_false fun e' => e (by cases e'; rfl)), rfl⟩) (fun e1 => ?_)
  refine bs_dn (fun e => ⟨congrArg _ (eqb_false fun e' => e (by cases e'; rfl)), rfl⟩) (fun e2 => ?_)
  refine bs_dn (fun e => ⟨congrArg _ (eqb_false fun e' => e (by cases e'; rfl)), rfl⟩) (fun e3 => ?_)
  refine bs_dn (fun e => ⟨congrArg _ (eqb_false fun e' => e (by cases e'; rfl)), rfl⟩) (fun e4 => ?_)
  refine ⟨_, _, eqVoteS_spec h a1 _ c1 ab1 _ cb1 _ _ h1 j1 ok.2.2.2.2.1.1, bs_nb (fun e => ⟨congrArg _ (eqb_false fun e' => of_eqb_false e (by cases e'; rfl)), rfl⟩) (fun e5 => ?_)⟩
  refine ⟨_, _, eqChangeS_spec h a2 _ c2 ab2 _ cb2 _ _ h2 j2 ok.2.2.2.2.2.1, bs_nb (fun e => ⟨congrArg _ (eqb_false fun e' => of_eqb_false e (by cases e'; rfl)), rfl⟩) (fun e6 => ?_)⟩
  refine ⟨_, _, eqSay_spec h (x7, x8, x9, x10, x11, x12) (y7, y8, y9, y10, y11, y12) _ h3 _ j3 ok.2.2.2.2.2.2.1, bs_nb (fun e => ⟨congrArg _ (eqb_false fun e' => of_eqb_false e (by cases e'; rfl)), rfl⟩) (fun e7 => ?_)⟩
  refine ⟨_, _, eqStringS_spec h a4 _ c4 ab4 _ cb4 _ _ h4 j4 ok.2.2.2.2.2.2.2.1, bs_nb (fun e => ⟨congrArg _ (eqb_false fun e' => of_eqb_false e (by cases e'; rfl)), rfl⟩) (fun e8 => ?_)⟩
  exact ⟨congrArg _ (eqb_true (Prod.ext e1 (Prod.ext e2 (Prod.ext e3 (Prod.ext e4 (Prod.ext (of_eqb e5) (Prod.ext (of_eqb e6) (Prod.ext (of_eqb e7) (of_eqb e8))))))))), rfl⟩
end Go.Proofs.YtpgfjadjhliohaaGreat
