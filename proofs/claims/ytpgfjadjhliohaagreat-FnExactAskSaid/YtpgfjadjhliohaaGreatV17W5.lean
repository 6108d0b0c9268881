/- W5. -/
import Derived.Test.YtpgfjadjhliohaaGreatV17W4
namespace Go.Proofs.YtpgfjadjhliohaaGreat
open Go.Abs Go.Dat
set_option maxRecDepth 100000
set_option maxHeartbeats 8000000
def len8Tab : ByteArray := ByteArray.mk (Array.mk [0, 1, 2, 2, 3, 3, 3, 3, 4, 4, 4, 4, 4, 4, 4, 4, 5, 5, 5, 5, 5, 5, 5, 5, 5, 5, 5, 5, 5, 5, 5, 5, 6, 6, 6, 6, 6, 6, 6, 6, 6, 6, 6, 6, 6, 6, 6, 6, 6, 6, 6, 6, 6, 6, 6, 6, 6, 6, 6, 6, 6, 6, 6, 6, 7, 7, 7, 7, 7, 7, 7, 7, 7, 7, 7, 7, 7, 7, 7, 7, 7, 7, 7, 7, 7, 7, 7, 7, 7, 7, 7, 7, 7, 7, 7, 7, 7, 7, 7, 7, 7, 7, 7, 7, 7, 7, 7, 7, 7, 7, 7, 7, 7, 7, 7, 7, 7, 7, 7, 7, 7, 7, 7, 7, 7, 7, 7, 7, 8, 8, 8, 8, 8, 8, 8, 8, 8, 8, 8, 8, 8, 8, 8, 8, 8, 8, 8, 8, 8, 8, 8, 8, 8, 8, 8, 8, 8, 8, 8, 8, 8, 8, 8, 8, 8, 8, 8, 8, 8, 8, 8, 8, 8, 8, 8, 8, 8, 8, 8, 8, 8, 8, 8, 8, 8, 8, 8, 8, 8, 8, 8, 8, 8, 8, 8, 8, 8, 8, 8, 8, 8, 8, 8, 8, 8, 8, 8, 8, 8, 8, 8, 8, 8, 8, 8, 8, 8, 8, 8, 8, 8, 8, 8, 8, 8, 8, 8, 8, 8, 8, 8, 8, 8, 8, 8, 8, 8, 8, 8, 8, 8, 8, 8, 8, 8, 8, 8, 8, 8, 8, 8, 8, 8, 8, 8, 8])
def Q6k (a b c d e : Prop) := a ∧ b ∧ c ∧ d ∧ e
def Q6l := True ∧ True
def Q6m := True ∧ Q6l ∧ True
def Q6n (a : Int) := 0 ≤ a
def Q6o (a : Int) := IntKind.wrap IntKind.u8 a
def Q6p := (↑(ByteArray.size len8Tab) : Int)
def Q6q (a : Bool) (b c : Int) (d : Prop) (e : Int) (f g : Prop) := bs a (Q6n 8 ∧ Q6n b ∧ c < Q6p ∧ d) (Q6n (Q6o e) ∧ f ∧ g)
def Q6r (a : Int) := Value.int IntKind.i64 a
def Q6s (a b : Int) := Q6r a = Q6r b
def Q6t (a : Int) := IntKind.wrap IntKind.i64 a
def Q6u (a b c : Int) (d e : AHeap) := Q6s (Q6t (a + Q6t (byteAt len8Tab b))) c ∧ d = e
def Q6v (a b : Int) := Int.fdiv a (HPow.hPow 2 (min (Int.toNat b) (IntKind.bits IntKind.u64)))
def Q6w (a : Nat) := Q6v (↑a : Int) 8
def Q6x (a : Int) := Q6t (a + 8)
def Q6y (a : Nat) := Q6v (↑a : Int) 16
def Q6z (a : Int) := Q6t (a + 16)
def Q70 (a : Int) := Q6o (Q6v a 8)
def Q71 := (32 : Int)
def Q72 (a : Nat) := Q6v (↑a : Int) Q71
def Q73 (a : Nat) := Q6v (Q72 a) 16
theorem bitsLen64_spec (h : AHeap) (n : Nat) (hn : n ≤ 12) : ∃ r : Int, ACall Tryz.prog 187 [.int .u64 n] h (.int .i64 r) h := by
  have : ∃ v h', ACall Tryz.prog 187 [.int .u64 n] h v h' ∧ ∃ r : Int, v = .int .i64 r ∧ h' = h := by
    refine acall_vc (fun _ => false) (fun _ => []) (fun _ => .none) mixed Tryz.func187 rfl rfl rfl (Nat.le_of_ble_eq_true rfl) (by (refine vc_mp (by kernel_rfl : (Q6k True Q6m Q6m Q6m Q6l) = _) ?_; delta Q6k Q6l Q6m); simp only [and_self]) ?_
    (refine vc_mp (by kernel_rfl : (bs (decide ((↑n : Int) ≥ 4294967296)) (Q6n Q71 ∧ bs (decide (Q72 n ≥ 65536)) (Q6n 16 ∧ Q6q (decide (Q73 n ≥ 256)) (Q70 (Q73 n)) (Q70 (Q73 n)) (∃ (r : Int), Q6u (Q6x (Q6z Q71)) (Q70 (Q73 n)) r h h) (Q73 n) (Q6o (Q73 n) < Q6p) (∃ (r : Int), Q6u (Q6z Q71) (Q6o (Q73 n)) r h h)) (Q6q (decide (Q72 n ≥ 256)) (Q70 (Q72 n)) (Q70 (Q72 n)) (∃ (r : Int), Q6u (Q6x Q71) (Q70 (Q72 n)) r h h) (Q72 n) (Q6o (Q72 n) < Q6p) (∃ (r : Int), Q6u Q71 (Q6o (Q72 n)) r h h))) (bs (decide ((↑n : Int) ≥ 65536)) (Q6n 16 ∧ Q6q (decide (Q6y n ≥ 256)) (Q70 (Q6y n)) (Q70 (Q6y n)) (∃ (r : Int), Q6u (Q6x (Q6z 0)) (Q70 (Q6y n)) r h h) (Q6y n) (Q6o (Q6y n) < Q6p) (∃ (r : Int), Q6u (Q6z 0) (Q6o (Q6y n)) r h h)) (Q6q (decide ((↑n : Int) ≥ 256)) (Q6o (Q6w n)) (Q6o (Q6w n)) (∃ (r : Int), Q6u (Q6x 0) (Q6o (Q6w n)) r h h) (↑n : Int) (Q6o (↑n : Int) < Q6p) (∃ (r : Int), Q6u 0 (Q6o (↑n : Int)) r h h)))) = _) ?_; delta Q6n Q6o Q6p Q6q Q6r Q6s Q6t Q6u Q6v Q6w Q6x Q6y Q6z Q70 Q71 Q72 Q73)
    refine bs_d (fun e => absurd e (by omega)) (fun _ => bs_d (fun e => absurd e (by omega)) (fun _ => bs_d (fun e => absurd e (by omega)) (fun _ => ⟨by rw [wrap_u8]; omega, by rw [wrap_u8]; exact Int.lt_of_lt_of_le (b := 13) (by omega) (by decide), _, rfl, rfl⟩)))
  obtain ⟨_, g, A, r, rfl, eg⟩ := this
  rw [eg] at A
  exact ⟨r, A⟩
theorem bitsLen_spec (h : AHeap) (n : Nat) (hn : n ≤ 12) : ∃ r : Int, ACall Tryz.prog 175 [.int .u64 n] h (.int .i64 r) h := by
  obtain ⟨r, A⟩ := bitsLen64_spec h n hn
  refine ⟨r, acall_out (acall_vc (fun _ => false) (fun _ => []) (fun _ => .none) mixed Tryz.func175 rfl rfl rfl (Nat.le_of_ble_eq_true rfl) (by (refine vc_mp (by kernel_rfl : (True ∧ (Q6l ∧ True) ∧ Q6l) = _) ?_; delta Q6l); simp only [and_self]) ?_)⟩
  (refine vc_mp (by kernel_rfl : (∃ (x : Int) (h' : AHeap), ACall Tryz.prog 187 [Value.int IntKind.u64 (↑n : Int)] h (Q6r x) h' ∧ Q6s x r ∧ h' = h) = _) ?_; delta Q6r Q6s)
  exact ⟨_, _, A, rfl, rfl⟩
theorem u64_id {n : Int} (h : 0 ≤ n ∧ n < 18446744073709551616) : IntKind.u64.wrap n = n := by
  have e : IntKind.u64.wrap n = if (false && decide (n % 18446744073709551616 ≥ 9223372036854775808)) = true then n % 18446744073709551616 - 18446744073709551616 else n % 18446744073709551616 := rfl
  rw [e]; simp only [Bool.false_and, Bool.false_eq_true, if_false]; omega
def Q74 := True ∧ True ∧ True
def Q75 (a b : Bool) (c d : AHeap) := Value.bool a = Value.bool b ∧ c = d
theorem nanNum_spec (h : AHeap) (x : Int) : ACall Tryz.prog 206 [.int .i64 x] h (.bool false) h := by
  refine acall_out (acall_vc (fun _ => false) (fun _ => []) (fun _ => .none) mixed Tryz.func206 rfl rfl rfl (Nat.le_of_ble_eq_true rfl) (by (refine vc_mp (by kernel_rfl : (Q74) = _) ?_; delta Q74); simp only [and_self]) ?_)
  (refine vc_mp (by kernel_rfl : (Q75 (not (decide (x = x))) false h h) = _) ?_; delta Q75)
  exact ⟨by rw [decide_eq_true rfl]; rfl, rfl⟩
def Q76 (a : FuncId) (b : List Value) (c : AHeap) (d : Bool) (e : AHeap) (f : Bool) (g h : Prop) := ACall Tryz.prog a b c (Value.bool d) e ∧ bs f g h
theorem lessNum_spec (h : AHeap) (x y : Int) : ACall Tryz.prog 194 [.int .i64 x, .int .i64 y] h (.bool ((fun a b : Int => decide (a < b)) x y)) h := by
  refine acall_out (acall_vc (fun _ => false) (fun _ => []) (fun _ => .none) mixed Tryz.func194 rfl rfl rfl (Nat.le_of_ble_eq_true rfl) (by (refine vc_mp (by kernel_rfl : (Q74) = _) ?_; delta Q74); simp only [and_self]) ?_)
  (refine vc_mp (by kernel_rfl : (∃ (x_1 : Bool) (h' : AHeap), Q76 206 [Q6r x] h x_1 h' x_1 (∃ (x_2 : Bool) (h'_1 : AHeap), Q76 206 [Q6r y] h' x_2 h'_1 (not x_2) (Value.bool true = Value.bool (decide (x < y)) ∧ h'_1 = h) (Q75 (decide (x < y)) (decide (x < y)) h'_1 h)) (Q75 (decide (x < y)) (decide (x < y)) h' h)) = _) ?_; delta Q6r Q75 Q76)
  refine ⟨_, _, nanNum_spec _ _, bs_b (fun e => by cases e) (fun _ => ?_)⟩
  exact ⟨rfl, rfl⟩
structure InsNum (xs : List Int) (i : Nat) (ys : List Int) : Prop where
  perm : ys.Perm xs
  ord : sortInt.OI ys i
structure InJNum (xs : List Int) (i j : Nat) (ys : List Int) : Prop where
  perm : ys.Perm xs
  hj : j ≤ i
  hi : i < xs.length
  ord : sortInt.OJ ys i j
def isNumL (h : AHeap) (l c : Nat) (xs : List Int) : Nat → LSpec
  | 0 => {
    ι := Nat × List Int
    κ := Nat × List Int
    I := fun i => InsNum xs i.1 i.2 ∧ 1 ≤ i.1 ∧ (i.1 ≤ xs.length ∨ i.1 = 1)
    μ := fun i => xs.length - i.1
    head := fun i => ⟨[(0, .slice (some ⟨l, 0, some 1⟩) xs.length c), (1, .int .i64 0), (2, .int .i64 xs.length), (6, .int .i64 i.1)], [], h.put l (some (numO i.2))⟩
    post := fun i => ⟨[], [], h.put l (some (numO i.2))⟩
    R := fun _ i => InsNum xs i.1 i.2 ∧ xs.length ≤ i.1
    ret := fun _ _ _ => False }
  | _ => {
    ι := Nat × Nat × List Int
    κ := Nat × List Int
    I := fun i => InJNum xs i.1 i.2.1 i.2.2
    μ := fun i => i.2.1
    head := fun i => ⟨[(0, .slice (some ⟨l, 0, some 1⟩) xs.length c), (1, .int .i64 0), (2, .int .i64 xs.length), (6, .int .i64 i.1), (7, .int .i64 i.2.1)], [], h.put l (some (numO i.2.2))⟩
    post := fun i => ⟨[(0, .slice (some ⟨l, 0, some 1⟩) xs.length c), (1, .int .i64 0), (2, .int .i64 xs.length), (6, .int .i64 i.1)], [], h.put l (some (numO i.2))⟩
    R := fun i k => k.1 = i.1 ∧ InsNum xs (i.1 + 1) k.2
    ret := fun _ _ _ => False }
def Q77 (a b : Prop) := Q6k True a Q74 (Q6k True b Q74 True True) True
def Q78 (a : Nat × List Int) := (↑(Prod.fst a) : Int)
def Q79 (a : List Int) := (↑(List.length a) : Int)
def Q7a := Q6r 0 = Q6r 0
def Q7b (a : Nat) := Addr.mk a 0 (some 1)
def Q7c (a : Nat) (b : List Int) (c : Nat) := Value.slice (some (Q7b a)) (List.length b) c
def Q7d (a : Nat) (b : List Int) (c d : Nat) (e : List Int) (f : Nat) (g h : List Int) (i : Int) (j : Nat × List Int) (k l m : Prop) := Q6k (Q7c a b c = Q7c d e f) Q7a (Q6s (Q79 g) (Q79 h)) (Q6s i (Q78 j)) (k ∧ l ∧ m)
def Q7e (a : List Int) (b : Nat × Nat × List Int) (c : Nat × List Int) := InsNum a (Prod.fst b + 1) (Prod.snd c)
def Q7f (a : Nat × List Int) (b : Nat × Nat × List Int) := Prod.fst a = Prod.fst b
def Q7g (a : AHeap) (b : Nat) (c : List Int) := AHeap.put a b (some (numO c))
def Q7h (a : AHeap) (b : Nat) (c : Nat × List Int) := Q7g a b (Prod.snd c)
def Q7i (a : AHeap) (b : Nat) (c : Nat × Nat × List Int) := Q7h a b (Prod.snd c)
def Q7j (a : Nat × Nat × List Int) := (↑(Prod.fst a) : Int)
def Q7k (a : Option Addr) (b c : Nat) (d e f : Int) (g : Prop) := a = some (Addr.mk b c (some 1)) ∧ Q6n d ∧ e < f ∧ g
def Q7l (a : AHeap) (b c : Nat) (d : Int) (e : List Value) (f : Prop) := AHeap.ld a b (c + Int.toNat d) 0 1 = some e ∧ f
def Q7m (a : AHeap) (b c : Nat) (d : Int) (e : List Value) (f : AHeap) (g : Prop) := AHeap.wr a b (c + Int.toNat d) 0 e = some f ∧ g
def Q7n (a b : Value) (c d e f : Int) (g h i j k : Prop) := Q6k (a = b) Q7a (Q6s c d) (Q6s e f) (Q6k g h i j k)
def Q7o := False → False
def Q7p (a : Nat × Nat × List Int) := Prod.fst (Prod.snd a)
def Q7q (a : List Int) (b c d : Nat × Nat × List Int) := InJNum a (Prod.fst b) (Q7p c) (Prod.snd (Prod.snd d))
def Q7r (a : Nat × Nat × List Int) := (↑(Q7p a) : Int)
def Q7s := (1 : Int)
def Q7t (a : Nat × Nat × List Int) := Q6t (Q7r a - Q7s)
def Q7u (a : List Int) (b : Nat × List Int) := List.length a ≤ Prod.fst b
def Q7v (a : List Int) (b c : Nat × List Int) := InsNum a (Prod.fst b) (Prod.snd c)
def Q7w (a : List Int) (b c d : Nat × List Int) (e : Prop) := Q7v a b c ∧ 1 ≤ Prod.fst d ∧ e
def Q7x (a : Nat × List Int) := Prod.fst a = 1
def Q7y := Value.tuple (Array.mk List.nil)
def Q7z := Q6t (0 + Q7s)
theorem insertNum_spec (h : AHeap) (l c : Nat) (xs : List Int) (hn : xs.length ≤ 12) :
    ∃ v h', ACall Tryz.prog 188 [.slice (some ⟨l, 0, some 1⟩) xs.length c, .int .i64 0, .int .i64 xs.length] (h.put l (some (numO xs))) v h' ∧ v = .tuple #[] ∧ ∃ ys, h' = h.put l (some (numO ys)) ∧ ys.Perm xs ∧ ∃ m, xs.length ≤ m ∧ sortInt.OI ys m := by
  refine acall_q fun Q HQ => ?_
  refine acall_vc (fun _ => false) (fun r => match r with | 4 => [(0, 0, []), (1, 0, []), (2, 0, []), (3, 0, []), (4, 0, []), (5, 0, []), (6, 0, []), (8, 0, []), (9, 0, []), (10, 0, []), (11, 0, []), (7, 1, []), (12, 1, []), (13, 3, []), (14, 0, [])] | 6 => [(0, 0, []), (1, 0, []), (2, 0, []), (3, 0, []), (4, 0, []), (5, 0, []), (6, 0, []), (7, 0, []), (8, 0, []), (10, 0, []), (11, 0, []), (12, 0, []), (9, 1, []), (13, 1, []), (14, 0, []), (15, 3, []), (16, 0, []), (17, 3, [])] | _ => []) (isNumL h l c xs) mixed Tryz.func188 rfl rfl rfl (Nat.le_of_ble_eq_true rfl) ?_ ?_
  · (refine vc_mp (by kernel_rfl : (Q77 (∀ (i : Nat × List Int), Q7w xs i i i (Prod.fst i ≤ List.length xs ∨ Q7x i) → bs (decide (Q78 i < Q79 xs)) (∃ (i_1 : Nat × Nat × List Int), Q7n (Q7c l xs c) (Q7c l xs c) (Q79 xs) (Q79 xs) (Q78 i) (Q7j i_1) (Q6s (Q78 i) (Q7r i_1)) (Q7i h l i_1 = Q7h h l i) (Q7q xs i_1 i_1 i_1) (∀ (j : Nat × List Int), Q7f j i_1 ∧ Q7e xs i_1 j → (∃ (j_1 : Nat × List Int), Q7n (Q7c l xs c) (Q7c l xs c) (Q79 xs) (Q79 xs) (Q6t (Q78 j + Q7s)) (Q78 j_1) (Q7h h l j_1 = Q7h h l j) (Q7w xs j_1 j_1 j_1 (Prod.fst j_1 ≤ List.length xs ∨ Q7x j_1)) (List.length xs - Prod.fst j_1 < List.length xs - Prod.fst i) (∀ (k : Nat × List Int), Q7v xs k k ∧ Q7u xs k → Q7v xs k k ∧ Q7u xs k) (∀ (v : Value) (h : AHeap), Q7o))) (∀ (v : Value) (h : AHeap), Q7o)) (∃ (j : Nat × List Int), Q7h h l j = Q7h h l i ∧ Q7v xs j j ∧ Q7u xs j)) (∀ (i : Nat × Nat × List Int), Q7q xs i i i → bs (decide (Q7r i > 0)) (∃ (l_1 r : Nat), Q7k (some (Q7b l)) l_1 r (Q7r i) (Q7r i) (Q79 xs) (∃ (l_2 r_1 : Nat), Q7k (some (Q7b l)) l_2 r_1 (Q7t i) (Q7t i) (Q79 xs) (∃ (x : Int), Q7l (Q7i h l i) l_1 r (Q7r i) [Q6r x] (∃ (x_1 : Int), Q7l (Q7i h l i) l_2 r_1 (Q7t i) [Q6r x_1] (∃ (x_2 : Bool) (h' : AHeap), Q76 194 [Q6r x, Q6r x_1] (Q7i h l i) x_2 h' x_2 (∃ (l_3 r : Nat), Q7k (some (Q7b l)) l_3 r (Q7t i) (Q7t i) (Q79 xs) (∃ (l_4 r_2 : Nat), Q7k (some (Q7b l)) l_4 r_2 (Q7r i) (Q7r i) (Q79 xs) (∃ (x : Int), Q7l h' l_3 r (Q7t i) [Q6r x] (∃ (x_3 : Int), Q7l h' l_4 r_2 (Q7r i) [Q6r x_3] (∃ (l_5 r : Nat), Q7k (some (Q7b l)) l_5 r (Q7r i) (Q7r i) (Q79 xs) (∃ (h'_1 : AHeap), Q7m h' l_5 r (Q7r i) [Q6r x] h'_1 (∃ (l_6 r : Nat), Q7k (some (Q7b l)) l_6 r (Q7t i) (Q7t i) (Q79 xs) (∃ (h' : AHeap), Q7m h'_1 l_6 r (Q7t i) [Q6r x_3] h' (∃ (j : Nat × Nat × List Int), Q7n (Q7c l xs c) (Q7c l xs c) (Q79 xs) (Q79 xs) (Q7j i) (Q7j j) (Q6s (Q7t i) (Q7r j)) (Q7i h l j = h') (Q7q xs j j j) (Q7p j < Q7p i) ((∀ (k : Nat × List Int), Q7f k j ∧ Q7e xs j k → Q7f k i ∧ Q7e xs i k) ∧ (∀ (v : Value) (h : AHeap), Q7o))))))))))) (∃ (j : Nat × List Int), Q7d l xs c l xs c xs xs (Q7j i) j (Q7h h l j = h') (Q7f j i) (Q7e xs i j))))))) (∃ (j : Nat × List Int), Q7d l xs c l xs c xs xs (Q7j i) j (Q7h h l j = Q7i h l i) (Q7f j i) (Q7e xs i j)))) = _) ?_; delta Q6k Q6n Q6r Q6s Q6t Q74 Q76 Q77 Q78 Q79 Q7a Q7b Q7c Q7d Q7e Q7f Q7g Q7h Q7i Q7j Q7k Q7l Q7m Q7n Q7o Q7p Q7q Q7r Q7s Q7t Q7u Q7v Q7w Q7x)
    simp only [true_and, and_true]
    refine ⟨fun ⟨i, ys⟩ ⟨I, h1, h2⟩ => ?_, fun ⟨i, j, ys⟩ J => ?_⟩
    · dsimp only at *
      refine bs_d (fun hlt => ⟨(i, i, ys), rfl, rfl, rfl, ⟨I.perm, Nat.le_refl _, by omega, sortInt.i2j _ _ I.ord⟩, fun ⟨i', ys'⟩ ⟨e, I'⟩ => ?_, fun _ _ h => h⟩) (fun hge => ⟨(i, ys), rfl, I, by omega⟩)
      dsimp only at e I'
      subst e
      exact ⟨(i' + 1, ys'), by rw [wrap_i64 (by omega)]; rfl, rfl, ⟨I', by dsimp only; omega, .inl (by dsimp only; omega)⟩, by dsimp only; omega, fun _ h => h, fun _ _ h => h⟩
    · have hl := J.perm.length_eq
      have hji := J.hj
      have hin := J.hi
      dsimp only at *
      refine bs_d (fun hlt => ?_) (fun hge => ⟨(i, ys), rfl, rfl, rfl, J.perm, sortInt.fin0 ys i ((show j = 0 by omega) ▸ (show sortInt.OJ ys i j from J.ord))⟩)
      rw [wrap_pred (i := j) (by omega) (by omega)]
      obtain ⟨a, ha⟩ : ∃ y, ys[j - 1]? = some y := ⟨_, List.getElem?_eq_getElem (by omega)⟩
      obtain ⟨b, hb⟩ : ∃ y, ys[j]? = some y := ⟨_, List.getElem?_eq_getElem (by omega)⟩
      refine ⟨l, 0, rfl, Int.natCast_nonneg _, by omega, l, 0, rfl, Int.natCast_nonneg _, by omega, _, num_ld hb, _, num_ld ha, _, _, lessNum_spec _ b a, bs_of (fun e => ?_) (fun e => ⟨(i, ys), rfl, rfl, rfl, J.perm, sortInt.fin ys i j a b J.ord (by omega) J.hj ha hb e⟩)⟩
      refine ⟨l, 0, rfl, Int.natCast_nonneg _, by omega, l, 0, rfl, Int.natCast_nonneg _, by omega, _, num_ld ha, _, num_ld hb, ?_⟩
      refine ⟨l, 0, rfl, Int.natCast_nonneg _, by omega, _, num_wr a (by omega), l, 0, rfl, Int.natCast_nonneg _, by omega, _, num_wr b (by rw [List.length_set]; omega), ?_⟩
      refine ⟨(i, j - 1, (ys.set j a).set (j - 1) b), rfl, rfl, rfl, ⟨(swap_perm (by omega) ha hb).trans J.perm, by dsimp only; omega, hin, sortInt.step ys i j a b J.ord (by omega) hji ha hb e⟩, by dsimp only; omega, fun _ h => h, fun _ _ h => h⟩
  (refine vc_mp (by kernel_rfl : (∃ (i : Nat × List Int), Q7d l xs c l xs c xs xs Q7z i (Q7h h l i = Q7g h l xs) (Q7w xs i i i (Prod.fst i ≤ List.length xs ∨ Q7x i)) ((∀ (j : Nat × List Int), Q7v xs j j ∧ Q7u xs j → Q Q7y (Q7h h l j)) ∧ (∀ (v : Value) (h : AHeap), False → Q v h))) = _) ?_; delta Q6k Q6r Q6s Q6t Q78 Q79 Q7a Q7b Q7c Q7d Q7g Q7h Q7s Q7u Q7v Q7w Q7x Q7y Q7z)
  refine ⟨(1, xs), rfl, rfl, rfl, by rw [wrap_i64 (by omega)]; rfl, rfl, ⟨⟨.refl _, sortInt.start xs⟩, Nat.le_refl _, .inr rfl⟩, fun ⟨m, ys⟩ ⟨I, hm⟩ => HQ _ _ ⟨rfl, ys, rfl, I.perm, m, hm, I.ord⟩, fun _ _ h => h.elim⟩
def pdqNumL (h : AHeap) (l c : Nat) (xs : List Int) (lim : Int) : LSpec where
  ι := Unit
  κ := Unit
  I := fun _ => True
  μ := fun _ => 0
  head := fun _ => ⟨[(0, .slice (some ⟨l, 0, some 1⟩) xs.length c), (1, .int .i64 0), (2, .int .i64 xs.length), (3, .int .i64 lim), (8, .bool true), (9, .bool true)], [], h.put l (some (numO xs))⟩
  post := fun _ => ⟨[], [], h⟩
  R := fun _ _ => False
  ret := fun _ v h' => v = .tuple #[] ∧ ∃ ys, h' = h.put l (some (numO ys)) ∧ ys.Perm xs ∧ ∃ m, xs.length ≤ m ∧ sortInt.OI ys m
def Q80 := True ∧ Q74 ∧ True
def Q81 (a : Prop) := Q6k True True a True (Q6k Q6m Q6m Q6m True (Q6k Q80 Q80 Q80 True (Q6k True True True True (Q74 ∧ True ∧ Q6l))))
def Q82 (a : FuncId) (b : List Value) (c : AHeap) (d : List Value) (e : AHeap) := ACall Tryz.prog a b c (Value.tuple (Array.mk d)) e
def Q83 (a : Value) (b c : Int) := [a, Q6r 0, Q6r b, Q6r c]
def Q84 (a : Nat) (b : List Int) (c : Nat) (d : List Int) (e : Int) (f : AHeap) (g : Int) (h : Bool) (i : AHeap) (j : Prop) := Q82 196 (Q83 (Q7c a b c) (Q79 d) e) f [Q6r g, Value.bool h] i ∧ (8 : Int) ≠ (0 : Int) ∧ j
def Q85 := (0 : Nat) < (0 : Nat)
def Q86 (a b : Prop) := Q85 ∧ a ∧ b
def Q87 (a : Value) (b : Prop) (c : Value) (d : Prop) := a = Q7y ∧ b → c = Q7y ∧ d
def Q88 (a b : AHeap) (c : Nat) (d e f : List Int) (g : Prop) := a = Q7g b c d ∧ List.Perm e f ∧ g
def Q89 (a : List Int) (b : Nat) (c : List Int) (d : Nat) := List.length a ≤ b ∧ SortS.OI sortInt c d
def Q8a (a : Bool) := Value.bool a = Value.bool true
def Q8b (a : Int) := Q6t (a - 0)
def Q8c (a : List Int) := Q6t (Int.tdiv (Q8b (Q79 a)) 8)
def Q8d (a : List Int) (b : Int) := Q6t (Q79 a - b)
def Q8e (a : FuncId) (b : List Value) (c d : AHeap) := ACall Tryz.prog a b c Q7y d
def Q8f (a : List Value) (b c : AHeap) := Q8e 176 a b c
def Q8g (a : Value) (b c d : Int) := [a, Q6r (Q6t (b + Q7s)), Q6r c, Q6r d]
def Q8h (a b : Value) (c d e f g : Int) (h i : Bool) (j k l : Prop) := Q6k (a = b) (Q6r (Q6t (c + Q7s)) = Q6r 0) (Q6s d e) (Q6s f g) (Q6k (Q8a h) (Q8a i) j True (Q86 k l))
def Q8i (a : Prop) := Q7y = Q7y ∧ a
def Q8j (a : Nat) (b : List Int) (c : Nat) (d : List Int) := [Q7c a b c, Q6r 0, Q6r (Q79 d)]
def Q8k (a b : Prop) := a ∧ Q7y = Q7y ∧ b
def Q8l := Value.bool true = Value.bool true
theorem pdqNum_spec (h : AHeap) (l c : Nat) (xs : List Int) (lim : Int) (hn : xs.length ≤ 12) :
    ∃ v h', ACall Tryz.prog 176 [.slice (some ⟨l, 0, some 1⟩) xs.length c, .int .i64 0, .int .i64 xs.length, .int .i64 lim] (h.put l (some (numO xs))) v h' ∧ v = .tuple #[] ∧ ∃ ys, h' = h.put l (some (numO ys)) ∧ ys.Perm xs ∧ ∃ m, xs.length ≤ m ∧ sortInt.OI ys m := by
  obtain ⟨_, g, A, rfl, ys, rfl, hp⟩ := insertNum_spec h l c xs hn
  refine acall_q fun Q HQ => ?_
  refine acall_vc (fun _ => false) (fun r => match r with | 17 => [(0, 0, []), (1, 0, []), (2, 0, []), (3, 0, []), (4, 0, []), (5, 0, []), (6, 0, []), (8, 0, []), (9, 0, []), (10, 0, []), (7, 1, []), (11, 1, []), (12, 3, []), (13, 0, []), (14, 0, [])] | _ => []) (fun _ => pdqNumL h l c xs lim) mixed Tryz.func176 rfl rfl rfl (Nat.le_of_ble_eq_true rfl) ?_ ?_
  · (refine vc_mp (by kernel_rfl : (Q81 (∀ (i : Unit), True → bs (decide (Q8b (Q79 xs) ≤ 12)) (∃ (h' : AHeap), Q8k (Q8e 188 (Q8j l xs c xs) (Q7g h l xs) h') (∃ (ys : List Int), Q88 h' h l ys ys xs (∃ (m : Nat), Q89 xs m ys m))) (bs (decide (lim = 0)) (∃ (h' : AHeap), Q8k (Q8e 189 (Q8j l xs c xs) (Q7g h l xs) h') (∃ (ys : List Int), Q88 h' h l ys ys xs (∃ (m : Nat), Q89 xs m ys m))) (∃ (x x_1 : Int) (h' : AHeap), Q82 191 (Q8j l xs c xs) (Q7g h l xs) [Q6r x, Q6r x_1] h' ∧ bs (decide (x_1 = 2)) (∃ (h'_1 : AHeap), Q8e 192 (Q8j l xs c xs) h' h'_1 ∧ (∃ (x_2 : Bool) (h' : AHeap), Q76 193 (Q8j l xs c xs) h'_1 x_2 h' x_2 (Q8i (∃ (ys : List Int), Q88 h' h l ys ys xs (∃ (m : Nat), Q89 xs m ys m))) (∃ (x_3 : Int) (x_4 : Bool) (h'_2 : AHeap), Q84 l xs c xs (Q6t (Q6t (Q79 xs - Q7s) - Q8b x)) h' x_3 x_4 h'_2 (bs (decide (Q8b x_3 < Q8d xs x_3)) (∃ (h' : AHeap), Q8f (Q83 (Q7c l xs c) x_3 lim) h'_2 h' ∧ (∃ (j : Unit), Q8h (Q7c l xs c) (Q7c l xs c) x_3 (Q79 xs) (Q79 xs) lim lim (decide (Q8b x_3 ≥ Q8c xs)) x_4 (Q7g h l xs = h') (∀ (k : Unit), Q7o) (∀ (v : Value) (h_1 : AHeap), Q87 v (∃ (ys : List Int), Q88 h_1 h l ys ys xs (∃ (m : Nat), Q89 xs m ys m)) v (∃ (ys : List Int), Q88 h_1 h l ys ys xs (∃ (m : Nat), Q89 xs m ys m))))) (∃ (h' : AHeap), Q8f (Q8g (Q7c l xs c) x_3 (Q79 xs) lim) h'_2 h' ∧ (∃ (j : Unit), Q7n (Q7c l xs c) (Q7c l xs c) x_3 (Q79 xs) lim lim (Q8a (decide (Q8d xs x_3 ≥ Q8c xs))) (Q8a x_4) (Q7g h l xs = h') True (Q86 (∀ (k : Unit), Q7o) (∀ (v : Value) (h_1 : AHeap), Q87 v (∃ (ys : List Int), Q88 h_1 h l ys ys xs (∃ (m : Nat), Q89 xs m ys m)) v (∃ (ys : List Int), Q88 h_1 h l ys ys xs (∃ (m : Nat), Q89 xs m ys m)))))))))) (bs (decide (x_1 = Q7s)) (∃ (x_2 : Bool) (h'_1 : AHeap), Q76 193 (Q8j l xs c xs) h' x_2 h'_1 x_2 (Q8i (∃ (ys : List Int), Q88 h'_1 h l ys ys xs (∃ (m : Nat), Q89 xs m ys m))) (∃ (x_3 : Int) (x_4 : Bool) (h' : AHeap), Q84 l xs c xs x h'_1 x_3 x_4 h' (bs (decide (Q8b x_3 < Q8d xs x_3)) (∃ (h'_2 : AHeap), Q8f (Q83 (Q7c l xs c) x_3 lim) h' h'_2 ∧ (∃ (j : Unit), Q8h (Q7c l xs c) (Q7c l xs c) x_3 (Q79 xs) (Q79 xs) lim lim (decide (Q8b x_3 ≥ Q8c xs)) x_4 (Q7g h l xs = h'_2) (∀ (k : Unit), Q7o) (∀ (v : Value) (h_1 : AHeap), Q87 v (∃ (ys : List Int), Q88 h_1 h l ys ys xs (∃ (m : Nat), Q89 xs m ys m)) v (∃ (ys : List Int), Q88 h_1 h l ys ys xs (∃ (m : Nat), Q89 xs m ys m))))) (∃ (h'_2 : AHeap), Q8f (Q8g (Q7c l xs c) x_3 (Q79 xs) lim) h' h'_2 ∧ (∃ (j : Unit), Q7n (Q7c l xs c) (Q7c l xs c) x_3 (Q79 xs) lim lim (Q8a (decide (Q8d xs x_3 ≥ Q8c xs))) (Q8a x_4) (Q7g h l xs = h'_2) True (Q86 (∀ (k : Unit), Q7o) (∀ (v : Value) (h_1 : AHeap), Q87 v (∃ (ys : List Int), Q88 h_1 h l ys ys xs (∃ (m : Nat), Q89 xs m ys m)) v (∃ (ys : List Int), Q88 h_1 h l ys ys xs (∃ (m : Nat), Q89 xs m ys m))))))))) (∃ (x_2 : Int) (x_3 : Bool) (h'_1 : AHeap), Q84 l xs c xs x h' x_2 x_3 h'_1 (bs (decide (Q8b x_2 < Q8d xs x_2)) (∃ (h' : AHeap), Q8f (Q83 (Q7c l xs c) x_2 lim) h'_1 h' ∧ (∃ (j : Unit), Q8h (Q7c l xs c) (Q7c l xs c) x_2 (Q79 xs) (Q79 xs) lim lim (decide (Q8b x_2 ≥ Q8c xs)) x_3 (Q7g h l xs = h') (∀ (k : Unit), Q7o) (∀ (v : Value) (h_1 : AHeap), Q87 v (∃ (ys : List Int), Q88 h_1 h l ys ys xs (∃ (m : Nat), Q89 xs m ys m)) v (∃ (ys : List Int), Q88 h_1 h l ys ys xs (∃ (m : Nat), Q89 xs m ys m))))) (∃ (h' : AHeap), Q8f (Q8g (Q7c l xs c) x_2 (Q79 xs) lim) h'_1 h' ∧ (∃ (j : Unit), Q7n (Q7c l xs c) (Q7c l xs c) x_2 (Q79 xs) lim lim (Q8a (decide (Q8d xs x_2 ≥ Q8c xs))) (Q8a x_3) (Q7g h l xs = h') True (Q86 (∀ (k : Unit), Q7o) (∀ (v : Value) (h_1 : AHeap), Q87 v (∃ (ys : List Int), Q88 h_1 h l ys ys xs (∃ (m : Nat), Q89 xs m ys m)) v (∃ (ys : List Int), Q88 h_1 h l ys ys xs (∃ (m : Nat), Q89 xs m ys m))))))))))))) = _) ?_; delta Q6k Q6l Q6m Q6r Q6s Q6t Q74 Q76 Q79 Q7a Q7b Q7c Q7g Q7n Q7o Q7s Q7y Q80 Q81 Q82 Q83 Q84 Q85 Q86 Q87 Q88 Q89 Q8a Q8b Q8c Q8d Q8e Q8f Q8g Q8h Q8i Q8j Q8k)
    simp only [true_and, and_true]
    refine fun _ _ => ?_
    rw [wrap_i64 (by omega)]
    refine bs_d (fun _ => ?_) (fun e => absurd e (by omega))
    exact ⟨_, A, ys, rfl, hp⟩
  (refine vc_mp (by kernel_rfl : (∃ (i : Unit), Q7n (Q7c l xs c) (Q7c l xs c) (Q79 xs) (Q79 xs) lim lim Q8l Q8l (Q7g h l xs = Q7g h l xs) True ((∀ (j : Unit), False → Q Q7y h) ∧ (∀ (v : Value) (h_1 : AHeap), v = Q7y ∧ (∃ (ys : List Int), Q88 h_1 h l ys ys xs (∃ (m : Nat), Q89 xs m ys m)) → Q v h_1))) = _) ?_; delta Q6k Q6r Q6s Q79 Q7a Q7b Q7c Q7g Q7n Q7y Q88 Q89 Q8l)
  exact ⟨(), rfl, rfl, rfl, rfl, rfl, rfl, rfl, trivial, fun _ h => h.elim, fun _ _ H => HQ _ _ H⟩
def Q8m (a : List Value) (b : AHeap) (c : Int) (d : AHeap) := ACall Tryz.prog 175 a b (Q6r c) d
def Q8n (a : Int) := Value.int IntKind.u64 (IntKind.wrap IntKind.u64 a)
theorem sortNum_spec (h : AHeap) (l c : Nat) (xs : List Int) (hn : xs.length ≤ 12) (hg : h.get l = some (numO xs)) :
    ∃ h', ACall Tryz.prog 173 [.slice (some ⟨l, 0, some 1⟩) xs.length c] h (.tuple #[]) h' ∧ ∃ ys, h' = h.put l (some (numO ys)) ∧ ys.Perm xs ∧ ∃ m, xs.length ≤ m ∧ sortInt.OI ys m := by
  obtain ⟨r, hL⟩ := bitsLen_spec h xs.length hn
  obtain ⟨_, g, A, rfl, H⟩ := pdqNum_spec h l c xs r hn
  have eh : h.put l (some (numO xs)) = h := ah_ext rfl fun x => by
    show (if x = l then _ else h.get x) = h.get x
    split
    · rename_i e; rw [e, hg]
    · rfl
  rw [eh] at A
  have : ∃ v h', ACall Tryz.prog 173 [.slice (some ⟨l, 0, some 1⟩) xs.length c] h v h' ∧ v = .tuple #[] ∧ h' = g := by
    refine acall_vc (fun _ => false) (fun _ => []) (fun _ => .none) mixed Tryz.func173 rfl rfl rfl (Nat.le_of_ble_eq_true rfl) (by (refine vc_mp (by kernel_rfl : (Q6l) = _) ?_; delta Q6l); simp only [and_self]) ?_
    (refine vc_mp (by kernel_rfl : (∃ (x : Int) (h' : AHeap), Q8m [Q8n (Q79 xs)] h x h' ∧ (∃ (h'_1 : AHeap), Q8k (Q8f (Q83 (Q7c l xs c) (Q79 xs) x) h' h'_1) (h'_1 = g))) = _) ?_; delta Q6r Q79 Q7b Q7c Q7y Q83 Q8e Q8f Q8k Q8m Q8n)
    rw [u64_id (by omega)]
    exact ⟨_, _, hL, _, A, rfl, rfl⟩
  obtain ⟨_, g2, A2, rfl, eg⟩ := this
  rw [eg] at A2
  exact ⟨_, A2, H⟩
def is0NumL (h : AHeap) : Nat → LSpec
  | 0 => {
    ι := Unit
    κ := Unit
    I := fun _ => True
    μ := fun _ => 0
    head := fun _ => ⟨[(0, .slice none 0 0), (1, .int .i64 0), (2, .int .i64 0), (6, .int .i64 1)], [], h⟩
    post := fun _ => ⟨[], [], h⟩
    R := fun _ _ => True
    ret := fun _ _ _ => False }
  | _ => {
    ι := Unit
    κ := Unit
    I := fun _ => False
    μ := fun _ => 0
    head := fun _ => ⟨[(0, .slice none 0 0), (1, .int .i64 0), (2, .int .i64 0), (6, .int .i64 1), (7, .int .i64 1)], [], h⟩
    post := fun _ => ⟨[(0, .slice none 0 0), (1, .int .i64 0), (2, .int .i64 0), (6, .int .i64 1)], [], h⟩
    R := fun _ _ => True
    ret := fun _ _ _ => False }
def Q8o := (↑0 : Int)
def Q8p (a b : Nat) (c : Prop) := Q7k none a b Q7s Q7s Q8o c
def Q8q := Q6t (Q7s - Q7s)
def Q8r (a b : Nat) (c : Prop) := Q7k none a b Q8q Q8q Q8o c
def Q8s := Value.slice none 0 0
def Q8t (a b : Int) (c d e f g : Prop) := Q6k (Q8s = Q8s) Q7a Q7a (Q6s a b) (Q6k c d e f g)
theorem insertNum_nil (h : AHeap) : ACall Tryz.prog 188 [.slice none 0 0, .int .i64 0, .int .i64 0] h (.tuple #[]) h := by
  refine acall_out ?_
  refine acall_vc (fun _ => false) (fun r => match r with | 4 => [(0, 0, []), (1, 0, []), (2, 0, []), (3, 0, []), (4, 0, []), (5, 0, []), (6, 0, []), (8, 0, []), (9, 0, []), (10, 0, []), (11, 0, []), (7, 1, []), (12, 1, []), (13, 3, []), (14, 0, [])] | 6 => [(0, 0, []), (1, 0, []), (2, 0, []), (3, 0, []), (4, 0, []), (5, 0, []), (6, 0, []), (7, 0, []), (8, 0, []), (10, 0, []), (11, 0, []), (12, 0, []), (9, 1, []), (13, 1, []), (14, 0, []), (15, 3, []), (16, 0, []), (17, 3, [])] | _ => []) (is0NumL h) mixed Tryz.func188 rfl rfl rfl (Nat.le_of_ble_eq_true rfl) ?_ ?_
  · (refine vc_mp (by kernel_rfl : (Q77 (∀ (i : Unit), True → (∃ (j : Unit), h = h ∧ True)) (∀ (i : Unit), False → (∃ (l r : Nat), Q8p l r (∃ (l_1 r_1 : Nat), Q8r l_1 r_1 (∃ (x : Int), Q7l h l r Q7s [Q6r x] (∃ (x_1 : Int), Q7l h l_1 r_1 Q8q [Q6r x_1] (∃ (x_2 : Bool) (h' : AHeap), Q76 194 [Q6r x, Q6r x_1] h x_2 h' x_2 (∃ (l r : Nat), Q8r l r (∃ (l_2 r_2 : Nat), Q8p l_2 r_2 (∃ (x : Int), Q7l h' l r Q8q [Q6r x] (∃ (x_3 : Int), Q7l h' l_2 r_2 Q7s [Q6r x_3] (∃ (l r : Nat), Q8p l r (∃ (h'_1 : AHeap), Q7m h' l r Q7s [Q6r x] h'_1 (∃ (l r : Nat), Q8r l r (∃ (h' : AHeap), Q7m h'_1 l r Q8q [Q6r x_3] h' (∃ (j : Unit), Q8t Q7s Q7s (Q6s Q8q Q7s) (h = h') False Q85 ((∀ (k : Unit), True → True) ∧ (∀ (v : Value) (h : AHeap), Q7o))))))))))) (∃ (j : Unit), Q6k (Q8s = Q8s) Q7a Q7a (Q6s Q7s Q7s) (h = h' ∧ True))))))))) = _) ?_; delta Q6k Q6n Q6r Q6s Q6t Q74 Q76 Q77 Q7a Q7k Q7l Q7m Q7o Q7s Q85 Q8o Q8p Q8q Q8r Q8s Q8t)
    simp only [true_and, and_true]
    refine ⟨fun _ _ => ?_, fun _ h => h.elim⟩
    exact ⟨(), trivial⟩
  (refine vc_mp (by kernel_rfl : (∃ (i : Unit), Q6k (Q8s = Q8s) Q7a Q7a (Q6s Q7z Q7s) (h = h ∧ True ∧ (∀ (j : Unit), True → Q8i (h = h)) ∧ (∀ (v : Value) (h_1 : AHeap), False → v = Q7y ∧ h_1 = h))) = _) ?_; delta Q6k Q6r Q6s Q6t Q7a Q7s Q7y Q7z Q8i Q8s)
  exact ⟨(), rfl, rfl, rfl, congrArg (Value.int .i64) (by decide), rfl, trivial, fun _ _ => ⟨rfl, rfl⟩, fun _ _ h => h.elim⟩
def pdq0NumL (h : AHeap) (lim : Int) : LSpec where
  ι := Unit
  κ := Unit
  I := fun _ => True
  μ := fun _ => 0
  head := fun _ => ⟨[(0, .slice none 0 0), (1, .int .i64 0), (2, .int .i64 0), (3, .int .i64 lim), (8, .bool true), (9, .bool true)], [], h⟩
  post := fun _ => ⟨[], [], h⟩
  R := fun _ _ => False
  ret := fun _ v h' => v = .tuple #[] ∧ h' = h
theorem sortNum_nil (h : AHeap) : ACall Tryz.prog 173 [.slice none 0 0] h (.tuple #[]) h := by
  obtain ⟨r, hL⟩ := bitsLen_spec h 0 (by omega)
  have A : ACall Tryz.prog 176 [.slice none 0 0, .int .i64 0, .int .i64 0, .int .i64 r] h (.tuple #[]) h := by
    refine acall_out ?_
    refine acall_vc (fun _ => false) (fun r => match r with | 17 => [(0, 0, []), (1, 0, []), (2, 0, []), (3, 0, []), (4, 0, []), (5, 0, []), (6, 0, []), (8, 0, []), (9, 0, []), (10, 0, []), (7, 1, []), (11, 1, []), (12, 3, []), (13, 0, []), (14, 0, [])] | _ => []) (fun _ => pdq0NumL h r) mixed Tryz.func176 rfl rfl rfl (Nat.le_of_ble_eq_true rfl) ?_ ?_
    · (refine vc_mp (by kernel_rfl : (Q81 (∀ (i : Unit), True → (∃ (h' : AHeap), Q8k (Q8e 188 [Q8s, Q6r 0, Q6r 0] h h') (h' = h)))) = _) ?_; delta Q6k Q6l Q6m Q6r Q74 Q7y Q80 Q81 Q8e Q8k Q8s)
      simp only [true_and, and_true]
      exact fun _ _ => ⟨_, insertNum_nil h, rfl⟩
    (refine vc_mp (by kernel_rfl : (∃ (i : Unit), Q8t r r Q8l Q8l (h = h) True ((∀ (j : Unit), False → Q8i (h = h)) ∧ (∀ (v : Value) (h_1 : AHeap), Q87 v (h_1 = h) v (h_1 = h)))) = _) ?_; delta Q6k Q6r Q6s Q7a Q7y Q87 Q8i Q8l Q8s Q8t)
    exact ⟨(), rfl, rfl, rfl, rfl, rfl, rfl, rfl, trivial, fun _ h => h.elim, fun _ _ H => H⟩
  refine acall_out ?_
  refine acall_vc (fun _ => false) (fun _ => []) (fun _ => .none) mixed Tryz.func173 rfl rfl rfl (Nat.le_of_ble_eq_true rfl) (by (refine vc_mp (by kernel_rfl : (Q6l) = _) ?_; delta Q6l); simp only [and_self]) ?_
  (refine vc_mp (by kernel_rfl : (∃ (x : Int) (h' : AHeap), Q8m [Q8n Q8o] h x h' ∧ (∃ (h'_1 : AHeap), Q8k (Q8f (Q83 Q8s Q8o x) h' h'_1) (h'_1 = h))) = _) ?_; delta Q6r Q7y Q83 Q8e Q8f Q8k Q8m Q8n Q8o Q8s)
  exact ⟨_, _, hL, _, A, rfl, rfl⟩
theorem nanTxt_spec (h : AHeap) (x : ByteArray) : ACall Tryz.prog 202 [.string x] h (.bool false) h := by
  refine acall_out (acall_vc (fun _ => false) (fun _ => []) (fun _ => .none) mixed Tryz.func202 rfl rfl rfl (Nat.le_of_ble_eq_true rfl) (by (refine vc_mp (by kernel_rfl : (Q74) = _) ?_; delta Q74); simp only [and_self]) ?_)
  (refine vc_mp (by kernel_rfl : (Q75 (not (decide (x = x))) false h h) = _) ?_; delta Q75)
  exact ⟨by rw [decide_eq_true rfl]; rfl, rfl⟩
def Q8u (a b : ByteArray) := Op.bytesLess (ByteArray.toList a) (ByteArray.toList b)
def Q8v (a : ByteArray) := [Value.string a]
theorem lessTxt_spec (h : AHeap) (x y : ByteArray) : ACall Tryz.prog 183 [.string x, .string y] h (.bool ((fun a b : ByteArray => Op.bytesLess a.toList b.toList) x y)) h := by
  refine acall_out (acall_vc (fun _ => false) (fun _ => []) (fun _ => .none) mixed Tryz.func183 rfl rfl rfl (Nat.le_of_ble_eq_true rfl) (by (refine vc_mp (by kernel_rfl : (Q74) = _) ?_; delta Q74); simp only [and_self]) ?_)
  (refine vc_mp (by kernel_rfl : (∃ (x_1 : Bool) (h' : AHeap), Q76 202 (Q8v x) h x_1 h' x_1 (∃ (x_2 : Bool) (h'_1 : AHeap), Q76 202 (Q8v y) h' x_2 h'_1 (not x_2) (Value.bool true = Value.bool (Q8u x y) ∧ h'_1 = h) (Q75 (Q8u x y) (Q8u x y) h'_1 h)) (Q75 (Q8u x y) (Q8u x y) h' h)) = _) ?_; delta Q75 Q76 Q8u Q8v)
  refine ⟨_, _, nanTxt_spec _ _, bs_b (fun e => by cases e) (fun _ => ?_)⟩
  exact ⟨rfl, rfl⟩
structure InsTxt (xs : List ByteArray) (i : Nat) (ys : List ByteArray) : Prop where
  perm : ys.Perm xs
  ord : sortStr.OI ys i
structure InJTxt (xs : List ByteArray) (i j : Nat) (ys : List ByteArray) : Prop where
  perm : ys.Perm xs
  hj : j ≤ i
  hi : i < xs.length
  ord : sortStr.OJ ys i j
def isTxtL (h : AHeap) (l c : Nat) (xs : List ByteArray) : Nat → LSpec
  | 0 => {
    ι := Nat × List ByteArray
    κ := Nat × List ByteArray
    I := fun i => InsTxt xs i.1 i.2 ∧ 1 ≤ i.1 ∧ (i.1 ≤ xs.length ∨ i.1 = 1)
    μ := fun i => xs.length - i.1
    head := fun i => ⟨[(0, .slice (some ⟨l, 0, some 1⟩) xs.length c), (1, .int .i64 0), (2, .int .i64 xs.length), (6, .int .i64 i.1)], [], h.put l (some (txtO i.2))⟩
    post := fun i => ⟨[], [], h.put l (some (txtO i.2))⟩
    R := fun _ i => InsTxt xs i.1 i.2 ∧ xs.length ≤ i.1
    ret := fun _ _ _ => False }
  | _ => {
    ι := Nat × Nat × List ByteArray
    κ := Nat × List ByteArray
    I := fun i => InJTxt xs i.1 i.2.1 i.2.2
    μ := fun i => i.2.1
    head := fun i => ⟨[(0, .slice (some ⟨l, 0, some 1⟩) xs.length c), (1, .int .i64 0), (2, .int .i64 xs.length), (6, .int .i64 i.1), (7, .int .i64 i.2.1)], [], h.put l (some (txtO i.2.2))⟩
    post := fun i => ⟨[(0, .slice (some ⟨l, 0, some 1⟩) xs.length c), (1, .int .i64 0), (2, .int .i64 xs.length), (6, .int .i64 i.1)], [], h.put l (some (txtO i.2))⟩
    R := fun i k => k.1 = i.1 ∧ InsTxt xs (i.1 + 1) k.2
    ret := fun _ _ _ => False }
def Q8w (a : Nat × List ByteArray) := (↑(Prod.fst a) : Int)
def Q8x (a : List ByteArray) := (↑(List.length a) : Int)
def Q8y (a : Nat) (b : List ByteArray) (c : Nat) := Value.slice (some (Q7b a)) (List.length b) c
def Q8z (a : Nat) (b : List ByteArray) (c d : Nat) (e : List ByteArray) (f : Nat) (g h : List ByteArray) (i : Int) (j : Nat × List ByteArray) (k l m : Prop) := Q6k (Q8y a b c = Q8y d e f) Q7a (Q6s (Q8x g) (Q8x h)) (Q6s i (Q8w j)) (k ∧ l ∧ m)
def Q90 (a : List ByteArray) (b : Nat × Nat × List ByteArray) (c : Nat × List ByteArray) := InsTxt a (Prod.fst b + 1) (Prod.snd c)
def Q91 (a : Nat × List ByteArray) (b : Nat × Nat × List ByteArray) := Prod.fst a = Prod.fst b
def Q92 (a : AHeap) (b : Nat) (c : List ByteArray) := AHeap.put a b (some (txtO c))
def Q93 (a : AHeap) (b : Nat) (c : Nat × List ByteArray) := Q92 a b (Prod.snd c)
def Q94 (a : AHeap) (b : Nat) (c : Nat × Nat × List ByteArray) := Q93 a b (Prod.snd c)
def Q95 (a : Nat × Nat × List ByteArray) := (↑(Prod.fst a) : Int)
def Q96 (a : Nat × Nat × List ByteArray) := Prod.fst (Prod.snd a)
def Q97 (a : List ByteArray) (b c d : Nat × Nat × List ByteArray) := InJTxt a (Prod.fst b) (Q96 c) (Prod.snd (Prod.snd d))
def Q98 (a : Nat × Nat × List ByteArray) := (↑(Q96 a) : Int)
def Q99 (a : Nat × Nat × List ByteArray) := Q6t (Q98 a - Q7s)
def Q9a (a : List ByteArray) (b : Nat × List ByteArray) := List.length a ≤ Prod.fst b
def Q9b (a : List ByteArray) (b c : Nat × List ByteArray) := InsTxt a (Prod.fst b) (Prod.snd c)
def Q9c (a : List ByteArray) (b c d : Nat × List ByteArray) (e : Prop) := Q9b a b c ∧ 1 ≤ Prod.fst d ∧ e
def Q9d (a : Nat × List ByteArray) := Prod.fst a = 1
theorem insertTxt_spec (h : AHeap) (l c : Nat) (xs : List ByteArray) (hn : xs.length ≤ 12) :
    ∃ v h', ACall Tryz.prog 177 [.slice (some ⟨l, 0, some 1⟩) xs.length c, .int .i64 0, .int .i64 xs.length] (h.put l (some (txtO xs))) v h' ∧ v = .tuple #[] ∧ ∃ ys, h' = h.put l (some (txtO ys)) ∧ ys.Perm xs ∧ ∃ m, xs.length ≤ m ∧ sortStr.OI ys m := by
  refine acall_q fun Q HQ => ?_
  refine acall_vc (fun _ => false) (fun r => match r with | 4 => [(0, 0, []), (1, 0, []), (2, 0, []), (3, 0, []), (4, 0, []), (5, 0, []), (6, 0, []), (8, 0, []), (9, 0, []), (10, 0, []), (11, 0, []), (7, 1, []), (12, 1, []), (13, 3, []), (14, 0, [])] | 6 => [(0, 0, []), (1, 0, []), (2, 0, []), (3, 0, []), (4, 0, []), (5, 0, []), (6, 0, []), (7, 0, []), (8, 0, []), (10, 0, []), (11, 0, []), (12, 0, []), (9, 1, []), (13, 1, []), (14, 0, []), (15, 3, []), (16, 0, []), (17, 3, [])] | _ => []) (isTxtL h l c xs) mixed Tryz.func177 rfl rfl rfl (Nat.le_of_ble_eq_true rfl) ?_ ?_
  · (refine vc_mp (by kernel_rfl : (Q77 (∀ (i : Nat × List ByteArray), Q9c xs i i i (Prod.fst i ≤ List.length xs ∨ Q9d i) → bs (decide (Q8w i < Q8x xs)) (∃ (i_1 : Nat × Nat × List ByteArray), Q7n (Q8y l xs c) (Q8y l xs c) (Q8x xs) (Q8x xs) (Q8w i) (Q95 i_1) (Q6s (Q8w i) (Q98 i_1)) (Q94 h l i_1 = Q93 h l i) (Q97 xs i_1 i_1 i_1) (∀ (j : Nat × List ByteArray), Q91 j i_1 ∧ Q90 xs i_1 j → (∃ (j_1 : Nat × List ByteArray), Q7n (Q8y l xs c) (Q8y l xs c) (Q8x xs) (Q8x xs) (Q6t (Q8w j + Q7s)) (Q8w j_1) (Q93 h l j_1 = Q93 h l j) (Q9c xs j_1 j_1 j_1 (Prod.fst j_1 ≤ List.length xs ∨ Q9d j_1)) (List.length xs - Prod.fst j_1 < List.length xs - Prod.fst i) (∀ (k : Nat × List ByteArray), Q9b xs k k ∧ Q9a xs k → Q9b xs k k ∧ Q9a xs k) (∀ (v : Value) (h : AHeap), Q7o))) (∀ (v : Value) (h : AHeap), Q7o)) (∃ (j : Nat × List ByteArray), Q93 h l j = Q93 h l i ∧ Q9b xs j j ∧ Q9a xs j)) (∀ (i : Nat × Nat × List ByteArray), Q97 xs i i i → bs (decide (Q98 i > 0)) (∃ (l_1 r : Nat), Q7k (some (Q7b l)) l_1 r (Q98 i) (Q98 i) (Q8x xs) (∃ (l_2 r_1 : Nat), Q7k (some (Q7b l)) l_2 r_1 (Q99 i) (Q99 i) (Q8x xs) (∃ (x : ByteArray), Q7l (Q94 h l i) l_1 r (Q98 i) (Q8v x) (∃ (x_1 : ByteArray), Q7l (Q94 h l i) l_2 r_1 (Q99 i) (Q8v x_1) (∃ (x_2 : Bool) (h' : AHeap), Q76 183 [Value.string x, Value.string x_1] (Q94 h l i) x_2 h' x_2 (∃ (l_3 r : Nat), Q7k (some (Q7b l)) l_3 r (Q99 i) (Q99 i) (Q8x xs) (∃ (l_4 r_2 : Nat), Q7k (some (Q7b l)) l_4 r_2 (Q98 i) (Q98 i) (Q8x xs) (∃ (x : ByteArray), Q7l h' l_3 r (Q99 i) (Q8v x) (∃ (x_3 : ByteArray), Q7l h' l_4 r_2 (Q98 i) (Q8v x_3) (∃ (l_5 r : Nat), Q7k (some (Q7b l)) l_5 r (Q98 i) (Q98 i) (Q8x xs) (∃ (h'_1 : AHeap), Q7m h' l_5 r (Q98 i) (Q8v x) h'_1 (∃ (l_6 r : Nat), Q7k (some (Q7b l)) l_6 r (Q99 i) (Q99 i) (Q8x xs) (∃ (h' : AHeap), Q7m h'_1 l_6 r (Q99 i) (Q8v x_3) h' (∃ (j : Nat × Nat × List ByteArray), Q7n (Q8y l xs c) (Q8y l xs c) (Q8x xs) (Q8x xs) (Q95 i) (Q95 j) (Q6s (Q99 i) (Q98 j)) (Q94 h l j = h') (Q97 xs j j j) (Q96 j < Q96 i) ((∀ (k : Nat × List ByteArray), Q91 k j ∧ Q90 xs j k → Q91 k i ∧ Q90 xs i k) ∧ (∀ (v : Value) (h : AHeap), Q7o))))))))))) (∃ (j : Nat × List ByteArray), Q8z l xs c l xs c xs xs (Q95 i) j (Q93 h l j = h') (Q91 j i) (Q90 xs i j))))))) (∃ (j : Nat × List ByteArray), Q8z l xs c l xs c xs xs (Q95 i) j (Q93 h l j = Q94 h l i) (Q91 j i) (Q90 xs i j)))) = _) ?_; delta Q6k Q6n Q6r Q6s Q6t Q74 Q76 Q77 Q7a Q7b Q7k Q7l Q7m Q7n Q7o Q7s Q8v Q8w Q8x Q8y Q8z Q90 Q91 Q92 Q93 Q94 Q95 Q96 Q97 Q98 Q99 Q9a Q9b Q9c Q9d)
    simp only [true_and, and_true]
    refine ⟨fun ⟨i, ys⟩ ⟨I, h1, h2⟩ => ?_, fun ⟨i, j, ys⟩ J => ?_⟩
    · dsimp only at *
      refine bs_d (fun hlt => ⟨(i, i, ys), rfl, rfl, rfl, ⟨I.perm, Nat.le_refl _, by omega, sortStr.i2j _ _ I.ord⟩, fun ⟨i', ys'⟩ ⟨e, I'⟩ => ?_, fun _ _ h => h⟩) (fun hge => ⟨(i, ys), rfl, I, by omega⟩)
      dsimp only at e I'
      subst e
      exact ⟨(i' + 1, ys'), by rw [wrap_i64 (by omega)]; rfl, rfl, ⟨I', by dsimp only; omega, .inl (by dsimp only; omega)⟩, by dsimp only; omega, fun _ h => h, fun _ _ h => h⟩
    · have hl := J.perm.length_eq
      have hji := J.hj
      have hin := J.hi
      dsimp only at *
      refine bs_d (fun hlt => ?_) (fun hge => ⟨(i, ys), rfl, rfl, rfl, J.perm, sortStr.fin0 ys i ((show j = 0 by omega) ▸ (show sortStr.OJ ys i j from J.ord))⟩)
      rw [wrap_pred (i := j) (by omega) (by omega)]
      obtain ⟨a, ha⟩ : ∃ y, ys[j - 1]? = some y := ⟨_, List.getElem?_eq_getElem (by omega)⟩
      obtain ⟨b, hb⟩ : ∃ y, ys[j]? = some y := ⟨_, List.getElem?_eq_getElem (by omega)⟩
      refine ⟨l, 0, rfl, Int.natCast_nonneg _, by omega, l, 0, rfl, Int.natCast_nonneg _, by omega, _, txt_ld hb, _, txt_ld ha, _, _, lessTxt_spec _ b a, bs_of (fun e => ?_) (fun e => ⟨(i, ys), rfl, rfl, rfl, J.perm, sortStr.fin ys i j a b J.ord (by omega) J.hj ha hb e⟩)⟩
      refine ⟨l, 0, rfl, Int.natCast_nonneg _, by omega, l, 0, rfl, Int.natCast_nonneg _, by omega, _, txt_ld ha, _, txt_ld hb, ?_⟩
      refine ⟨l, 0, rfl, Int.natCast_nonneg _, by omega, _, txt_wr a (by omega), l, 0, rfl, Int.natCast_nonneg _, by omega, _, txt_wr b (by rw [List.length_set]; omega), ?_⟩
      refine ⟨(i, j - 1, (ys.set j a).set (j - 1) b), rfl, rfl, rfl, ⟨(swap_perm (by omega) ha hb).trans J.perm, by dsimp only; omega, hin, sortStr.step ys i j a b J.ord (by omega) hji ha hb e⟩, by dsimp only; omega, fun _ h => h, fun _ _ h => h⟩
  (refine vc_mp (by kernel_rfl : (∃ (i : Nat × List ByteArray), Q8z l xs c l xs c xs xs Q7z i (Q93 h l i = Q92 h l xs) (Q9c xs i i i (Prod.fst i ≤ List.length xs ∨ Q9d i)) ((∀ (j : Nat × List ByteArray), Q9b xs j j ∧ Q9a xs j → Q Q7y (Q93 h l j)) ∧ (∀ (v : Value) (h : AHeap), False → Q v h))) = _) ?_; delta Q6k Q6r Q6s Q6t Q7a Q7b Q7s Q7y Q7z Q8w Q8x Q8y Q8z Q92 Q93 Q9a Q9b Q9c Q9d)
  refine ⟨(1, xs), rfl, rfl, rfl, by rw [wrap_i64 (by omega)]; rfl, rfl, ⟨⟨.refl _, sortStr.start xs⟩, Nat.le_refl _, .inr rfl⟩, fun ⟨m, ys⟩ ⟨I, hm⟩ => HQ _ _ ⟨rfl, ys, rfl, I.perm, m, hm, I.ord⟩, fun _ _ h => h.elim⟩
def pdqTxtL (h : AHeap) (l c : Nat) (xs : List ByteArray) (lim : Int) : LSpec where
  ι := Unit
  κ := Unit
  I := fun _ => True
  μ := fun _ => 0
  head := fun _ => ⟨[(0, .slice (some ⟨l, 0, some 1⟩) xs.length c), (1, .int .i64 0), (2, .int .i64 xs.length), (3, .int .i64 lim), (8, .bool true), (9, .bool true)], [], h.put l (some (txtO xs))⟩
  post := fun _ => ⟨[], [], h⟩
  R := fun _ _ => False
  ret := fun _ v h' => v = .tuple #[] ∧ ∃ ys, h' = h.put l (some (txtO ys)) ∧ ys.Perm xs ∧ ∃ m, xs.length ≤ m ∧ sortStr.OI ys m
def Q9e (a : Nat) (b : List ByteArray) (c : Nat) (d : List ByteArray) (e : Int) (f : AHeap) (g : Int) (h : Bool) (i : AHeap) (j : Prop) := Q82 185 (Q83 (Q8y a b c) (Q8x d) e) f [Q6r g, Value.bool h] i ∧ (8 : Int) ≠ (0 : Int) ∧ j
def Q9f (a b : AHeap) (c : Nat) (d e f : List ByteArray) (g : Prop) := a = Q92 b c d ∧ List.Perm e f ∧ g
def Q9g (a : List ByteArray) (b : Nat) (c : List ByteArray) (d : Nat) := List.length a ≤ b ∧ SortS.OI sortStr c d
def Q9h (a : List ByteArray) := Q6t (Int.tdiv (Q8b (Q8x a)) 8)
def Q9i (a : List ByteArray) (b : Int) := Q6t (Q8x a - b)
def Q9j (a : List Value) (b c : AHeap) := Q8e 174 a b c
def Q9k (a : Nat) (b : List ByteArray) (c : Nat) (d : List ByteArray) := [Q8y a b c, Q6r 0, Q6r (Q8x d)]
theorem pdqTxt_spec (h : AHeap) (l c : Nat) (xs : List ByteArray) (lim : Int) (hn : xs.length ≤ 12) :
    ∃ v h', ACall Tryz.prog 174 [.slice (some ⟨l, 0, some 1⟩) xs.length c, .int .i64 0, .int .i64 xs.length, .int .i64 lim] (h.put l (some (txtO xs))) v h' ∧ v = .tuple #[] ∧ ∃ ys, h' = h.put l (some (txtO ys)) ∧ ys.Perm xs ∧ ∃ m, xs.length ≤ m ∧ sortStr.OI ys m := by
  obtain ⟨_, g, A, rfl, ys, rfl, hp⟩ := insertTxt_spec h l c xs hn
  refine acall_q fun Q HQ => ?_
  refine acall_vc (fun _ => false) (fun r => match r with | 17 => [(0, 0, []), (1, 0, []), (2, 0, []), (3, 0, []), (4, 0, []), (5, 0, []), (6, 0, []), (8, 0, []), (9, 0, []), (10, 0, []), (7, 1, []), (11, 1, []), (12, 3, []), (13, 0, []), (14, 0, [])] | _ => []) (fun _ => pdqTxtL h l c xs lim) mixed Tryz.func174 rfl rfl rfl (Nat.le_of_ble_eq_true rfl) ?_ ?_
  · (refine vc_mp (by kernel_rfl : (Q81 (∀ (i : Unit), True → bs (decide (Q8b (Q8x xs) ≤ 12)) (∃ (h' : AHeap), Q8k (Q8e 177 (Q9k l xs c xs) (Q92 h l xs) h') (∃ (ys : List ByteArray), Q9f h' h l ys ys xs (∃ (m : Nat), Q9g xs m ys m))) (bs (decide (lim = 0)) (∃ (h' : AHeap), Q8k (Q8e 178 (Q9k l xs c xs) (Q92 h l xs) h') (∃ (ys : List ByteArray), Q9f h' h l ys ys xs (∃ (m : Nat), Q9g xs m ys m))) (∃ (x x_1 : Int) (h' : AHeap), Q82 180 (Q9k l xs c xs) (Q92 h l xs) [Q6r x, Q6r x_1] h' ∧ bs (decide (x_1 = 2)) (∃ (h'_1 : AHeap), Q8e 181 (Q9k l xs c xs) h' h'_1 ∧ (∃ (x_2 : Bool) (h' : AHeap), Q76 182 (Q9k l xs c xs) h'_1 x_2 h' x_2 (Q8i (∃ (ys : List ByteArray), Q9f h' h l ys ys xs (∃ (m : Nat), Q9g xs m ys m))) (∃ (x_3 : Int) (x_4 : Bool) (h'_2 : AHeap), Q9e l xs c xs (Q6t (Q6t (Q8x xs - Q7s) - Q8b x)) h' x_3 x_4 h'_2 (bs (decide (Q8b x_3 < Q9i xs x_3)) (∃ (h' : AHeap), Q9j (Q83 (Q8y l xs c) x_3 lim) h'_2 h' ∧ (∃ (j : Unit), Q8h (Q8y l xs c) (Q8y l xs c) x_3 (Q8x xs) (Q8x xs) lim lim (decide (Q8b x_3 ≥ Q9h xs)) x_4 (Q92 h l xs = h') (∀ (k : Unit), Q7o) (∀ (v : Value) (h_1 : AHeap), Q87 v (∃ (ys : List ByteArray), Q9f h_1 h l ys ys xs (∃ (m : Nat), Q9g xs m ys m)) v (∃ (ys : List ByteArray), Q9f h_1 h l ys ys xs (∃ (m : Nat), Q9g xs m ys m))))) (∃ (h' : AHeap), Q9j (Q8g (Q8y l xs c) x_3 (Q8x xs) lim) h'_2 h' ∧ (∃ (j : Unit), Q7n (Q8y l xs c) (Q8y l xs c) x_3 (Q8x xs) lim lim (Q8a (decide (Q9i xs x_3 ≥ Q9h xs))) (Q8a x_4) (Q92 h l xs = h') True (Q86 (∀ (k : Unit), Q7o) (∀ (v : Value) (h_1 : AHeap), Q87 v (∃ (ys : List ByteArray), Q9f h_1 h l ys ys xs (∃ (m : Nat), Q9g xs m ys m)) v (∃ (ys : List ByteArray), Q9f h_1 h l ys ys xs (∃ (m : Nat), Q9g xs m ys m)))))))))) (bs (decide (x_1 = Q7s)) (∃ (x_2 : Bool) (h'_1 : AHeap), Q76 182 (Q9k l xs c xs) h' x_2 h'_1 x_2 (Q8i (∃ (ys : List ByteArray), Q9f h'_1 h l ys ys xs (∃ (m : Nat), Q9g xs m ys m))) (∃ (x_3 : Int) (x_4 : Bool) (h' : AHeap), Q9e l xs c xs x h'_1 x_3 x_4 h' (bs (decide (Q8b x_3 < Q9i xs x_3)) (∃ (h'_2 : AHeap), Q9j (Q83 (Q8y l xs c) x_3 lim) h' h'_2 ∧ (∃ (j : Unit), Q8h (Q8y l xs c) (Q8y l xs c) x_3 (Q8x xs) (Q8x xs) lim lim (decide (Q8b x_3 ≥ Q9h xs)) x_4 (Q92 h l xs = h'_2) (∀ (k : Unit), Q7o) (∀ (v : Value) (h_1 : AHeap), Q87 v (∃ (ys : List ByteArray), Q9f h_1 h l ys ys xs (∃ (m : Nat), Q9g xs m ys m)) v (∃ (ys : List ByteArray), Q9f h_1 h l ys ys xs (∃ (m : Nat), Q9g xs m ys m))))) (∃ (h'_2 : AHeap), Q9j (Q8g (Q8y l xs c) x_3 (Q8x xs) lim) h' h'_2 ∧ (∃ (j : Unit), Q7n (Q8y l xs c) (Q8y l xs c) x_3 (Q8x xs) lim lim (Q8a (decide (Q9i xs x_3 ≥ Q9h xs))) (Q8a x_4) (Q92 h l xs = h'_2) True (Q86 (∀ (k : Unit), Q7o) (∀ (v : Value) (h_1 : AHeap), Q87 v (∃ (ys : List ByteArray), Q9f h_1 h l ys ys xs (∃ (m : Nat), Q9g xs m ys m)) v (∃ (ys : List ByteArray), Q9f h_1 h l ys ys xs (∃ (m : Nat), Q9g xs m ys m))))))))) (∃ (x_2 : Int) (x_3 : Bool) (h'_1 : AHeap), Q9e l xs c xs x h' x_2 x_3 h'_1 (bs (decide (Q8b x_2 < Q9i xs x_2)) (∃ (h' : AHeap), Q9j (Q83 (Q8y l xs c) x_2 lim) h'_1 h' ∧ (∃ (j : Unit), Q8h (Q8y l xs c) (Q8y l xs c) x_2 (Q8x xs) (Q8x xs) lim lim (decide (Q8b x_2 ≥ Q9h xs)) x_3 (Q92 h l xs = h') (∀ (k : Unit), Q7o) (∀ (v : Value) (h_1 : AHeap), Q87 v (∃ (ys : List ByteArray), Q9f h_1 h l ys ys xs (∃ (m : Nat), Q9g xs m ys m)) v (∃ (ys : List ByteArray), Q9f h_1 h l ys ys xs (∃ (m : Nat), Q9g xs m ys m))))) (∃ (h' : AHeap), Q9j (Q8g (Q8y l xs c) x_2 (Q8x xs) lim) h'_1 h' ∧ (∃ (j : Unit), Q7n (Q8y l xs c) (Q8y l xs c) x_2 (Q8x xs) lim lim (Q8a (decide (Q9i xs x_2 ≥ Q9h xs))) (Q8a x_3) (Q92 h l xs = h') True (Q86 (∀ (k : Unit), Q7o) (∀ (v : Value) (h_1 : AHeap), Q87 v (∃ (ys : List ByteArray), Q9f h_1 h l ys ys xs (∃ (m : Nat), Q9g xs m ys m)) v (∃ (ys : List ByteArray), Q9f h_1 h l ys ys xs (∃ (m : Nat), Q9g xs m ys m))))))))))))) = _) ?_; delta Q6k Q6l Q6m Q6r Q6s Q6t Q74 Q76 Q7a Q7b Q7n Q7o Q7s Q7y Q80 Q81 Q82 Q83 Q85 Q86 Q87 Q8a Q8b Q8e Q8g Q8h Q8i Q8k Q8x Q8y Q92 Q9e Q9f Q9g Q9h Q9i Q9j Q9k)
    simp only [true_and, and_true]
    refine fun _ _ => ?_
    rw [wrap_i64 (by omega)]
    refine bs_d (fun _ => ?_) (fun e => absurd e (by omega))
    exact ⟨_, A, ys, rfl, hp⟩
  (refine vc_mp (by kernel_rfl : (∃ (i : Unit), Q7n (Q8y l xs c) (Q8y l xs c) (Q8x xs) (Q8x xs) lim lim Q8l Q8l (Q92 h l xs = Q92 h l xs) True ((∀ (j : Unit), False → Q Q7y h) ∧ (∀ (v : Value) (h_1 : AHeap), v = Q7y ∧ (∃ (ys : List ByteArray), Q9f h_1 h l ys ys xs (∃ (m : Nat), Q9g xs m ys m)) → Q v h_1))) = _) ?_; delta Q6k Q6r Q6s Q7a Q7b Q7n Q7y Q8l Q8x Q8y Q92 Q9f Q9g)
  exact ⟨(), rfl, rfl, rfl, rfl, rfl, rfl, rfl, trivial, fun _ h => h.elim, fun _ _ H => HQ _ _ H⟩
theorem sortTxt_spec (h : AHeap) (l c : Nat) (xs : List ByteArray) (hn : xs.length ≤ 12) (hg : h.get l = some (txtO xs)) :
    ∃ h', ACall Tryz.prog 171 [.slice (some ⟨l, 0, some 1⟩) xs.length c] h (.tuple #[]) h' ∧ ∃ ys, h' = h.put l (some (txtO ys)) ∧ ys.Perm xs ∧ ∃ m, xs.length ≤ m ∧ sortStr.OI ys m := by
  obtain ⟨r, hL⟩ := bitsLen_spec h xs.length hn
  obtain ⟨_, g, A, rfl, H⟩ := pdqTxt_spec h l c xs r hn
  have eh : h.put l (some (txtO xs)) = h := ah_ext rfl fun x => by
    show (if x = l then _ else h.get x) = h.get x
    split
    · rename_i e; rw [e, hg]
    · rfl
  rw [eh] at A
  have : ∃ v h', ACall Tryz.prog 171 [.slice (some ⟨l, 0, some 1⟩) xs.length c] h v h' ∧ v = .tuple #[] ∧ h' = g := by
    refine acall_vc (fun _ => false) (fun _ => []) (fun _ => .none) mixed Tryz.func171 rfl rfl rfl (Nat.le_of_ble_eq_true rfl) (by (refine vc_mp (by kernel_rfl : (Q6l) = _) ?_; delta Q6l); simp only [and_self]) ?_
    (refine vc_mp (by kernel_rfl : (∃ (x : Int) (h' : AHeap), Q8m [Q8n (Q8x xs)] h x h' ∧ (∃ (h'_1 : AHeap), Q8k (Q9j (Q83 (Q8y l xs c) (Q8x xs) x) h' h'_1) (h'_1 = g))) = _) ?_; delta Q6r Q7b Q7y Q83 Q8e Q8k Q8m Q8n Q8x Q8y Q9j)
    rw [u64_id (by omega)]
    exact ⟨_, _, hL, _, A, rfl, rfl⟩
  obtain ⟨_, g2, A2, rfl, eg⟩ := this
  rw [eg] at A2
  exact ⟨_, A2, H⟩
def is0TxtL (h : AHeap) : Nat → LSpec
  | 0 => {
    ι := Unit
    κ := Unit
    I := fun _ => True
    μ := fun _ => 0
    head := fun _ => ⟨[(0, .slice none 0 0), (1, .int .i64 0), (2, .int .i64 0), (6, .int .i64 1)], [], h⟩
    post := fun _ => ⟨[], [], h⟩
    R := fun _ _ => True
    ret := fun _ _ _ => False }
  | _ => {
    ι := Unit
    κ := Unit
    I := fun _ => False
    μ := fun _ => 0
    head := fun _ => ⟨[(0, .slice none 0 0), (1, .int .i64 0), (2, .int .i64 0), (6, .int .i64 1), (7, .int .i64 1)], [], h⟩
    post := fun _ => ⟨[(0, .slice none 0 0), (1, .int .i64 0), (2, .int .i64 0), (6, .int .i64 1)], [], h⟩
    R := fun _ _ => True
    ret := fun _ _ _ => False }
theorem insertTxt_nil (h : AHeap) : ACall Tryz.prog 177 [.slice none 0 0, .int .i64 0, .int .i64 0] h (.tuple #[]) h := by
  refine acall_out ?_
  refine acall_vc (fun _ => false) (fun r => match r with | 4 => [(0, 0, []), (1, 0, []), (2, 0, []), (3, 0, []), (4, 0, []), (5, 0, []), (6, 0, []), (8, 0, []), (9, 0, []), (10, 0, []), (11, 0, []), (7, 1, []), (12, 1, []), (13, 3, []), (14, 0, [])] | 6 => [(0, 0, []), (1, 0, []), (2, 0, []), (3, 0, []), (4, 0, []), (5, 0, []), (6, 0, []), (7, 0, []), (8, 0, []), (10, 0, []), (11, 0, []), (12, 0, []), (9, 1, []), (13, 1, []), (14, 0, []), (15, 3, []), (16, 0, []), (17, 3, [])] | _ => []) (is0TxtL h) mixed Tryz.func177 rfl rfl rfl (Nat.le_of_ble_eq_true rfl) ?_ ?_
  · (refine vc_mp (by kernel_rfl : (Q77 (∀ (i : Unit), True → (∃ (j : Unit), h = h ∧ True)) (∀ (i : Unit), False → (∃ (l r : Nat), Q8p l r (∃ (l_1 r_1 : Nat), Q8r l_1 r_1 (∃ (x : ByteArray), Q7l h l r Q7s (Q8v x) (∃ (x_1 : ByteArray), Q7l h l_1 r_1 Q8q (Q8v x_1) (∃ (x_2 : Bool) (h' : AHeap), Q76 183 [Value.string x, Value.string x_1] h x_2 h' x_2 (∃ (l r : Nat), Q8r l r (∃ (l_2 r_2 : Nat), Q8p l_2 r_2 (∃ (x : ByteArray), Q7l h' l r Q8q (Q8v x) (∃ (x_3 : ByteArray), Q7l h' l_2 r_2 Q7s (Q8v x_3) (∃ (l r : Nat), Q8p l r (∃ (h'_1 : AHeap), Q7m h' l r Q7s (Q8v x) h'_1 (∃ (l r : Nat), Q8r l r (∃ (h' : AHeap), Q7m h'_1 l r Q8q (Q8v x_3) h' (∃ (j : Unit), Q8t Q7s Q7s (Q6s Q8q Q7s) (h = h') False Q85 ((∀ (k : Unit), True → True) ∧ (∀ (v : Value) (h : AHeap), Q7o))))))))))) (∃ (j : Unit), Q6k (Q8s = Q8s) Q7a Q7a (Q6s Q7s Q7s) (h = h' ∧ True))))))))) = _) ?_; delta Q6k Q6n Q6r Q6s Q6t Q74 Q76 Q77 Q7a Q7k Q7l Q7m Q7o Q7s Q85 Q8o Q8p Q8q Q8r Q8s Q8t Q8v)
    simp only [true_and, and_true]
    refine ⟨fun _ _ => ?_, fun _ h => h.elim⟩
    exact ⟨(), trivial⟩
  (refine vc_mp (by kernel_rfl : (∃ (i : Unit), Q6k (Q8s = Q8s) Q7a Q7a (Q6s Q7z Q7s) (h = h ∧ True ∧ (∀ (j : Unit), True → Q8i (h = h)) ∧ (∀ (v : Value) (h_1 : AHeap), False → v = Q7y ∧ h_1 = h))) = _) ?_; delta Q6k Q6r Q6s Q6t Q7a Q7s Q7y Q7z Q8i Q8s)
  exact ⟨(), rfl, rfl, rfl, congrArg (Value.int .i64) (by decide), rfl, trivial, fun _ _ => ⟨rfl, rfl⟩, fun _ _ h => h.elim⟩
def pdq0TxtL (h : AHeap) (lim : Int) : LSpec where
  ι := Unit
  κ := Unit
  I := fun _ => True
  μ := fun _ => 0
  head := fun _ => ⟨[(0, .slice none 0 0), (1, .int .i64 0), (2, .int .i64 0), (3, .int .i64 lim), (8, .bool true), (9, .bool true)], [], h⟩
  post := fun _ => ⟨[], [], h⟩
  R := fun _ _ => False
  ret := fun _ v h' => v = .tuple #[] ∧ h' = h
theorem sortTxt_nil (h : AHeap) : ACall Tryz.prog 171 [.slice none 0 0] h (.tuple #[]) h := by
  obtain ⟨r, hL⟩ := bitsLen_spec h 0 (by omega)
  have A : ACall Tryz.prog 174 [.slice none 0 0, .int .i64 0, .int .i64 0, .int .i64 r] h (.tuple #[]) h := by
    refine acall_out ?_
    refine acall_vc (fun _ => false) (fun r => match r with | 17 => [(0, 0, []), (1, 0, []), (2, 0, []), (3, 0, []), (4, 0, []), (5, 0, []), (6, 0, []), (8, 0, []), (9, 0, []), (10, 0, []), (7, 1, []), (11, 1, []), (12, 3, []), (13, 0, []), (14, 0, [])] | _ => []) (fun _ => pdq0TxtL h r) mixed Tryz.func174 rfl rfl rfl (Nat.le_of_ble_eq_true rfl) ?_ ?_
    · (refine vc_mp (by kernel_rfl : (Q81 (∀ (i : Unit), True → (∃ (h' : AHeap), Q8k (Q8e 177 [Q8s, Q6r 0, Q6r 0] h h') (h' = h)))) = _) ?_; delta Q6k Q6l Q6m Q6r Q74 Q7y Q80 Q81 Q8e Q8k Q8s)
      simp only [true_and, and_true]
      exact fun _ _ => ⟨_, insertTxt_nil h, rfl⟩
    (refine vc_mp (by kernel_rfl : (∃ (i : Unit), Q8t r r Q8l Q8l (h = h) True ((∀ (j : Unit), False → Q8i (h = h)) ∧ (∀ (v : Value) (h_1 : AHeap), Q87 v (h_1 = h) v (h_1 = h)))) = _) ?_; delta Q6k Q6r Q6s Q7a Q7y Q87 Q8i Q8l Q8s Q8t)
    exact ⟨(), rfl, rfl, rfl, rfl, rfl, rfl, rfl, trivial, fun _ h => h.elim, fun _ _ H => H⟩
  refine acall_out ?_
  refine acall_vc (fun _ => false) (fun _ => []) (fun _ => .none) mixed Tryz.func171 rfl rfl rfl (Nat.le_of_ble_eq_true rfl) (by (refine vc_mp (by kernel_rfl : (Q6l) = _) ?_; delta Q6l); simp only [and_self]) ?_
  (refine vc_mp (by kernel_rfl : (∃ (x : Int) (h' : AHeap), Q8m [Q8n Q8o] h x h' ∧ (∃ (h'_1 : AHeap), Q8k (Q9j (Q83 Q8s Q8o x) h' h'_1) (h'_1 = h))) = _) ?_; delta Q6r Q7y Q83 Q8e Q8k Q8m Q8n Q8o Q8s Q9j)
  exact ⟨_, _, hL, _, A, rfl, rfl⟩
end Go.Proofs.YtpgfjadjhliohaaGreat
