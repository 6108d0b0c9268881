/- W5. -/
import Derived.Test.YtpgfjadjhliohaaGreatV19W4
namespace Go.Proofs.YtpgfjadjhliohaaGreat
open Go.Abs Go.Dat
set_option maxRecDepth 100000
set_option maxHeartbeats 8000000
def len8Tab : ByteArray := ByteArray.mk (Array.mk [0, 1, 2, 2, 3, 3, 3, 3, 4, 4, 4, 4, 4, 4, 4, 4, 5, 5, 5, 5, 5, 5, 5, 5, 5, 5, 5, 5, 5, 5, 5, 5, 6, 6, 6, 6, 6, 6, 6, 6, 6, 6, 6, 6, 6, 6, 6, 6, 6, 6, 6, 6, 6, 6, 6, 6, 6, 6, 6, 6, 6, 6, 6, 6, 7, 7, 7, 7, 7, 7, 7, 7, 7, 7, 7, 7, 7, 7, 7, 7, 7, 7, 7, 7, 7, 7, 7, 7, 7, 7, 7, 7, 7, 7, 7, 7, 7, 7, 7, 7, 7, 7, 7, 7, 7, 7, 7, 7, 7, 7, 7, 7, 7, 7, 7, 7, 7, 7, 7, 7, 7, 7, 7, 7, 7, 7, 7, 7, 8, 8, 8, 8, 8, 8, 8, 8, 8, 8, 8, 8, 8, 8, 8, 8, 8, 8, 8, 8, 8, 8, 8, 8, 8, 8, 8, 8, 8, 8, 8, 8, 8, 8, 8, 8, 8, 8, 8, 8, 8, 8, 8, 8, 8, 8, 8, 8, 8, 8, 8, 8, 8, 8, 8, 8, 8, 8, 8, 8, 8, 8, 8, 8, 8, 8, 8, 8, 8, 8, 8, 8, 8, 8, 8, 8, 8, 8, 8, 8, 8, 8, 8, 8, 8, 8, 8, 8, 8, 8, 8, 8, 8, 8, 8, 8, 8, 8, 8, 8, 8, 8, 8, 8, 8, 8, 8, 8, 8, 8, 8, 8, 8, 8, 8, 8, 8, 8, 8, 8, 8, 8, 8, 8, 8, 8, 8, 8])
abbrev Qb1 := AHeap
abbrev Qb2 := List Value
abbrev Qb3 := Nat × List Int
abbrev Qb4 := List Int
abbrev Qb5 := Nat × Nat × List Int
abbrev Qb6 := Nat × List ByteArray
abbrev Qb7 := List ByteArray
abbrev Qb8 := Nat × Nat × List ByteArray
def Q7s (a b c d e : Prop) := a ∧ b ∧ c ∧ d ∧ e
def Q7t := True ∧ True
def Q7u := True ∧ Q7t ∧ True
def Q7v (a : Int) := 0 ≤ a
def Q7w (a : Int) := IntKind.wrap IntKind.u8 a
def Q7x := (↑(ByteArray.size len8Tab) : Int)
def Q7y (a : Bool) (b : Int) (c : Prop) (d : Int) (e f : Prop) := bs a (Q7v 8 ∧ Q7v b ∧ b < Q7x ∧ c) (Q7v (Q7w d) ∧ e ∧ f)
def Q7z (a : Int) := Value.int IntKind.i64 a
def Q80 (a b : Int) := Q7z a = Q7z b
def Q81 (a : Int) := IntKind.wrap IntKind.i64 a
def Q82 (a b c : Int) (d : Qb1) := Q80 (Q81 (a + Q81 (byteAt len8Tab b))) c ∧ d = d
def Q83 (a b : Int) := Int.fdiv a (HPow.hPow 2 (min (Int.toNat b) (IntKind.bits IntKind.u64)))
def Q84 (a : Nat) := Q83 (↑a : Int) 8
def Q85 (a : Int) := Q81 (a + 8)
def Q86 (a : Nat) := Q83 (↑a : Int) 16
def Q87 (a : Int) := Q81 (a + 16)
def Q88 (a : Int) := Q7w (Q83 a 8)
def Q89 := (32 : Int)
def Q8a (a : Nat) := Q83 (↑a : Int) Q89
def Q8b (a : Nat) := Q83 (Q8a a) 16
theorem bitsLen64_spec (h : AHeap) (n : Nat) (hn : n ≤ 12) : ∃ r : Int, ACall Tryz.prog 187 [.int .u64 n] h (.int .i64 r) h := by
  have : ∃ v h', ACall Tryz.prog 187 [.int .u64 n] h v h' ∧ ∃ r : Int, v = .int .i64 r ∧ h' = h := by
    refine acall_vc (fun _ => false) (fun _ => []) (fun _ => .none) mixed Tryz.func187 rfl rfl rfl (Nat.le_of_ble_eq_true rfl) (by (refine vc_mp (by kernel_rfl : (Q7s True Q7u Q7u Q7u Q7t) = _) ?_; delta Q7s Q7t Q7u); simp only [and_self]) ?_
    (refine vc_mp (by kernel_rfl : (bs (decide ((↑n : Int) ≥ 4294967296)) (Q7v Q89 ∧ bs (decide (Q8a n ≥ 65536)) (Q7v 16 ∧ Q7y (decide (Q8b n ≥ 256)) (Q88 (Q8b n)) (∃ (r : Int), Q82 (Q85 (Q87 Q89)) (Q88 (Q8b n)) r h) (Q8b n) (Q7w (Q8b n) < Q7x) (∃ (r : Int), Q82 (Q87 Q89) (Q7w (Q8b n)) r h)) (Q7y (decide (Q8a n ≥ 256)) (Q88 (Q8a n)) (∃ (r : Int), Q82 (Q85 Q89) (Q88 (Q8a n)) r h) (Q8a n) (Q7w (Q8a n) < Q7x) (∃ (r : Int), Q82 Q89 (Q7w (Q8a n)) r h))) (bs (decide ((↑n : Int) ≥ 65536)) (Q7v 16 ∧ Q7y (decide (Q86 n ≥ 256)) (Q88 (Q86 n)) (∃ (r : Int), Q82 (Q85 (Q87 0)) (Q88 (Q86 n)) r h) (Q86 n) (Q7w (Q86 n) < Q7x) (∃ (r : Int), Q82 (Q87 0) (Q7w (Q86 n)) r h)) (Q7y (decide ((↑n : Int) ≥ 256)) (Q7w (Q84 n)) (∃ (r : Int), Q82 (Q85 0) (Q7w (Q84 n)) r h) (↑n : Int) (Q7w (↑n : Int) < Q7x) (∃ (r : Int), Q82 0 (Q7w (↑n : Int)) r h)))) = _) ?_; delta Q7v Q7w Q7x Q7y Q7z Q80 Q81 Q82 Q83 Q84 Q85 Q86 Q87 Q88 Q89 Q8a Q8b)
    refine bs_d (fun e => absurd e (by omega)) (fun _ => bs_d (fun e => absurd e (by omega)) (fun _ => bs_d (fun e => absurd e (by omega)) (fun _ => ⟨by rw [wrap_u8]; omega, by rw [wrap_u8]; exact Int.lt_of_lt_of_le (b := 13) (by omega) (by decide), _, rfl, rfl⟩)))
  obtain ⟨_, g, A, r, rfl, eg⟩ := this
  rw [eg] at A
  exact ⟨r, A⟩
theorem bitsLen_spec (h : AHeap) (n : Nat) (hn : n ≤ 12) : ∃ r : Int, ACall Tryz.prog 175 [.int .u64 n] h (.int .i64 r) h := by
  obtain ⟨r, A⟩ := bitsLen64_spec h n hn
  refine ⟨r, acall_out (acall_vc (fun _ => false) (fun _ => []) (fun _ => .none) mixed Tryz.func175 rfl rfl rfl (Nat.le_of_ble_eq_true rfl) (by (refine vc_mp (by kernel_rfl : (True ∧ (Q7t ∧ True) ∧ Q7t) = _) ?_; delta Q7t); simp only [and_self]) ?_)⟩
  (refine vc_mp (by kernel_rfl : (∃ (x : Int) (h' : AHeap), ACall Tryz.prog 187 [Value.int IntKind.u64 (↑n : Int)] h (Q7z x) h' ∧ Q80 x r ∧ h' = h) = _) ?_; delta Q7z Q80)
  exact ⟨_, _, A, rfl, rfl⟩
theorem u64_id {n : Int} (h : 0 ≤ n ∧ n < 18446744073709551616) : IntKind.u64.wrap n = n := by
  have e : IntKind.u64.wrap n = if (false && decide (n % 18446744073709551616 ≥ 9223372036854775808)) = true then n % 18446744073709551616 - 18446744073709551616 else n % 18446744073709551616 := rfl
  rw [e]; simp only [Bool.false_and, Bool.false_eq_true, if_false]; omega
def Q8c := True ∧ True ∧ True
def Q8d (a b : Bool) (c d : Qb1) := Value.bool a = Value.bool b ∧ c = d
theorem nanNum_spec (h : AHeap) (x : Int) : ACall Tryz.prog 206 [.int .i64 x] h (.bool false) h := by
  refine acall_out (acall_vc (fun _ => false) (fun _ => []) (fun _ => .none) mixed Tryz.func206 rfl rfl rfl (Nat.le_of_ble_eq_true rfl) (by (refine vc_mp (by kernel_rfl : (Q8c) = _) ?_; delta Q8c); simp only [and_self]) ?_)
  (refine vc_mp (by kernel_rfl : (Q8d (not (decide (x = x))) false h h) = _) ?_; delta Q8d)
  exact ⟨by rw [decide_eq_true rfl]; rfl, rfl⟩
def Q8e (a : FuncId) (b : Qb2) (c : Qb1) (d : Bool) (e : Qb1) (f : Bool) (g h : Prop) := ACall Tryz.prog a b c (Value.bool d) e ∧ bs f g h
theorem lessNum_spec (h : AHeap) (x y : Int) : ACall Tryz.prog 194 [.int .i64 x, .int .i64 y] h (.bool ((fun a b : Int => decide (a < b)) x y)) h := by
  refine acall_out (acall_vc (fun _ => false) (fun _ => []) (fun _ => .none) mixed Tryz.func194 rfl rfl rfl (Nat.le_of_ble_eq_true rfl) (by (refine vc_mp (by kernel_rfl : (Q8c) = _) ?_; delta Q8c); simp only [and_self]) ?_)
  (refine vc_mp (by kernel_rfl : (∃ (x_1 : Bool) (h' : AHeap), Q8e 206 [Q7z x] h x_1 h' x_1 (∃ (x_2 : Bool) (h'_1 : AHeap), Q8e 206 [Q7z y] h' x_2 h'_1 (not x_2) (Value.bool true = Value.bool (decide (x < y)) ∧ h'_1 = h) (Q8d (decide (x < y)) (decide (x < y)) h'_1 h)) (Q8d (decide (x < y)) (decide (x < y)) h' h)) = _) ?_; delta Q7z Q8d Q8e)
  refine ⟨_, _, nanNum_spec _ _, bs_b (fun e => by cases e) (fun _ => ?_)⟩
  exact ⟨rfl, rfl⟩
structure InsNum (xs : List Int) (i : Nat) (ys : List Int) : Prop where
  perm : ys.Perm xs
  ord : sortInt.OI ys i
structure InJNum (xs : List Int) (i j : Nat) (ys : List Int) : Prop where
  perm : ys.Perm xs
  hj : j ≤ i
  hi : i < xs.length
  ord : sortInt.OJ ys i j
def isNumL (h : AHeap) (l c : Nat) (xs : List Int) : Nat → LSpec
  | 0 => {
    ι := Nat × List Int
    κ := Nat × List Int
    I := fun i => InsNum xs i.1 i.2 ∧ 1 ≤ i.1 ∧ (i.1 ≤ xs.length ∨ i.1 = 1)
    μ := fun i => xs.length - i.1
    head := fun i => ⟨[(0, .slice (some ⟨l, 0, some 1⟩) xs.length c), (1, .int .i64 0), (2, .int .i64 xs.length), (6, .int .i64 i.1)], [], h.put l (some (numO i.2))⟩
    post := fun i => ⟨[], [], h.put l (some (numO i.2))⟩
    R := fun _ i => InsNum xs i.1 i.2 ∧ xs.length ≤ i.1
    ret := fun _ _ _ => False }
  | _ => {
    ι := Nat × Nat × List Int
    κ := Nat × List Int
    I := fun i => InJNum xs i.1 i.2.1 i.2.2
    μ := fun i => i.2.1
    head := fun i => ⟨[(0, .slice (some ⟨l, 0, some 1⟩) xs.length c), (1, .int .i64 0), (2, .int .i64 xs.length), (6, .int .i64 i.1), (7, .int .i64 i.2.1)], [], h.put l (some (numO i.2.2))⟩
    post := fun i => ⟨[(0, .slice (some ⟨l, 0, some 1⟩) xs.length c), (1, .int .i64 0), (2, .int .i64 xs.length), (6, .int .i64 i.1)], [], h.put l (some (numO i.2))⟩
    R := fun i k => k.1 = i.1 ∧ InsNum xs (i.1 + 1) k.2
    ret := fun _ _ _ => False }
def Q8f (a b : Prop) := Q7s True a Q8c (Q7s True b Q8c True True) True
def Q8g (a : Qb3) := (↑(Prod.fst a) : Int)
def Q8h (a : Qb4) := (↑(List.length a) : Int)
def Q8i := Q7z 0 = Q7z 0
def Q8j (a : Nat) := Addr.mk a 0 (some 1)
def Q8k (a : Nat) (b : Qb4) (c : Nat) := Value.slice (some (Q8j a)) (List.length b) c
def Q8l (a : Nat) (b : Qb4) (c : Nat) (d : Int) (e : Qb3) (f g h : Prop) := Q7s (Q8k a b c = Q8k a b c) Q8i (Q80 (Q8h b) (Q8h b)) (Q80 d (Q8g e)) (f ∧ g ∧ h)
def Q8m (a : Qb4) (b : Qb5) (c : Qb3) := InsNum a (Prod.fst b + 1) (Prod.snd c)
def Q8n (a : Qb3) (b : Qb5) := Prod.fst a = Prod.fst b
def Q8o (a : Qb1) (b : Nat) (c : Qb4) := AHeap.put a b (some (numO c))
def Q8p (a : Qb1) (b : Nat) (c : Qb3) := Q8o a b (Prod.snd c)
def Q8q (a : Qb1) (b : Nat) (c : Qb5) := Q8p a b (Prod.snd c)
def Q8r (a : Qb5) := (↑(Prod.fst a) : Int)
def Q8s (a : Option Addr) (b c : Nat) (d e : Int) (f : Prop) := a = some (Addr.mk b c (some 1)) ∧ Q7v d ∧ d < e ∧ f
def Q8t (a : Qb5) := Prod.fst (Prod.snd a)
def Q8u (a : Qb5) := (↑(Q8t a) : Int)
def Q8v (a b c : Nat) (d : Qb5) (e : Qb4) (f : Prop) := Q8s (some (Q8j a)) b c (Q8u d) (Q8h e) f
def Q8w := (1 : Int)
def Q8x (a : Qb5) := Q81 (Q8u a - Q8w)
def Q8y (a b c : Nat) (d : Qb5) (e : Qb4) (f : Prop) := Q8s (some (Q8j a)) b c (Q8x d) (Q8h e) f
def Q8z (a : Qb1) (b c : Nat) (d : Int) (e : Qb2) (f : Prop) := AHeap.ld a b (c + Int.toNat d) 0 1 = some e ∧ f
def Q90 (a : Qb1) (b c : Nat) (d : Int) (e : Qb2) (f : Qb1) (g : Prop) := AHeap.wr a b (c + Int.toNat d) 0 e = some f ∧ g
def Q91 (a : Nat) (b : Qb4) (c : Nat) (d e f : Int) (g h i j k : Prop) := Q7s (Q8k a b c = Q8k a b c) Q8i (Q80 d (Q8h b)) (Q80 e f) (Q7s g h i j k)
def Q92 := False → False
def Q93 (a : Qb4) (b : Qb5) := InJNum a (Prod.fst b) (Q8t b) (Prod.snd (Prod.snd b))
def Q94 (a : Qb4) (b : Qb3) := List.length a ≤ Prod.fst b
def Q95 (a : Qb4) (b : Qb3) := InsNum a (Prod.fst b) (Prod.snd b)
def Q96 (a : Qb4) (b : Qb3) (c : Prop) := Q95 a b ∧ 1 ≤ Prod.fst b ∧ c
def Q97 (a : Qb3) := Prod.fst a = 1
def Q98 (a : Int) := Q81 (a + Q8w)
def Q99 := Value.tuple (Array.mk List.nil)
theorem insertNum_spec (h : AHeap) (l c : Nat) (xs : List Int) (hn : xs.length ≤ 12) :
    ∃ v h', ACall Tryz.prog 188 [.slice (some ⟨l, 0, some 1⟩) xs.length c, .int .i64 0, .int .i64 xs.length] (h.put l (some (numO xs))) v h' ∧ v = .tuple #[] ∧ ∃ ys, h' = h.put l (some (numO ys)) ∧ ys.Perm xs ∧ ∃ m, xs.length ≤ m ∧ sortInt.OI ys m := by
  refine acall_q fun Q HQ => ?_
  refine acall_vc (fun _ => false) (fun r => match r with | 4 => [(0, 0, []), (1, 0, []), (2, 0, []), (3, 0, []), (4, 0, []), (5, 0, []), (6, 0, []), (8, 0, []), (9, 0, []), (10, 0, []), (11, 0, []), (7, 1, []), (12, 1, []), (13, 3, []), (14, 0, [])] | 6 => [(0, 0, []), (1, 0, []), (2, 0, []), (3, 0, []), (4, 0, []), (5, 0, []), (6, 0, []), (7, 0, []), (8, 0, []), (10, 0, []), (11, 0, []), (12, 0, []), (9, 1, []), (13, 1, []), (14, 0, []), (15, 3, []), (16, 0, []), (17, 3, [])] | _ => []) (isNumL h l c xs) mixed Tryz.func188 rfl rfl rfl (Nat.le_of_ble_eq_true rfl) ?_ ?_
  · (refine vc_mp (by kernel_rfl : (Q8f (∀ (i : Nat × List Int), Q96 xs i (Prod.fst i ≤ List.length xs ∨ Q97 i) → bs (decide (Q8g i < Q8h xs)) (∃ (i_1 : Nat × Nat × List Int), Q91 l xs c (Q8h xs) (Q8g i) (Q8r i_1) (Q80 (Q8g i) (Q8u i_1)) (Q8q h l i_1 = Q8p h l i) (Q93 xs i_1) (∀ (j : Nat × List Int), Q8n j i_1 ∧ Q8m xs i_1 j → (∃ (j_1 : Nat × List Int), Q91 l xs c (Q8h xs) (Q98 (Q8g j)) (Q8g j_1) (Q8p h l j_1 = Q8p h l j) (Q96 xs j_1 (Prod.fst j_1 ≤ List.length xs ∨ Q97 j_1)) (List.length xs - Prod.fst j_1 < List.length xs - Prod.fst i) (∀ (k : Nat × List Int), Q95 xs k ∧ Q94 xs k → Q95 xs k ∧ Q94 xs k) (∀ (v : Value) (h : AHeap), Q92))) (∀ (v : Value) (h : AHeap), Q92)) (∃ (j : Nat × List Int), Q8p h l j = Q8p h l i ∧ Q95 xs j ∧ Q94 xs j)) (∀ (i : Nat × Nat × List Int), Q93 xs i → bs (decide (Q8u i > 0)) (∃ (l_1 r : Nat), Q8v l l_1 r i xs (∃ (l_2 r_1 : Nat), Q8y l l_2 r_1 i xs (∃ (x : Int), Q8z (Q8q h l i) l_1 r (Q8u i) [Q7z x] (∃ (x_1 : Int), Q8z (Q8q h l i) l_2 r_1 (Q8x i) [Q7z x_1] (∃ (x_2 : Bool) (h' : AHeap), Q8e 194 [Q7z x, Q7z x_1] (Q8q h l i) x_2 h' x_2 (∃ (l_3 r : Nat), Q8y l l_3 r i xs (∃ (l_4 r_2 : Nat), Q8v l l_4 r_2 i xs (∃ (x : Int), Q8z h' l_3 r (Q8x i) [Q7z x] (∃ (x_3 : Int), Q8z h' l_4 r_2 (Q8u i) [Q7z x_3] (∃ (l_5 r : Nat), Q8v l l_5 r i xs (∃ (h'_1 : AHeap), Q90 h' l_5 r (Q8u i) [Q7z x] h'_1 (∃ (l_6 r : Nat), Q8y l l_6 r i xs (∃ (h' : AHeap), Q90 h'_1 l_6 r (Q8x i) [Q7z x_3] h' (∃ (j : Nat × Nat × List Int), Q91 l xs c (Q8h xs) (Q8r i) (Q8r j) (Q80 (Q8x i) (Q8u j)) (Q8q h l j = h') (Q93 xs j) (Q8t j < Q8t i) ((∀ (k : Nat × List Int), Q8n k j ∧ Q8m xs j k → Q8n k i ∧ Q8m xs i k) ∧ (∀ (v : Value) (h : AHeap), Q92))))))))))) (∃ (j : Nat × List Int), Q8l l xs c (Q8r i) j (Q8p h l j = h') (Q8n j i) (Q8m xs i j))))))) (∃ (j : Nat × List Int), Q8l l xs c (Q8r i) j (Q8p h l j = Q8q h l i) (Q8n j i) (Q8m xs i j)))) = _) ?_; delta Q7s Q7v Q7z Q80 Q81 Q8c Q8e Q8f Q8g Q8h Q8i Q8j Q8k Q8l Q8m Q8n Q8o Q8p Q8q Q8r Q8s Q8t Q8u Q8v Q8w Q8x Q8y Q8z Q90 Q91 Q92 Q93 Q94 Q95 Q96 Q97 Q98)
    simp only [true_and, and_true]
    refine ⟨fun ⟨i, ys⟩ ⟨I, h1, h2⟩ => ?_, fun ⟨i, j, ys⟩ J => ?_⟩
    · dsimp only at *
      refine bs_d (fun hlt => ⟨(i, i, ys), rfl, rfl, rfl, ⟨I.perm, Nat.le_refl _, by omega, sortInt.i2j _ _ I.ord⟩, fun ⟨i', ys'⟩ ⟨e, I'⟩ => ?_, fun _ _ h => h⟩) (fun hge => ⟨(i, ys), rfl, I, by omega⟩)
      dsimp only at e I'
      subst e
      exact ⟨(i' + 1, ys'), by rw [wrap_i64 (by omega)]; rfl, rfl, ⟨I', by dsimp only; omega, .inl (by dsimp only; omega)⟩, by dsimp only; omega, fun _ h => h, fun _ _ h => h⟩
    · have hl := J.perm.length_eq
      have hji := J.hj
      have hin := J.hi
      dsimp only at *
      refine bs_d (fun hlt => ?_) (fun hge => ⟨(i, ys), rfl, rfl, rfl, J.perm, sortInt.fin0 ys i ((show j = 0 by omega) ▸ (show sortInt.OJ ys i j from J.ord))⟩)
      rw [wrap_pred (i := j) (by omega) (by omega)]
      obtain ⟨a, ha⟩ : ∃ y, ys[j - 1]? = some y := ⟨_, List.getElem?_eq_getElem (by omega)⟩
      obtain ⟨b, hb⟩ : ∃ y, ys[j]? = some y := ⟨_, List.getElem?_eq_getElem (by omega)⟩
      refine ⟨l, 0, rfl, Int.natCast_nonneg _, by omega, l, 0, rfl, Int.natCast_nonneg _, by omega, _, num_ld hb, _, num_ld ha, _, _, lessNum_spec _ b a, bs_of (fun e => ?_) (fun e => ⟨(i, ys), rfl, rfl, rfl, J.perm, sortInt.fin ys i j a b J.ord (by omega) J.hj ha hb e⟩)⟩
      refine ⟨l, 0, rfl, Int.natCast_nonneg _, by omega, l, 0, rfl, Int.natCast_nonneg _, by omega, _, num_ld ha, _, num_ld hb, ?_⟩
      refine ⟨l, 0, rfl, Int.natCast_nonneg _, by omega, _, num_wr a (by omega), l, 0, rfl, Int.natCast_nonneg _, by omega, _, num_wr b (by rw [List.length_set]; omega), ?_⟩
      refine ⟨(i, j - 1, (ys.set j a).set (j - 1) b), rfl, rfl, rfl, ⟨(swap_perm (by omega) ha hb).trans J.perm, by dsimp only; omega, hin, sortInt.step ys i j a b J.ord (by omega) hji ha hb e⟩, by dsimp only; omega, fun _ h => h, fun _ _ h => h⟩
  (refine vc_mp (by kernel_rfl : (∃ (i : Nat × List Int), Q8l l xs c (Q98 0) i (Q8p h l i = Q8o h l xs) (Q96 xs i (Prod.fst i ≤ List.length xs ∨ Q97 i)) ((∀ (j : Nat × List Int), Q95 xs j ∧ Q94 xs j → Q Q99 (Q8p h l j)) ∧ (∀ (v : Value) (h : AHeap), False → Q v h))) = _) ?_; delta Q7s Q7z Q80 Q81 Q8g Q8h Q8i Q8j Q8k Q8l Q8o Q8p Q8w Q94 Q95 Q96 Q97 Q98 Q99)
  refine ⟨(1, xs), rfl, rfl, rfl, by rw [wrap_i64 (by omega)]; rfl, rfl, ⟨⟨.refl _, sortInt.start xs⟩, Nat.le_refl _, .inr rfl⟩, fun ⟨m, ys⟩ ⟨I, hm⟩ => HQ _ _ ⟨rfl, ys, rfl, I.perm, m, hm, I.ord⟩, fun _ _ h => h.elim⟩
def pdqNumL (h : AHeap) (l c : Nat) (xs : List Int) (lim : Int) : LSpec where
  ι := Unit
  κ := Unit
  I := fun _ => True
  μ := fun _ => 0
  head := fun _ => ⟨[(0, .slice (some ⟨l, 0, some 1⟩) xs.length c), (1, .int .i64 0), (2, .int .i64 xs.length), (3, .int .i64 lim), (8, .bool true), (9, .bool true)], [], h.put l (some (numO xs))⟩
  post := fun _ => ⟨[], [], h⟩
  R := fun _ _ => False
  ret := fun _ v h' => v = .tuple #[] ∧ ∃ ys, h' = h.put l (some (numO ys)) ∧ ys.Perm xs ∧ ∃ m, xs.length ≤ m ∧ sortInt.OI ys m
def Q9a := True ∧ Q8c ∧ True
def Q9b (a : Prop) := Q7s True True a True (Q7s Q7u Q7u Q7u True (Q7s Q9a Q9a Q9a True (Q7s True True True True (Q8c ∧ True ∧ Q7t))))
def Q9c (a : FuncId) (b : Qb2) (c : Qb1) (d : Qb2) (e : Qb1) := ACall Tryz.prog a b c (Value.tuple (Array.mk d)) e
def Q9d (a : Value) (b c : Int) := [a, Q7z 0, Q7z b, Q7z c]
def Q9e (a : Nat) (b : Qb4) (c : Nat) (d : Int) (e : Qb1) (f : Int) (g : Bool) (h : Qb1) (i : Prop) := Q9c 196 (Q9d (Q8k a b c) (Q8h b) d) e [Q7z f, Value.bool g] h ∧ (8 : Int) ≠ (0 : Int) ∧ i
def Q9f (a : FuncId) (b : Qb2) (c d : Qb1) := ACall Tryz.prog a b c Q99 d
def Q9g (a : Qb2) (b c : Qb1) := Q9f 176 a b c
def Q9h (a : Nat) (b : Qb4) (c : Nat) (d e : Int) (f g : Qb1) (h : Prop) := Q9g [Q8k a b c, Q7z (Q98 d), Q7z (Q8h b), Q7z e] f g ∧ h
def Q9i (a : Value) (b : Prop) := a = Q99 ∧ b → a = Q99 ∧ b
def Q9j (a b : Qb1) (c : Nat) (d e : Qb4) (f : Prop) := a = Q8o b c d ∧ List.Perm d e ∧ f
def Q9k (a : Qb4) (b : Nat) (c : Qb4) := List.length a ≤ b ∧ SortS.OI sortInt c b
def Q9l := (0 : Nat) < (0 : Nat)
def Q9m (a : Bool) := Value.bool a = Value.bool true
def Q9n (a : Int) := Q81 (a - 0)
def Q9o (a : Qb4) := Q81 (Int.tdiv (Q9n (Q8h a)) 8)
def Q9p (a : Qb4) (b : Int) := Q81 (Q8h a - b)
def Q9q (a : Nat) (b : Qb4) (c : Nat) (d e : Int) (f g : Bool) (h i : Qb1) (j k : Prop) := Q7s (Q8k a b c = Q8k a b c) (Q7z (Q98 d) = Q7z 0) (Q80 (Q8h b) (Q8h b)) (Q80 e e) (Q7s (Q9m f) (Q9m g) (Q8o h a b = i) True (Q9l ∧ j ∧ k))
def Q9r (a : Prop) := Q99 = Q99 ∧ a
def Q9s (a : Nat) (b : Qb4) (c : Nat) := [Q8k a b c, Q7z 0, Q7z (Q8h b)]
def Q9t (a b : Prop) := a ∧ Q99 = Q99 ∧ b
def Q9u := Value.bool true = Value.bool true
theorem pdqNum_spec (h : AHeap) (l c : Nat) (xs : List Int) (lim : Int) (hn : xs.length ≤ 12) :
    ∃ v h', ACall Tryz.prog 176 [.slice (some ⟨l, 0, some 1⟩) xs.length c, .int .i64 0, .int .i64 xs.length, .int .i64 lim] (h.put l (some (numO xs))) v h' ∧ v = .tuple #[] ∧ ∃ ys, h' = h.put l (some (numO ys)) ∧ ys.Perm xs ∧ ∃ m, xs.length ≤ m ∧ sortInt.OI ys m := by
  obtain ⟨_, g, A, rfl, ys, rfl, hp⟩ := insertNum_spec h l c xs hn
  refine acall_q fun Q HQ => ?_
  refine acall_vc (fun _ => false) (fun r => match r with | 17 => [(0, 0, []), (1, 0, []), (2, 0, []), (3, 0, []), (4, 0, []), (5, 0, []), (6, 0, []), (8, 0, []), (9, 0, []), (10, 0, []), (7, 1, []), (11, 1, []), (12, 3, []), (13, 0, []), (14, 0, [])] | _ => []) (fun _ => pdqNumL h l c xs lim) mixed Tryz.func176 rfl rfl rfl (Nat.le_of_ble_eq_true rfl) ?_ ?_
  · (refine vc_mp (by kernel_rfl : (Q9b (∀ (i : Unit), True → bs (decide (Q9n (Q8h xs) ≤ 12)) (∃ (h' : AHeap), Q9t (Q9f 188 (Q9s l xs c) (Q8o h l xs) h') (∃ (ys : List Int), Q9j h' h l ys xs (∃ (m : Nat), Q9k xs m ys))) (bs (decide (lim = 0)) (∃ (h' : AHeap), Q9t (Q9f 189 (Q9s l xs c) (Q8o h l xs) h') (∃ (ys : List Int), Q9j h' h l ys xs (∃ (m : Nat), Q9k xs m ys))) (∃ (x x_1 : Int) (h' : AHeap), Q9c 191 (Q9s l xs c) (Q8o h l xs) [Q7z x, Q7z x_1] h' ∧ bs (decide (x_1 = 2)) (∃ (h'_1 : AHeap), Q9f 192 (Q9s l xs c) h' h'_1 ∧ (∃ (x_2 : Bool) (h' : AHeap), Q8e 193 (Q9s l xs c) h'_1 x_2 h' x_2 (Q9r (∃ (ys : List Int), Q9j h' h l ys xs (∃ (m : Nat), Q9k xs m ys))) (∃ (x_3 : Int) (x_4 : Bool) (h'_2 : AHeap), Q9e l xs c (Q81 (Q81 (Q8h xs - Q8w) - Q9n x)) h' x_3 x_4 h'_2 (bs (decide (Q9n x_3 < Q9p xs x_3)) (∃ (h' : AHeap), Q9g (Q9d (Q8k l xs c) x_3 lim) h'_2 h' ∧ (∃ (j : Unit), Q9q l xs c x_3 lim (decide (Q9n x_3 ≥ Q9o xs)) x_4 h h' (∀ (k : Unit), Q92) (∀ (v : Value) (h_1 : AHeap), Q9i v (∃ (ys : List Int), Q9j h_1 h l ys xs (∃ (m : Nat), Q9k xs m ys))))) (∃ (h' : AHeap), Q9h l xs c x_3 lim h'_2 h' (∃ (j : Unit), Q91 l xs c x_3 lim lim (Q9m (decide (Q9p xs x_3 ≥ Q9o xs))) (Q9m x_4) (Q8o h l xs = h') True (Q9l ∧ (∀ (k : Unit), Q92) ∧ (∀ (v : Value) (h_1 : AHeap), Q9i v (∃ (ys : List Int), Q9j h_1 h l ys xs (∃ (m : Nat), Q9k xs m ys)))))))))) (bs (decide (x_1 = Q8w)) (∃ (x_2 : Bool) (h'_1 : AHeap), Q8e 193 (Q9s l xs c) h' x_2 h'_1 x_2 (Q9r (∃ (ys : List Int), Q9j h'_1 h l ys xs (∃ (m : Nat), Q9k xs m ys))) (∃ (x_3 : Int) (x_4 : Bool) (h' : AHeap), Q9e l xs c x h'_1 x_3 x_4 h' (bs (decide (Q9n x_3 < Q9p xs x_3)) (∃ (h'_2 : AHeap), Q9g (Q9d (Q8k l xs c) x_3 lim) h' h'_2 ∧ (∃ (j : Unit), Q9q l xs c x_3 lim (decide (Q9n x_3 ≥ Q9o xs)) x_4 h h'_2 (∀ (k : Unit), Q92) (∀ (v : Value) (h_1 : AHeap), Q9i v (∃ (ys : List Int), Q9j h_1 h l ys xs (∃ (m : Nat), Q9k xs m ys))))) (∃ (h'_2 : AHeap), Q9h l xs c x_3 lim h' h'_2 (∃ (j : Unit), Q91 l xs c x_3 lim lim (Q9m (decide (Q9p xs x_3 ≥ Q9o xs))) (Q9m x_4) (Q8o h l xs = h'_2) True (Q9l ∧ (∀ (k : Unit), Q92) ∧ (∀ (v : Value) (h_1 : AHeap), Q9i v (∃ (ys : List Int), Q9j h_1 h l ys xs (∃ (m : Nat), Q9k xs m ys))))))))) (∃ (x_2 : Int) (x_3 : Bool) (h'_1 : AHeap), Q9e l xs c x h' x_2 x_3 h'_1 (bs (decide (Q9n x_2 < Q9p xs x_2)) (∃ (h' : AHeap), Q9g (Q9d (Q8k l xs c) x_2 lim) h'_1 h' ∧ (∃ (j : Unit), Q9q l xs c x_2 lim (decide (Q9n x_2 ≥ Q9o xs)) x_3 h h' (∀ (k : Unit), Q92) (∀ (v : Value) (h_1 : AHeap), Q9i v (∃ (ys : List Int), Q9j h_1 h l ys xs (∃ (m : Nat), Q9k xs m ys))))) (∃ (h' : AHeap), Q9h l xs c x_2 lim h'_1 h' (∃ (j : Unit), Q91 l xs c x_2 lim lim (Q9m (decide (Q9p xs x_2 ≥ Q9o xs))) (Q9m x_3) (Q8o h l xs = h') True (Q9l ∧ (∀ (k : Unit), Q92) ∧ (∀ (v : Value) (h_1 : AHeap), Q9i v (∃ (ys : List Int), Q9j h_1 h l ys xs (∃ (m : Nat), Q9k xs m ys))))))))))))) = _) ?_; delta Q7s Q7t Q7u Q7z Q80 Q81 Q8c Q8e Q8h Q8i Q8j Q8k Q8o Q8w Q91 Q92 Q98 Q99 Q9a Q9b Q9c Q9d Q9e Q9f Q9g Q9h Q9i Q9j Q9k Q9l Q9m Q9n Q9o Q9p Q9q Q9r Q9s Q9t)
    simp only [true_and, and_true]
    refine fun _ _ => ?_
    rw [wrap_i64 (by omega)]
    refine bs_d (fun _ => ?_) (fun e => absurd e (by omega))
    exact ⟨_, A, ys, rfl, hp⟩
  (refine vc_mp (by kernel_rfl : (∃ (i : Unit), Q91 l xs c (Q8h xs) lim lim Q9u Q9u (Q8o h l xs = Q8o h l xs) True ((∀ (j : Unit), False → Q Q99 h) ∧ (∀ (v : Value) (h_1 : AHeap), v = Q99 ∧ (∃ (ys : List Int), Q9j h_1 h l ys xs (∃ (m : Nat), Q9k xs m ys)) → Q v h_1))) = _) ?_; delta Q7s Q7z Q80 Q8h Q8i Q8j Q8k Q8o Q91 Q99 Q9j Q9k Q9u)
  exact ⟨(), rfl, rfl, rfl, rfl, rfl, rfl, rfl, trivial, fun _ h => h.elim, fun _ _ H => HQ _ _ H⟩
def Q9v (a : Qb2) (b : Qb1) (c : Int) (d : Qb1) := ACall Tryz.prog 175 a b (Q7z c) d
def Q9w (a : Int) := Value.int IntKind.u64 (IntKind.wrap IntKind.u64 a)
theorem sortNum_spec (h : AHeap) (l c : Nat) (xs : List Int) (hn : xs.length ≤ 12) (hg : h.get l = some (numO xs)) :
    ∃ h', ACall Tryz.prog 173 [.slice (some ⟨l, 0, some 1⟩) xs.length c] h (.tuple #[]) h' ∧ ∃ ys, h' = h.put l (some (numO ys)) ∧ ys.Perm xs ∧ ∃ m, xs.length ≤ m ∧ sortInt.OI ys m := by
  obtain ⟨r, hL⟩ := bitsLen_spec h xs.length hn
  obtain ⟨_, g, A, rfl, H⟩ := pdqNum_spec h l c xs r hn
  have eh : h.put l (some (numO xs)) = h := ah_ext rfl fun x => by
    show (if x = l then _ else h.get x) = h.get x
    split
    · rename_i e; rw [e, hg]
    · rfl
  rw [eh] at A
  have : ∃ v h', ACall Tryz.prog 173 [.slice (some ⟨l, 0, some 1⟩) xs.length c] h v h' ∧ v = .tuple #[] ∧ h' = g := by
    refine acall_vc (fun _ => false) (fun _ => []) (fun _ => .none) mixed Tryz.func173 rfl rfl rfl (Nat.le_of_ble_eq_true rfl) (by (refine vc_mp (by kernel_rfl : (Q7t) = _) ?_; delta Q7t); simp only [and_self]) ?_
    (refine vc_mp (by kernel_rfl : (∃ (x : Int) (h' : AHeap), Q9v [Q9w (Q8h xs)] h x h' ∧ (∃ (h'_1 : AHeap), Q9t (Q9g (Q9d (Q8k l xs c) (Q8h xs) x) h' h'_1) (h'_1 = g))) = _) ?_; delta Q7z Q8h Q8j Q8k Q99 Q9d Q9f Q9g Q9t Q9v Q9w)
    rw [u64_id (by omega)]
    exact ⟨_, _, hL, _, A, rfl, rfl⟩
  obtain ⟨_, g2, A2, rfl, eg⟩ := this
  rw [eg] at A2
  exact ⟨_, A2, H⟩
def is0NumL (h : AHeap) : Nat → LSpec
  | 0 => {
    ι := Unit
    κ := Unit
    I := fun _ => True
    μ := fun _ => 0
    head := fun _ => ⟨[(0, .slice none 0 0), (1, .int .i64 0), (2, .int .i64 0), (6, .int .i64 1)], [], h⟩
    post := fun _ => ⟨[], [], h⟩
    R := fun _ _ => True
    ret := fun _ _ _ => False }
  | _ => {
    ι := Unit
    κ := Unit
    I := fun _ => False
    μ := fun _ => 0
    head := fun _ => ⟨[(0, .slice none 0 0), (1, .int .i64 0), (2, .int .i64 0), (6, .int .i64 1), (7, .int .i64 1)], [], h⟩
    post := fun _ => ⟨[(0, .slice none 0 0), (1, .int .i64 0), (2, .int .i64 0), (6, .int .i64 1)], [], h⟩
    R := fun _ _ => True
    ret := fun _ _ _ => False }
def Q9x := (↑0 : Int)
def Q9y (a b : Nat) (c : Prop) := Q8s none a b Q8w Q9x c
def Q9z := Q81 (Q8w - Q8w)
def Qa0 (a b : Nat) (c : Prop) := Q8s none a b Q9z Q9x c
def Qa1 := Value.slice none 0 0
def Qa2 (a : Prop) := Q7s (Qa1 = Qa1) Q8i Q8i (Q80 Q8w Q8w) a
def Qa3 (a : Int) (b c d e f : Prop) := Q7s (Qa1 = Qa1) Q8i Q8i (Q80 a a) (Q7s b c d e f)
def Qa4 (a b : Prop) := Q7s (Qa1 = Qa1) Q8i Q8i (Q80 (Q98 0) Q8w) (a ∧ True ∧ b)
theorem insertNum_nil (h : AHeap) : ACall Tryz.prog 188 [.slice none 0 0, .int .i64 0, .int .i64 0] h (.tuple #[]) h := by
  refine acall_out ?_
  refine acall_vc (fun _ => false) (fun r => match r with | 4 => [(0, 0, []), (1, 0, []), (2, 0, []), (3, 0, []), (4, 0, []), (5, 0, []), (6, 0, []), (8, 0, []), (9, 0, []), (10, 0, []), (11, 0, []), (7, 1, []), (12, 1, []), (13, 3, []), (14, 0, [])] | 6 => [(0, 0, []), (1, 0, []), (2, 0, []), (3, 0, []), (4, 0, []), (5, 0, []), (6, 0, []), (7, 0, []), (8, 0, []), (10, 0, []), (11, 0, []), (12, 0, []), (9, 1, []), (13, 1, []), (14, 0, []), (15, 3, []), (16, 0, []), (17, 3, [])] | _ => []) (is0NumL h) mixed Tryz.func188 rfl rfl rfl (Nat.le_of_ble_eq_true rfl) ?_ ?_
  · (refine vc_mp (by kernel_rfl : (Q8f (∀ (i : Unit), True → (∃ (j : Unit), h = h ∧ True)) (∀ (i : Unit), False → (∃ (l r : Nat), Q9y l r (∃ (l_1 r_1 : Nat), Qa0 l_1 r_1 (∃ (x : Int), Q8z h l r Q8w [Q7z x] (∃ (x_1 : Int), Q8z h l_1 r_1 Q9z [Q7z x_1] (∃ (x_2 : Bool) (h' : AHeap), Q8e 194 [Q7z x, Q7z x_1] h x_2 h' x_2 (∃ (l r : Nat), Qa0 l r (∃ (l_2 r_2 : Nat), Q9y l_2 r_2 (∃ (x : Int), Q8z h' l r Q9z [Q7z x] (∃ (x_3 : Int), Q8z h' l_2 r_2 Q8w [Q7z x_3] (∃ (l r : Nat), Q9y l r (∃ (h'_1 : AHeap), Q90 h' l r Q8w [Q7z x] h'_1 (∃ (l r : Nat), Qa0 l r (∃ (h' : AHeap), Q90 h'_1 l r Q9z [Q7z x_3] h' (∃ (j : Unit), Qa3 Q8w (Q80 Q9z Q8w) (h = h') False Q9l ((∀ (k : Unit), True → True) ∧ (∀ (v : Value) (h : AHeap), Q92))))))))))) (∃ (j : Unit), Qa2 (h = h' ∧ True))))))))) = _) ?_; delta Q7s Q7v Q7z Q80 Q81 Q8c Q8e Q8f Q8i Q8s Q8w Q8z Q90 Q92 Q9l Q9x Q9y Q9z Qa0 Qa1 Qa2 Qa3)
    simp only [true_and, and_true]
    refine ⟨fun _ _ => ?_, fun _ h => h.elim⟩
    exact ⟨(), trivial⟩
  (refine vc_mp (by kernel_rfl : (∃ (i : Unit), Qa4 (h = h) ((∀ (j : Unit), True → Q9r (h = h)) ∧ (∀ (v : Value) (h_1 : AHeap), False → v = Q99 ∧ h_1 = h))) = _) ?_; delta Q7s Q7z Q80 Q81 Q8i Q8w Q98 Q99 Q9r Qa1 Qa4)
  exact ⟨(), rfl, rfl, rfl, congrArg (Value.int .i64) (by decide), rfl, trivial, fun _ _ => ⟨rfl, rfl⟩, fun _ _ h => h.elim⟩
def pdq0NumL (h : AHeap) (lim : Int) : LSpec where
  ι := Unit
  κ := Unit
  I := fun _ => True
  μ := fun _ => 0
  head := fun _ => ⟨[(0, .slice none 0 0), (1, .int .i64 0), (2, .int .i64 0), (3, .int .i64 lim), (8, .bool true), (9, .bool true)], [], h⟩
  post := fun _ => ⟨[], [], h⟩
  R := fun _ _ => False
  ret := fun _ v h' => v = .tuple #[] ∧ h' = h
theorem sortNum_nil (h : AHeap) : ACall Tryz.prog 173 [.slice none 0 0] h (.tuple #[]) h := by
  obtain ⟨r, hL⟩ := bitsLen_spec h 0 (by omega)
  have A : ACall Tryz.prog 176 [.slice none 0 0, .int .i64 0, .int .i64 0, .int .i64 r] h (.tuple #[]) h := by
    refine acall_out ?_
    refine acall_vc (fun _ => false) (fun r => match r with | 17 => [(0, 0, []), (1, 0, []), (2, 0, []), (3, 0, []), (4, 0, []), (5, 0, []), (6, 0, []), (8, 0, []), (9, 0, []), (10, 0, []), (7, 1, []), (11, 1, []), (12, 3, []), (13, 0, []), (14, 0, [])] | _ => []) (fun _ => pdq0NumL h r) mixed Tryz.func176 rfl rfl rfl (Nat.le_of_ble_eq_true rfl) ?_ ?_
    · (refine vc_mp (by kernel_rfl : (Q9b (∀ (i : Unit), True → (∃ (h' : AHeap), Q9t (Q9f 188 [Qa1, Q7z 0, Q7z 0] h h') (h' = h)))) = _) ?_; delta Q7s Q7t Q7u Q7z Q8c Q99 Q9a Q9b Q9f Q9t Qa1)
      simp only [true_and, and_true]
      exact fun _ _ => ⟨_, insertNum_nil h, rfl⟩
    (refine vc_mp (by kernel_rfl : (∃ (i : Unit), Qa3 r Q9u Q9u (h = h) True ((∀ (j : Unit), False → Q9r (h = h)) ∧ (∀ (v : Value) (h_1 : AHeap), Q9i v (h_1 = h)))) = _) ?_; delta Q7s Q7z Q80 Q8i Q99 Q9i Q9r Q9u Qa1 Qa3)
    exact ⟨(), rfl, rfl, rfl, rfl, rfl, rfl, rfl, trivial, fun _ h => h.elim, fun _ _ H => H⟩
  refine acall_out ?_
  refine acall_vc (fun _ => false) (fun _ => []) (fun _ => .none) mixed Tryz.func173 rfl rfl rfl (Nat.le_of_ble_eq_true rfl) (by (refine vc_mp (by kernel_rfl : (Q7t) = _) ?_; delta Q7t); simp only [and_self]) ?_
  (refine vc_mp (by kernel_rfl : (∃ (x : Int) (h' : AHeap), Q9v [Q9w Q9x] h x h' ∧ (∃ (h'_1 : AHeap), Q9t (Q9g (Q9d Qa1 Q9x x) h' h'_1) (h'_1 = h))) = _) ?_; delta Q7z Q99 Q9d Q9f Q9g Q9t Q9v Q9w Q9x Qa1)
  exact ⟨_, _, hL, _, A, rfl, rfl⟩
theorem nanTxt_spec (h : AHeap) (x : ByteArray) : ACall Tryz.prog 202 [.string x] h (.bool false) h := by
  refine acall_out (acall_vc (fun _ => false) (fun _ => []) (fun _ => .none) mixed Tryz.func202 rfl rfl rfl (Nat.le_of_ble_eq_true rfl) (by (refine vc_mp (by kernel_rfl : (Q8c) = _) ?_; delta Q8c); simp only [and_self]) ?_)
  (refine vc_mp (by kernel_rfl : (Q8d (not (decide (x = x))) false h h) = _) ?_; delta Q8d)
  exact ⟨by rw [decide_eq_true rfl]; rfl, rfl⟩
def Qa5 (a b : ByteArray) := Op.bytesLess (ByteArray.toList a) (ByteArray.toList b)
def Qa6 (a : ByteArray) := [Value.string a]
theorem lessTxt_spec (h : AHeap) (x y : ByteArray) : ACall Tryz.prog 183 [.string x, .string y] h (.bool ((fun a b : ByteArray => Op.bytesLess a.toList b.toList) x y)) h := by
  refine acall_out (acall_vc (fun _ => false) (fun _ => []) (fun _ => .none) mixed Tryz.func183 rfl rfl rfl (Nat.le_of_ble_eq_true rfl) (by (refine vc_mp (by kernel_rfl : (Q8c) = _) ?_; delta Q8c); simp only [and_self]) ?_)
  (refine vc_mp (by kernel_rfl : (∃ (x_1 : Bool) (h' : AHeap), Q8e 202 (Qa6 x) h x_1 h' x_1 (∃ (x_2 : Bool) (h'_1 : AHeap), Q8e 202 (Qa6 y) h' x_2 h'_1 (not x_2) (Value.bool true = Value.bool (Qa5 x y) ∧ h'_1 = h) (Q8d (Qa5 x y) (Qa5 x y) h'_1 h)) (Q8d (Qa5 x y) (Qa5 x y) h' h)) = _) ?_; delta Q8d Q8e Qa5 Qa6)
  refine ⟨_, _, nanTxt_spec _ _, bs_b (fun e => by cases e) (fun _ => ?_)⟩
  exact ⟨rfl, rfl⟩
structure InsTxt (xs : List ByteArray) (i : Nat) (ys : List ByteArray) : Prop where
  perm : ys.Perm xs
  ord : sortStr.OI ys i
structure InJTxt (xs : List ByteArray) (i j : Nat) (ys : List ByteArray) : Prop where
  perm : ys.Perm xs
  hj : j ≤ i
  hi : i < xs.length
  ord : sortStr.OJ ys i j
def isTxtL (h : AHeap) (l c : Nat) (xs : List ByteArray) : Nat → LSpec
  | 0 => {
    ι := Nat × List ByteArray
    κ := Nat × List ByteArray
    I := fun i => InsTxt xs i.1 i.2 ∧ 1 ≤ i.1 ∧ (i.1 ≤ xs.length ∨ i.1 = 1)
    μ := fun i => xs.length - i.1
    head := fun i => ⟨[(0, .slice (some ⟨l, 0, some 1⟩) xs.length c), (1, .int .i64 0), (2, .int .i64 xs.length), (6, .int .i64 i.1)], [], h.put l (some (txtO i.2))⟩
    post := fun i => ⟨[], [], h.put l (some (txtO i.2))⟩
    R := fun _ i => InsTxt xs i.1 i.2 ∧ xs.length ≤ i.1
    ret := fun _ _ _ => False }
  | _ => {
    ι := Nat × Nat × List ByteArray
    κ := Nat × List ByteArray
    I := fun i => InJTxt xs i.1 i.2.1 i.2.2
    μ := fun i => i.2.1
    head := fun i => ⟨[(0, .slice (some ⟨l, 0, some 1⟩) xs.length c), (1, .int .i64 0), (2, .int .i64 xs.length), (6, .int .i64 i.1), (7, .int .i64 i.2.1)], [], h.put l (some (txtO i.2.2))⟩
    post := fun i => ⟨[(0, .slice (some ⟨l, 0, some 1⟩) xs.length c), (1, .int .i64 0), (2, .int .i64 xs.length), (6, .int .i64 i.1)], [], h.put l (some (txtO i.2))⟩
    R := fun i k => k.1 = i.1 ∧ InsTxt xs (i.1 + 1) k.2
    ret := fun _ _ _ => False }
def Qa7 (a : Qb6) := (↑(Prod.fst a) : Int)
def Qa8 (a : Qb7) := (↑(List.length a) : Int)
def Qa9 (a : Nat) (b : Qb7) (c : Nat) := Value.slice (some (Q8j a)) (List.length b) c
def Qaa (a : Nat) (b : Qb7) (c : Nat) (d : Int) (e : Qb6) (f g h : Prop) := Q7s (Qa9 a b c = Qa9 a b c) Q8i (Q80 (Qa8 b) (Qa8 b)) (Q80 d (Qa7 e)) (f ∧ g ∧ h)
def Qab (a : Qb7) (b : Qb8) (c : Qb6) := InsTxt a (Prod.fst b + 1) (Prod.snd c)
def Qac (a : Qb6) (b : Qb8) := Prod.fst a = Prod.fst b
def Qad (a : Qb1) (b : Nat) (c : Qb7) := AHeap.put a b (some (txtO c))
def Qae (a : Qb1) (b : Nat) (c : Qb6) := Qad a b (Prod.snd c)
def Qaf (a : Qb1) (b : Nat) (c : Qb8) := Qae a b (Prod.snd c)
def Qag (a : Qb8) := (↑(Prod.fst a) : Int)
def Qah (a : Qb8) := Prod.fst (Prod.snd a)
def Qai (a : Qb8) := (↑(Qah a) : Int)
def Qaj (a b c : Nat) (d : Qb8) (e : Qb7) (f : Prop) := Q8s (some (Q8j a)) b c (Qai d) (Qa8 e) f
def Qak (a : Qb8) := Q81 (Qai a - Q8w)
def Qal (a b c : Nat) (d : Qb8) (e : Qb7) (f : Prop) := Q8s (some (Q8j a)) b c (Qak d) (Qa8 e) f
def Qam (a : Nat) (b : Qb7) (c : Nat) (d e f : Int) (g h i j k : Prop) := Q7s (Qa9 a b c = Qa9 a b c) Q8i (Q80 d (Qa8 b)) (Q80 e f) (Q7s g h i j k)
def Qan (a : Qb7) (b : Qb8) := InJTxt a (Prod.fst b) (Qah b) (Prod.snd (Prod.snd b))
def Qao (a : Qb7) (b : Qb6) := List.length a ≤ Prod.fst b
def Qap (a : Qb7) (b : Qb6) := InsTxt a (Prod.fst b) (Prod.snd b)
def Qaq (a : Qb7) (b : Qb6) (c : Prop) := Qap a b ∧ 1 ≤ Prod.fst b ∧ c
def Qar (a : Qb6) := Prod.fst a = 1
theorem insertTxt_spec (h : AHeap) (l c : Nat) (xs : List ByteArray) (hn : xs.length ≤ 12) :
    ∃ v h', ACall Tryz.prog 177 [.slice (some ⟨l, 0, some 1⟩) xs.length c, .int .i64 0, .int .i64 xs.length] (h.put l (some (txtO xs))) v h' ∧ v = .tuple #[] ∧ ∃ ys, h' = h.put l (some (txtO ys)) ∧ ys.Perm xs ∧ ∃ m, xs.length ≤ m ∧ sortStr.OI ys m := by
  refine acall_q fun Q HQ => ?_
  refine acall_vc (fun _ => false) (fun r => match r with | 4 => [(0, 0, []), (1, 0, []), (2, 0, []), (3, 0, []), (4, 0, []), (5, 0, []), (6, 0, []), (8, 0, []), (9, 0, []), (10, 0, []), (11, 0, []), (7, 1, []), (12, 1, []), (13, 3, []), (14, 0, [])] | 6 => [(0, 0, []), (1, 0, []), (2, 0, []), (3, 0, []), (4, 0, []), (5, 0, []), (6, 0, []), (7, 0, []), (8, 0, []), (10, 0, []), (11, 0, []), (12, 0, []), (9, 1, []), (13, 1, []), (14, 0, []), (15, 3, []), (16, 0, []), (17, 3, [])] | _ => []) (isTxtL h l c xs) mixed Tryz.func177 rfl rfl rfl (Nat.le_of_ble_eq_true rfl) ?_ ?_
  · (refine vc_mp (by kernel_rfl : (Q8f (∀ (i : Nat × List ByteArray), Qaq xs i (Prod.fst i ≤ List.length xs ∨ Qar i) → bs (decide (Qa7 i < Qa8 xs)) (∃ (i_1 : Nat × Nat × List ByteArray), Qam l xs c (Qa8 xs) (Qa7 i) (Qag i_1) (Q80 (Qa7 i) (Qai i_1)) (Qaf h l i_1 = Qae h l i) (Qan xs i_1) (∀ (j : Nat × List ByteArray), Qac j i_1 ∧ Qab xs i_1 j → (∃ (j_1 : Nat × List ByteArray), Qam l xs c (Qa8 xs) (Q98 (Qa7 j)) (Qa7 j_1) (Qae h l j_1 = Qae h l j) (Qaq xs j_1 (Prod.fst j_1 ≤ List.length xs ∨ Qar j_1)) (List.length xs - Prod.fst j_1 < List.length xs - Prod.fst i) (∀ (k : Nat × List ByteArray), Qap xs k ∧ Qao xs k → Qap xs k ∧ Qao xs k) (∀ (v : Value) (h : AHeap), Q92))) (∀ (v : Value) (h : AHeap), Q92)) (∃ (j : Nat × List ByteArray), Qae h l j = Qae h l i ∧ Qap xs j ∧ Qao xs j)) (∀ (i : Nat × Nat × List ByteArray), Qan xs i → bs (decide (Qai i > 0)) (∃ (l_1 r : Nat), Qaj l l_1 r i xs (∃ (l_2 r_1 : Nat), Qal l l_2 r_1 i xs (∃ (x : ByteArray), Q8z (Qaf h l i) l_1 r (Qai i) (Qa6 x) (∃ (x_1 : ByteArray), Q8z (Qaf h l i) l_2 r_1 (Qak i) (Qa6 x_1) (∃ (x_2 : Bool) (h' : AHeap), Q8e 183 [Value.string x, Value.string x_1] (Qaf h l i) x_2 h' x_2 (∃ (l_3 r : Nat), Qal l l_3 r i xs (∃ (l_4 r_2 : Nat), Qaj l l_4 r_2 i xs (∃ (x : ByteArray), Q8z h' l_3 r (Qak i) (Qa6 x) (∃ (x_3 : ByteArray), Q8z h' l_4 r_2 (Qai i) (Qa6 x_3) (∃ (l_5 r : Nat), Qaj l l_5 r i xs (∃ (h'_1 : AHeap), Q90 h' l_5 r (Qai i) (Qa6 x) h'_1 (∃ (l_6 r : Nat), Qal l l_6 r i xs (∃ (h' : AHeap), Q90 h'_1 l_6 r (Qak i) (Qa6 x_3) h' (∃ (j : Nat × Nat × List ByteArray), Qam l xs c (Qa8 xs) (Qag i) (Qag j) (Q80 (Qak i) (Qai j)) (Qaf h l j = h') (Qan xs j) (Qah j < Qah i) ((∀ (k : Nat × List ByteArray), Qac k j ∧ Qab xs j k → Qac k i ∧ Qab xs i k) ∧ (∀ (v : Value) (h : AHeap), Q92))))))))))) (∃ (j : Nat × List ByteArray), Qaa l xs c (Qag i) j (Qae h l j = h') (Qac j i) (Qab xs i j))))))) (∃ (j : Nat × List ByteArray), Qaa l xs c (Qag i) j (Qae h l j = Qaf h l i) (Qac j i) (Qab xs i j)))) = _) ?_; delta Q7s Q7v Q7z Q80 Q81 Q8c Q8e Q8f Q8i Q8j Q8s Q8w Q8z Q90 Q92 Q98 Qa6 Qa7 Qa8 Qa9 Qaa Qab Qac Qad Qae Qaf Qag Qah Qai Qaj Qak Qal Qam Qan Qao Qap Qaq Qar)
    simp only [true_and, and_true]
    refine ⟨fun ⟨i, ys⟩ ⟨I, h1, h2⟩ => ?_, fun ⟨i, j, ys⟩ J => ?_⟩
    · dsimp only at *
      refine bs_d (fun hlt => ⟨(i, i, ys), rfl, rfl, rfl, ⟨I.perm, Nat.le_refl _, by omega, sortStr.i2j _ _ I.ord⟩, fun ⟨i', ys'⟩ ⟨e, I'⟩ => ?_, fun _ _ h => h⟩) (fun hge => ⟨(i, ys), rfl, I, by omega⟩)
      dsimp only at e I'
      subst e
      exact ⟨(i' + 1, ys'), by rw [wrap_i64 (by omega)]; rfl, rfl, ⟨I', by dsimp only; omega, .inl (by dsimp only; omega)⟩, by dsimp only; omega, fun _ h => h, fun _ _ h => h⟩
    · have hl := J.perm.length_eq
      have hji := J.hj
      have hin := J.hi
      dsimp only at *
      refine bs_d (fun hlt => ?_) (fun hge => ⟨(i, ys), rfl, rfl, rfl, J.perm, sortStr.fin0 ys i ((show j = 0 by omega) ▸ (show sortStr.OJ ys i j from J.ord))⟩)
      rw [wrap_pred (i := j) (by omega) (by omega)]
      obtain ⟨a, ha⟩ : ∃ y, ys[j - 1]? = some y := ⟨_, List.getElem?_eq_getElem (by omega)⟩
      obtain ⟨b, hb⟩ : ∃ y, ys[j]? = some y := ⟨_, List.getElem?_eq_getElem (by omega)⟩
      refine ⟨l, 0, rfl, Int.natCast_nonneg _, by omega, l, 0, rfl, Int.natCast_nonneg _, by omega, _, txt_ld hb, _, txt_ld ha, _, _, lessTxt_spec _ b a, bs_of (fun e => ?_) (fun e => ⟨(i, ys), rfl, rfl, rfl, J.perm, sortStr.fin ys i j a b J.ord (by omega) J.hj ha hb e⟩)⟩
      refine ⟨l, 0, rfl, Int.natCast_nonneg _, by omega, l, 0, rfl, Int.natCast_nonneg _, by omega, _, txt_ld ha, _, txt_ld hb, ?_⟩
      refine ⟨l, 0, rfl, Int.natCast_nonneg _, by omega, _, txt_wr a (by omega), l, 0, rfl, Int.natCast_nonneg _, by omega, _, txt_wr b (by rw [List.length_set]; omega), ?_⟩
      refine ⟨(i, j - 1, (ys.set j a).set (j - 1) b), rfl, rfl, rfl, ⟨(swap_perm (by omega) ha hb).trans J.perm, by dsimp only; omega, hin, sortStr.step ys i j a b J.ord (by omega) hji ha hb e⟩, by dsimp only; omega, fun _ h => h, fun _ _ h => h⟩
  (refine vc_mp (by kernel_rfl : (∃ (i : Nat × List ByteArray), Qaa l xs c (Q98 0) i (Qae h l i = Qad h l xs) (Qaq xs i (Prod.fst i ≤ List.length xs ∨ Qar i)) ((∀ (j : Nat × List ByteArray), Qap xs j ∧ Qao xs j → Q Q99 (Qae h l j)) ∧ (∀ (v : Value) (h : AHeap), False → Q v h))) = _) ?_; delta Q7s Q7z Q80 Q81 Q8i Q8j Q8w Q98 Q99 Qa7 Qa8 Qa9 Qaa Qad Qae Qao Qap Qaq Qar)
  refine ⟨(1, xs), rfl, rfl, rfl, by rw [wrap_i64 (by omega)]; rfl, rfl, ⟨⟨.refl _, sortStr.start xs⟩, Nat.le_refl _, .inr rfl⟩, fun ⟨m, ys⟩ ⟨I, hm⟩ => HQ _ _ ⟨rfl, ys, rfl, I.perm, m, hm, I.ord⟩, fun _ _ h => h.elim⟩
def pdqTxtL (h : AHeap) (l c : Nat) (xs : List ByteArray) (lim : Int) : LSpec where
  ι := Unit
  κ := Unit
  I := fun _ => True
  μ := fun _ => 0
  head := fun _ => ⟨[(0, .slice (some ⟨l, 0, some 1⟩) xs.length c), (1, .int .i64 0), (2, .int .i64 xs.length), (3, .int .i64 lim), (8, .bool true), (9, .bool true)], [], h.put l (some (txtO xs))⟩
  post := fun _ => ⟨[], [], h⟩
  R := fun _ _ => False
  ret := fun _ v h' => v = .tuple #[] ∧ ∃ ys, h' = h.put l (some (txtO ys)) ∧ ys.Perm xs ∧ ∃ m, xs.length ≤ m ∧ sortStr.OI ys m
def Qas (a : Nat) (b : Qb7) (c : Nat) (d : Int) (e : Qb1) (f : Int) (g : Bool) (h : Qb1) (i : Prop) := Q9c 185 (Q9d (Qa9 a b c) (Qa8 b) d) e [Q7z f, Value.bool g] h ∧ (8 : Int) ≠ (0 : Int) ∧ i
def Qat (a : Qb2) (b c : Qb1) := Q9f 174 a b c
def Qau (a : Nat) (b : Qb7) (c : Nat) (d e : Int) (f g : Qb1) (h : Prop) := Qat [Qa9 a b c, Q7z (Q98 d), Q7z (Qa8 b), Q7z e] f g ∧ h
def Qav (a b : Qb1) (c : Nat) (d e : Qb7) (f : Prop) := a = Qad b c d ∧ List.Perm d e ∧ f
def Qaw (a : Qb7) (b : Nat) (c : Qb7) := List.length a ≤ b ∧ SortS.OI sortStr c b
def Qax (a : Qb7) := Q81 (Int.tdiv (Q9n (Qa8 a)) 8)
def Qay (a : Qb7) (b : Int) := Q81 (Qa8 a - b)
def Qaz (a : Nat) (b : Qb7) (c : Nat) (d e : Int) (f g : Bool) (h i : Qb1) (j k : Prop) := Q7s (Qa9 a b c = Qa9 a b c) (Q7z (Q98 d) = Q7z 0) (Q80 (Qa8 b) (Qa8 b)) (Q80 e e) (Q7s (Q9m f) (Q9m g) (Qad h a b = i) True (Q9l ∧ j ∧ k))
def Qb0 (a : Nat) (b : Qb7) (c : Nat) := [Qa9 a b c, Q7z 0, Q7z (Qa8 b)]
theorem pdqTxt_spec (h : AHeap) (l c : Nat) (xs : List ByteArray) (lim : Int) (hn : xs.length ≤ 12) :
    ∃ v h', ACall Tryz.prog 174 [.slice (some ⟨l, 0, some 1⟩) xs.length c, .int .i64 0, .int .i64 xs.length, .int .i64 lim] (h.put l (some (txtO xs))) v h' ∧ v = .tuple #[] ∧ ∃ ys, h' = h.put l (some (txtO ys)) ∧ ys.Perm xs ∧ ∃ m, xs.length ≤ m ∧ sortStr.OI ys m := by
  obtain ⟨_, g, A, rfl, ys, rfl, hp⟩ := insertTxt_spec h l c xs hn
  refine acall_q fun Q HQ => ?_
  refine acall_vc (fun _ => false) (fun r => match r with | 17 => [(0, 0, []), (1, 0, []), (2, 0, []), (3, 0, []), (4, 0, []), (5, 0, []), (6, 0, []), (8, 0, []), (9, 0, []), (10, 0, []), (7, 1, []), (11, 1, []), (12, 3, []), (13, 0, []), (14, 0, [])] | _ => []) (fun _ => pdqTxtL h l c xs lim) mixed Tryz.func174 rfl rfl rfl (Nat.le_of_ble_eq_true rfl) ?_ ?_
  · (refine vc_mp (by kernel_rfl : (Q9b (∀ (i : Unit), True → bs (decide (Q9n (Qa8 xs) ≤ 12)) (∃ (h' : AHeap), Q9t (Q9f 177 (Qb0 l xs c) (Qad h l xs) h') (∃ (ys : List ByteArray), Qav h' h l ys xs (∃ (m : Nat), Qaw xs m ys))) (bs (decide (lim = 0)) (∃ (h' : AHeap), Q9t (Q9f 178 (Qb0 l xs c) (Qad h l xs) h') (∃ (ys : List ByteArray), Qav h' h l ys xs (∃ (m : Nat), Qaw xs m ys))) (∃ (x x_1 : Int) (h' : AHeap), Q9c 180 (Qb0 l xs c) (Qad h l xs) [Q7z x, Q7z x_1] h' ∧ bs (decide (x_1 = 2)) (∃ (h'_1 : AHeap), Q9f 181 (Qb0 l xs c) h' h'_1 ∧ (∃ (x_2 : Bool) (h' : AHeap), Q8e 182 (Qb0 l xs c) h'_1 x_2 h' x_2 (Q9r (∃ (ys : List ByteArray), Qav h' h l ys xs (∃ (m : Nat), Qaw xs m ys))) (∃ (x_3 : Int) (x_4 : Bool) (h'_2 : AHeap), Qas l xs c (Q81 (Q81 (Qa8 xs - Q8w) - Q9n x)) h' x_3 x_4 h'_2 (bs (decide (Q9n x_3 < Qay xs x_3)) (∃ (h' : AHeap), Qat (Q9d (Qa9 l xs c) x_3 lim) h'_2 h' ∧ (∃ (j : Unit), Qaz l xs c x_3 lim (decide (Q9n x_3 ≥ Qax xs)) x_4 h h' (∀ (k : Unit), Q92) (∀ (v : Value) (h_1 : AHeap), Q9i v (∃ (ys : List ByteArray), Qav h_1 h l ys xs (∃ (m : Nat), Qaw xs m ys))))) (∃ (h' : AHeap), Qau l xs c x_3 lim h'_2 h' (∃ (j : Unit), Qam l xs c x_3 lim lim (Q9m (decide (Qay xs x_3 ≥ Qax xs))) (Q9m x_4) (Qad h l xs = h') True (Q9l ∧ (∀ (k : Unit), Q92) ∧ (∀ (v : Value) (h_1 : AHeap), Q9i v (∃ (ys : List ByteArray), Qav h_1 h l ys xs (∃ (m : Nat), Qaw xs m ys)))))))))) (bs (decide (x_1 = Q8w)) (∃ (x_2 : Bool) (h'_1 : AHeap), Q8e 182 (Qb0 l xs c) h' x_2 h'_1 x_2 (Q9r (∃ (ys : List ByteArray), Qav h'_1 h l ys xs (∃ (m : Nat), Qaw xs m ys))) (∃ (x_3 : Int) (x_4 : Bool) (h' : AHeap), Qas l xs c x h'_1 x_3 x_4 h' (bs (decide (Q9n x_3 < Qay xs x_3)) (∃ (h'_2 : AHeap), Qat (Q9d (Qa9 l xs c) x_3 lim) h' h'_2 ∧ (∃ (j : Unit), Qaz l xs c x_3 lim (decide (Q9n x_3 ≥ Qax xs)) x_4 h h'_2 (∀ (k : Unit), Q92) (∀ (v : Value) (h_1 : AHeap), Q9i v (∃ (ys : List ByteArray), Qav h_1 h l ys xs (∃ (m : Nat), Qaw xs m ys))))) (∃ (h'_2 : AHeap), Qau l xs c x_3 lim h' h'_2 (∃ (j : Unit), Qam l xs c x_3 lim lim (Q9m (decide (Qay xs x_3 ≥ Qax xs))) (Q9m x_4) (Qad h l xs = h'_2) True (Q9l ∧ (∀ (k : Unit), Q92) ∧ (∀ (v : Value) (h_1 : AHeap), Q9i v (∃ (ys : List ByteArray), Qav h_1 h l ys xs (∃ (m : Nat), Qaw xs m ys))))))))) (∃ (x_2 : Int) (x_3 : Bool) (h'_1 : AHeap), Qas l xs c x h' x_2 x_3 h'_1 (bs (decide (Q9n x_2 < Qay xs x_2)) (∃ (h' : AHeap), Qat (Q9d (Qa9 l xs c) x_2 lim) h'_1 h' ∧ (∃ (j : Unit), Qaz l xs c x_2 lim (decide (Q9n x_2 ≥ Qax xs)) x_3 h h' (∀ (k : Unit), Q92) (∀ (v : Value) (h_1 : AHeap), Q9i v (∃ (ys : List ByteArray), Qav h_1 h l ys xs (∃ (m : Nat), Qaw xs m ys))))) (∃ (h' : AHeap), Qau l xs c x_2 lim h'_1 h' (∃ (j : Unit), Qam l xs c x_2 lim lim (Q9m (decide (Qay xs x_2 ≥ Qax xs))) (Q9m x_3) (Qad h l xs = h') True (Q9l ∧ (∀ (k : Unit), Q92) ∧ (∀ (v : Value) (h_1 : AHeap), Q9i v (∃ (ys : List ByteArray), Qav h_1 h l ys xs (∃ (m : Nat), Qaw xs m ys))))))))))))) = _) ?_; delta Q7s Q7t Q7u Q7z Q80 Q81 Q8c Q8e Q8i Q8j Q8w Q92 Q98 Q99 Q9a Q9b Q9c Q9d Q9f Q9i Q9l Q9m Q9n Q9r Q9t Qa8 Qa9 Qad Qam Qas Qat Qau Qav Qaw Qax Qay Qaz Qb0)
    simp only [true_and, and_true]
    refine fun _ _ => ?_
    rw [wrap_i64 (by omega)]
    refine bs_d (fun _ => ?_) (fun e => absurd e (by omega))
    exact ⟨_, A, ys, rfl, hp⟩
  (refine vc_mp (by kernel_rfl : (∃ (i : Unit), Qam l xs c (Qa8 xs) lim lim Q9u Q9u (Qad h l xs = Qad h l xs) True ((∀ (j : Unit), False → Q Q99 h) ∧ (∀ (v : Value) (h_1 : AHeap), v = Q99 ∧ (∃ (ys : List ByteArray), Qav h_1 h l ys xs (∃ (m : Nat), Qaw xs m ys)) → Q v h_1))) = _) ?_; delta Q7s Q7z Q80 Q8i Q8j Q99 Q9u Qa8 Qa9 Qad Qam Qav Qaw)
  exact ⟨(), rfl, rfl, rfl, rfl, rfl, rfl, rfl, trivial, fun _ h => h.elim, fun _ _ H => HQ _ _ H⟩
theorem sortTxt_spec (h : AHeap) (l c : Nat) (xs : List ByteArray) (hn : xs.length ≤ 12) (hg : h.get l = some (txtO xs)) :
    ∃ h', ACall Tryz.prog 171 [.slice (some ⟨l, 0, some 1⟩) xs.length c] h (.tuple #[]) h' ∧ ∃ ys, h' = h.put l (some (txtO ys)) ∧ ys.Perm xs ∧ ∃ m, xs.length ≤ m ∧ sortStr.OI ys m := by
  obtain ⟨r, hL⟩ := bitsLen_spec h xs.length hn
  obtain ⟨_, g, A, rfl, H⟩ := pdqTxt_spec h l c xs r hn
  have eh : h.put l (some (txtO xs)) = h := ah_ext rfl fun x => by
    show (if x = l then _ else h.get x) = h.get x
    split
    · rename_i e; rw [e, hg]
    · rfl
  rw [eh] at A
  have : ∃ v h', ACall Tryz.prog 171 [.slice (some ⟨l, 0, some 1⟩) xs.length c] h v h' ∧ v = .tuple #[] ∧ h' = g := by
    refine acall_vc (fun _ => false) (fun _ => []) (fun _ => .none) mixed Tryz.func171 rfl rfl rfl (Nat.le_of_ble_eq_true rfl) (by (refine vc_mp (by kernel_rfl : (Q7t) = _) ?_; delta Q7t); simp only [and_self]) ?_
    (refine vc_mp (by kernel_rfl : (∃ (x : Int) (h' : AHeap), Q9v [Q9w (Qa8 xs)] h x h' ∧ (∃ (h'_1 : AHeap), Q9t (Qat (Q9d (Qa9 l xs c) (Qa8 xs) x) h' h'_1) (h'_1 = g))) = _) ?_; delta Q7z Q8j Q99 Q9d Q9f Q9t Q9v Q9w Qa8 Qa9 Qat)
    rw [u64_id (by omega)]
    exact ⟨_, _, hL, _, A, rfl, rfl⟩
  obtain ⟨_, g2, A2, rfl, eg⟩ := this
  rw [eg] at A2
  exact ⟨_, A2, H⟩
def is0TxtL (h : AHeap) : Nat → LSpec
  | 0 => {
    ι := Unit
    κ := Unit
    I := fun _ => True
    μ := fun _ => 0
    head := fun _ => ⟨[(0, .slice none 0 0), (1, .int .i64 0), (2, .int .i64 0), (6, .int .i64 1)], [], h⟩
    post := fun _ => ⟨[], [], h⟩
    R := fun _ _ => True
    ret := fun _ _ _ => False }
  | _ => {
    ι := Unit
    κ := Unit
    I := fun _ => False
    μ := fun _ => 0
    head := fun _ => ⟨[(0, .slice none 0 0), (1, .int .i64 0), (2, .int .i64 0), (6, .int .i64 1), (7, .int .i64 1)], [], h⟩
    post := fun _ => ⟨[(0, .slice none 0 0), (1, .int .i64 0), (2, .int .i64 0), (6, .int .i64 1)], [], h⟩
    R := fun _ _ => True
    ret := fun _ _ _ => False }
theorem insertTxt_nil (h : AHeap) : ACall Tryz.prog 177 [.slice none 0 0, .int .i64 0, .int .i64 0] h (.tuple #[]) h := by
  refine acall_out ?_
  refine acall_vc (fun _ => false) (fun r => match r with | 4 => [(0, 0, []), (1, 0, []), (2, 0, []), (3, 0, []), (4, 0, []), (5, 0, []), (6, 0, []), (8, 0, []), (9, 0, []), (10, 0, []), (11, 0, []), (7, 1, []), (12, 1, []), (13, 3, []), (14, 0, [])] | 6 => [(0, 0, []), (1, 0, []), (2, 0, []), (3, 0, []), (4, 0, []), (5, 0, []), (6, 0, []), (7, 0, []), (8, 0, []), (10, 0, []), (11, 0, []), (12, 0, []), (9, 1, []), (13, 1, []), (14, 0, []), (15, 3, []), (16, 0, []), (17, 3, [])] | _ => []) (is0TxtL h) mixed Tryz.func177 rfl rfl rfl (Nat.le_of_ble_eq_true rfl) ?_ ?_
  · (refine vc_mp (by kernel_rfl : (Q8f (∀ (i : Unit), True → (∃ (j : Unit), h = h ∧ True)) (∀ (i : Unit), False → (∃ (l r : Nat), Q9y l r (∃ (l_1 r_1 : Nat), Qa0 l_1 r_1 (∃ (x : ByteArray), Q8z h l r Q8w (Qa6 x) (∃ (x_1 : ByteArray), Q8z h l_1 r_1 Q9z (Qa6 x_1) (∃ (x_2 : Bool) (h' : AHeap), Q8e 183 [Value.string x, Value.string x_1] h x_2 h' x_2 (∃ (l r : Nat), Qa0 l r (∃ (l_2 r_2 : Nat), Q9y l_2 r_2 (∃ (x : ByteArray), Q8z h' l r Q9z (Qa6 x) (∃ (x_3 : ByteArray), Q8z h' l_2 r_2 Q8w (Qa6 x_3) (∃ (l r : Nat), Q9y l r (∃ (h'_1 : AHeap), Q90 h' l r Q8w (Qa6 x) h'_1 (∃ (l r : Nat), Qa0 l r (∃ (h' : AHeap), Q90 h'_1 l r Q9z (Qa6 x_3) h' (∃ (j : Unit), Qa3 Q8w (Q80 Q9z Q8w) (h = h') False Q9l ((∀ (k : Unit), True → True) ∧ (∀ (v : Value) (h : AHeap), Q92))))))))))) (∃ (j : Unit), Qa2 (h = h' ∧ True))))))))) = _) ?_; delta Q7s Q7v Q7z Q80 Q81 Q8c Q8e Q8f Q8i Q8s Q8w Q8z Q90 Q92 Q9l Q9x Q9y Q9z Qa0 Qa1 Qa2 Qa3 Qa6)
    simp only [true_and, and_true]
    refine ⟨fun _ _ => ?_, fun _ h => h.elim⟩
    exact ⟨(), trivial⟩
  (refine vc_mp (by kernel_rfl : (∃ (i : Unit), Qa4 (h = h) ((∀ (j : Unit), True → Q9r (h = h)) ∧ (∀ (v : Value) (h_1 : AHeap), False → v = Q99 ∧ h_1 = h))) = _) ?_; delta Q7s Q7z Q80 Q81 Q8i Q8w Q98 Q99 Q9r Qa1 Qa4)
  exact ⟨(), rfl, rfl, rfl, congrArg (Value.int .i64) (by decide), rfl, trivial, fun _ _ => ⟨rfl, rfl⟩, fun _ _ h => h.elim⟩
def pdq0TxtL (h : AHeap) (lim : Int) : LSpec where
  ι := Unit
  κ := Unit
  I := fun _ => True
  μ := fun _ => 0
  head := fun _ => ⟨[(0, .slice none 0 0), (1, .int .i64 0), (2, .int .i64 0), (3, .int .i64 lim), (8, .bool true), (9, .bool true)], [], h⟩
  post := fun _ => ⟨[], [], h⟩
  R := fun _ _ => False
  ret := fun _ v h' => v = .tuple #[] ∧ h' = h
theorem sortTxt_nil (h : AHeap) : ACall Tryz.prog 171 [.slice none 0 0] h (.tuple #[]) h := by
  obtain ⟨r, hL⟩ := bitsLen_spec h 0 (by omega)
  have A : ACall Tryz.prog 174 [.slice none 0 0, .int .i64 0, .int .i64 0, .int .i64 r] h (.tuple #[]) h := by
    refine acall_out ?_
    refine acall_vc (fun _ => false) (fun r => match r with | 17 => [(0, 0, []), (1, 0, []), (2, 0, []), (3, 0, []), (4, 0, []), (5, 0, []), (6, 0, []), (8, 0, []), (9, 0, []), (10, 0, []), (7, 1, []), (11, 1, []), (12, 3, []), (13, 0, []), (14, 0, [])] | _ => []) (fun _ => pdq0TxtL h r) mixed Tryz.func174 rfl rfl rfl (Nat.le_of_ble_eq_true rfl) ?_ ?_
    · (refine vc_mp (by kernel_rfl : (Q9b (∀ (i : Unit), True → (∃ (h' : AHeap), Q9t (Q9f 177 [Qa1, Q7z 0, Q7z 0] h h') (h' = h)))) = _) ?_; delta Q7s Q7t Q7u Q7z Q8c Q99 Q9a Q9b Q9f Q9t Qa1)
      simp only [true_and, and_true]
      exact fun _ _ => ⟨_, insertTxt_nil h, rfl⟩
    (refine vc_mp (by kernel_rfl : (∃ (i : Unit), Qa3 r Q9u Q9u (h = h) True ((∀ (j : Unit), False → Q9r (h = h)) ∧ (∀ (v : Value) (h_1 : AHeap), Q9i v (h_1 = h)))) = _) ?_; delta Q7s Q7z Q80 Q8i Q99 Q9i Q9r Q9u Qa1 Qa3)
    exact ⟨(), rfl, rfl, rfl, rfl, rfl, rfl, rfl, trivial, fun _ h => h.elim, fun _ _ H => H⟩
  refine acall_out ?_
  refine acall_vc (fun _ => false) (fun _ => []) (fun _ => .none) mixed Tryz.func171 rfl rfl rfl (Nat.le_of_ble_eq_true rfl) (by (refine vc_mp (by kernel_rfl : (Q7t) = _) ?_; delta Q7t); simp only [and_self]) ?_
  (refine vc_mp (by kernel_rfl : (∃ (x : Int) (h' : AHeap), Q9v [Q9w Q9x] h x h' ∧ (∃ (h'_1 : AHeap), Q9t (Qat (Q9d Qa1 Q9x x) h' h'_1) (h'_1 = h))) = _) ?_; delta Q7z Q99 Q9d Q9f Q9t Q9v Q9w Q9x Qa1 Qat)
  exact ⟨_, _, hL, _, A, rfl, rfl⟩
end Go.Proofs.YtpgfjadjhliohaaGreat
