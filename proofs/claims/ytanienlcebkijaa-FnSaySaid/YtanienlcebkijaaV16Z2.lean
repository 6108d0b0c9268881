/- R2, R3, Z2. -/
import Derived.Test.YtanienlcebkijaaV16R1
import Derived.Test.YtanienlcebkijaaV16N0
import Derived.Test.YtanienlcebkijaaV16S1
section
namespace Go.Dat
open Go.Abs
theorem oneB_inj {x y : Nat} (hx : x < 256) (hy : y < 256) (h : oneB x = oneB y) : x = y := by
  have h1 : (UInt8.ofNat x) = UInt8.ofNat y := by
    have := congrArg (fun b : ByteArray => b.data[0]!) h
    simpa [oneB] using this
  have h2 := congrArg UInt8.toNat h1
  simp only [UInt8.toNat_ofNat'] at h2
  omega
theorem extract_one {t : ByteArray} {k : Nat} (h : k < t.size) : t.extract k (k + 1) = oneB (bN t k) := by
  apply ba_ext
  have h2 : k < t.data.toList.length := by rw [Array.length_toList]; exact h
  have e : bN t k = (t.data.toList[k]).toNat := by unfold bN; rw [List.getD_eq_getElem?_getD, List.getElem?_eq_getElem h2]; rfl
  rw [e]
  unfold oneB
  simp only [ByteArray.data_extract, Array.toList_extract, List.extract_eq_take_drop]
  rw [show k + 1 - k = 1 by omega, List.drop_eq_getElem_cons h2]
  simp
theorem extract_split {t : ByteArray} {a b c : Nat} (h1 : a ≤ b) (h2 : b ≤ c) : t.extract a c = t.extract a b ++ t.extract b c := by
  rw [ByteArray.extract_append_extract, Nat.min_eq_left h1, Nat.max_eq_right h2]
theorem gn_enc : ∀ (m : Nat) (t : ByteArray) (a i u0 u e : Nat), 10 - i ≤ m → i ≤ 9 → gn t a i u0 = some (u, e) → ∃ w, u = u0 + w * 128 ^ i ∧ a + i < e ∧ e ≤ t.size ∧ t.extract (a + i) e = vb w ∧ (0 < i → 0 < w) ∧ w * 128 ^ i < 18446744073709551616 - 128 ^ i + 1 := by
  intro m
  induction m with
  | zero => intro t a i u0 u e hm hi; omega
  | succ m ih =>
    intro t a i u0 u e hm hi h
    have hb := bN_lt t (a + i)
    have hp : 0 < 128 ^ i := Nat.pow_pos (by omega)
    rw [gn] at h
    split at h
    · cases h
    rename_i h1
    split at h
    · cases h
    rename_i h2
    have hx : t.extract (a + i) (a + i + 1) = oneB (bN t (a + i)) := extract_one (by omega)
    split at h
    · rename_i h3
      have hi8 : i ≤ 8 := by omega
      obtain ⟨w, hu, hlt, he, hw, hpos, hbd⟩ := ih t a (i + 1) _ u e (by omega) (by omega) h
      have hpw := hpos (by omega)
      have e1 : 128 ^ (i + 1) = 128 ^ i * 128 := Nat.pow_succ _ _
      refine ⟨bN t (a + i) % 128 + 128 * w, ?_, by omega, he, ?_, fun _ => by omega, ?_⟩
      · rw [hu, e1, Nat.add_mul, show 128 * w * 128 ^ i = w * (128 ^ i * 128) from by rw [Nat.mul_comm 128 w, Nat.mul_assoc, Nat.mul_comm 128]]; omega
      · rw [extract_split (b := a + i + 1) (by omega) (by omega), hx, vb_hi (by omega), show (bN t (a + i) % 128 + 128 * w) % 128 + 128 = bN t (a + i) by omega, show (bN t (a + i) % 128 + 128 * w) / 128 = w by omega, ← hw]; rfl
      · rw [e1] at hbd
        rw [Nat.add_mul, show 128 * w * 128 ^ i = w * (128 ^ i * 128) from by rw [Nat.mul_comm 128 w, Nat.mul_assoc, Nat.mul_comm 128]]
        have h9 := pow128 hi8
        rw [e1] at h9
        have : bN t (a + i) % 128 * 128 ^ i + 128 ^ i ≤ 128 * 128 ^ i := by
          rw [← Nat.succ_mul]; exact Nat.mul_le_mul_right _ (by omega)
        omega
    · rename_i h3
      split at h
      · cases h
      rename_i h4
      cases h
      refine ⟨bN t (a + i), rfl, by omega, by omega, ?_, fun hi0 => by omega, ?_⟩
      · rw [hx, vb_lo (by omega)]
      · rcases Nat.lt_or_ge i 9 with h8 | h8
        · have h9 := pow128 (i := i) (by omega)
          rw [Nat.pow_succ] at h9
          have : bN t (a + i) * 128 ^ i + 128 ^ i ≤ 128 * 128 ^ i := by rw [← Nat.succ_mul]; exact Nat.mul_le_mul_right _ (by omega)
          omega
        · have e9 : i = 9 := by omega
          subst e9
          have h9 : 128 ^ 9 = 9223372036854775808 := by decide
          rw [h9]
          omega
def pNum (t : ByteArray) (a : Nat) : Option (Int × Nat) := (gn t a 0 0).map fun p => (unfoldN p.1, p.2)
def pWord (t : ByteArray) (a : Nat) : Option (ByteArray × Nat) := match pNum t a with
  | none => none
  | some (n, e) => if 0 ≤ n ∧ n ≤ 20000 ∧ n ≤ (t.size : Int) - e then some (t.extract e (e + n.toNat), e + n.toNat) else none
def pMany (k : Int) (t : ByteArray) (a : Nat) : Option (Nat × Nat) := match pNum t a with
  | none => none
  | some (n, e) => if 0 ≤ n ∧ n ≤ k then some (n.toNat, e) else none
theorem pNum_enc {t : ByteArray} {a e : Nat} {n : Int} (h : pNum t a = some (n, e)) : a < e ∧ e ≤ t.size ∧ t.extract a e = nb n ∧ InR (-9223372036854775808) 9223372036854775807 n := by
  unfold pNum at h
  rw [Option.map_eq_some_iff] at h
  obtain ⟨⟨u, e'⟩, h1, h2⟩ := h
  cases h2
  obtain ⟨w, hu, hlt, he, hw, _, hbd⟩ := gn_enc 10 t a 0 0 u e' (by omega) (by omega) h1
  simp only [Nat.pow_zero, Nat.mul_one, Nat.zero_add, Nat.add_zero] at hu hlt hw hbd
  subst hu
  have hf := fold_unfold (u := u) (by omega)
  refine ⟨hlt, he, ?_, hf.2⟩
  dsimp only
  unfold nb
  rw [hf.1, hw]
theorem pWord_enc {t : ByteArray} {a e : Nat} {s : ByteArray} (h : pWord t a = some (s, e)) : a < e ∧ e ≤ t.size ∧ t.extract a e = vt s ∧ s.size ≤ 20000 := by
  unfold pWord at h
  split at h
  · cases h
  rename_i n e0 h1
  obtain ⟨h2, h3, h4, h5⟩ := pNum_enc h1
  split at h
  · rename_i hc
    cases h
    have hs : (t.extract e0 (e0 + n.toNat)).size = n.toNat := by rw [ByteArray.size_extract]; omega
    refine ⟨by omega, by omega, ?_, by omega⟩
    rw [extract_split (b := e0) (by omega) (by omega), h4]
    unfold vt nb
    rw [hs, show ((n.toNat : Nat) : Int) = n by omega]
  · cases h
theorem pMany_enc {t : ByteArray} {a e m : Nat} {k : Int} (h : pMany k t a = some (m, e)) : a < e ∧ e ≤ t.size ∧ t.extract a e = nb m ∧ (m : Int) ≤ k := by
  unfold pMany at h
  split at h
  · cases h
  rename_i n e0 h1
  obtain ⟨h2, h3, h4, h5⟩ := pNum_enc h1
  split at h
  · rename_i hc
    cases h
    exact ⟨h2, h3, by rw [h4, show ((n.toNat : Nat) : Int) = n by omega], by omega⟩
  · cases h
def rdO (t : ByteArray) (a : Nat) (b : Bool) : AObj := ⟨[[.string t, .int .i64 a, .bool b]], 3, true⟩
structure Rd {α : Type} (p : Option (α × Nat)) (t : ByteArray) (b : Bool) (x : α) (a' : Nat) (b' : Bool) : Prop where
  bad : b = true → b' = true
  ok : b = false → b' = false → p = some (x, a')
  no : b = false → b' = true → p = none
  le : a' ≤ t.size
theorem rd_ld {h : AHeap} {l : Nat} {t : ByteArray} {a : Nat} {b : Bool} (hg : h.get l = some (rdO t a b)) : h.ld l 0 0 1 = some [.string t] ∧ h.ld l 0 1 1 = some [.int .i64 a] ∧ h.ld l 0 2 1 = some [.bool b] ∧ h.ld l 0 0 3 = some [.string t, .int .i64 a, .bool b] := by
  refine ⟨?_, ?_, ?_, ?_⟩ <;> (unfold AHeap.ld; rw [hg]; rfl)
theorem rd_wrA {h : AHeap} {l : Nat} {t : ByteArray} {a a' : Nat} {b : Bool} (hg : h.get l = some (rdO t a b)) : h.wr l 0 1 [.int .i64 a'] = some (h.put l (some (rdO t a' b))) := by
  unfold AHeap.wr; rw [hg]; rfl
theorem rd_wrB {h : AHeap} {l : Nat} {t : ByteArray} {a : Nat} {b b' : Bool} (hg : h.get l = some (rdO t a b)) : h.wr l 0 2 [.bool b'] = some (h.put l (some (rdO t a b'))) := by
  unfold AHeap.wr; rw [hg]; rfl
theorem rd_out {h : AHeap} {l : Nat} {t : ByteArray} {a a' : Nat} {b b' : Bool} (hg : h.get l = some (rdO t a b)) : Out [l] h (h.put l (some (rdO t a' b'))) := Out.put hg rfl
theorem rd_wf {h : AHeap} {l : Nat} {o o' : AObj} (hw : h.wf) (hg : h.get l = some o) : (h.put l (some o')).wf := hw.put (hw.lt hg) _
end Go.Dat
namespace Go.Proofs.Ytanienlcebkijaa
open Go.Abs Go.Dat
set_option maxRecDepth 100000
set_option maxHeartbeats 8000000
theorem num_cases {f : Int → Int → Int → Value} {t : ByteArray} {a : Nat} {v : Value} (hv : numTo f (gn t a 0 0) v) : (pNum t a = none ∧ ∃ c : Int, 0 < c ∧ c < 100 ∧ v = f 0 0 c) ∨ ∃ (n : Int) (e : Nat), pNum t a = some (n, e) ∧ v = f n e 0 := by
  unfold pNum
  cases hg : gn t a 0 0 with
  | none => rw [hg] at hv; exact .inl ⟨rfl, hv⟩
  | some p => rw [hg] at hv; exact .inr ⟨_, _, rfl, hv⟩
theorem getText_spec (h : AHeap) (t : ByteArray) (a : Nat) (ht : t.size ≤ 20000) (ha : a ≤ 1000000000) : ∃ v h', ACall Try.prog 196 [.string t, .int .i64 a] h v h' ∧ h' = h ∧ ((pWord t a = none ∧ ∃ c : Int, 0 < c ∧ v = .tuple #[.string ⟨#[]⟩, .int .i64 0, .int .i64 c]) ∨ ∃ (s : ByteArray) (e : Nat), pWord t a = some (s, e) ∧ v = .tuple #[.string s, .int .i64 e, .int .i64 0]) := by
  obtain ⟨v, g, A, hv, rfl⟩ := getNum_spec h t a (by omega) ha
  refine acall_q fun Q HQ => ?_
  refine acall_vc (fun _ => false) (fun _ => []) (fun _ => .none) mixed Try.func196 rfl rfl rfl (Nat.le_of_ble_eq_true rfl) (by refine vc_mp (by kernel_rfl : (True ∧ True ∧ (True ∧ (True ∧ True) ∧ True ∧ (True ∧ True) ∧ True ∧ (True ∧ True) ∧ True) ∧ True ∧ True) = _) ?_; simp only [and_self]) ?_
  refine vc_mp (by kernel_rfl : (∃ (x : Int), ∃ (x_1 : Int), ∃ (x_2 : Int), ∃ (h' : AHeap), ACall Try.prog (195 : Nat) [Value.string t, Value.int IntKind.i64 (↑a : Int)] g (Value.tuple (Array.mk [Value.int IntKind.i64 x, Value.int IntKind.i64 x_1, Value.int IntKind.i64 x_2])) h' ∧ bs (!decide (x_2 = (0 : Int))) (Q (Value.tuple (Array.mk [Value.string (ByteArray.mk (Array.mk [])), Value.int IntKind.i64 (0 : Int), Value.int IntKind.i64 x_2])) h') (∃ (x_3 : Bool), ∃ (h'_1 : AHeap), ACall Try.prog (76 : Nat) [Value.int IntKind.i64 x, Value.int IntKind.i64 (0 : Int), Value.int IntKind.i64 (20000 : Int)] h' (Value.bool x_3) h'_1 ∧ bs (!x_3) (Q (Value.tuple (Array.mk [Value.string (ByteArray.mk (Array.mk [])), Value.int IntKind.i64 (0 : Int), Value.int IntKind.i64 (3 : Int)])) h'_1) (bs (decide (x > IntKind.wrap IntKind.i64 ((↑(ByteArray.size t) : Int) - x_1))) (Q (Value.tuple (Array.mk [Value.string (ByteArray.mk (Array.mk [])), Value.int IntKind.i64 (0 : Int), Value.int IntKind.i64 (4 : Int)])) h'_1) ((0 : Int) ≤ x_1 ∧ x_1 ≤ IntKind.wrap IntKind.i64 (x_1 + x) ∧ IntKind.wrap IntKind.i64 (x_1 + x) ≤ (↑(ByteArray.size t) : Int) ∧ Q (Value.tuple (Array.mk [Value.string (ByteArray.extract t (Int.toNat x_1) (Int.toNat (IntKind.wrap IntKind.i64 (x_1 + x)))), Value.int IntKind.i64 (IntKind.wrap IntKind.i64 (x_1 + x)), Value.int IntKind.i64 (0 : Int)])) h'_1)))) = _) ?_
  unfold pWord at HQ
  rcases num_cases hv with ⟨hn, c, h1, h2, rfl⟩ | ⟨n, e, hn, rfl⟩
  · rw [hn] at HQ
    exact ⟨_, _, _, _, A, bs_dn (fun _ => HQ _ _ ⟨rfl, .inl ⟨rfl, c, h1, rfl⟩⟩) (fun e => absurd e (by omega))⟩
  · obtain ⟨q1, q2, q3, q4⟩ := pNum_enc hn
    unfold InR at q4
    rw [hn] at HQ
    dsimp only at HQ
    have e1 : IntKind.i64.wrap ((t.size : Int) - (e : Int)) = (t.size : Int) - e := wrap_i64 (by omega)
    refine ⟨_, _, _, _, A, bs_dn (fun h => absurd rfl h) (fun _ => ⟨_, _, within_spec n 0 20000 _, bs_nb (fun h1 => ?_) (fun h1 => ?_)⟩)⟩
    · rw [if_neg (by intro H; simp [H.1, H.2.1] at h1)] at HQ
      exact HQ _ _ ⟨rfl, .inl ⟨rfl, 3, by decide, rfl⟩⟩
    rw [e1]
    refine bs_d (fun h2 => ?_) (fun h2 => ?_)
    · rw [if_neg (by intro H; omega)] at HQ
      exact HQ _ _ ⟨rfl, .inl ⟨rfl, 4, by decide, rfl⟩⟩
    · have h3 : 0 ≤ n ∧ n ≤ 20000 := by simpa using h1
      rw [if_pos (by omega)] at HQ
      have e2 : IntKind.i64.wrap ((e : Int) + n) = ((e + n.toNat : Nat) : Int) := by rw [wrap_i64 (by omega)]; omega
      rw [e2]
      exact ⟨by omega, by omega, by omega, HQ _ _ ⟨rfl, .inr ⟨_, _, rfl, rfl⟩⟩⟩
theorem specGetText (h : AHeap) (t : ByteArray) (a : Nat) (ht : t.size ≤ 20000) (ha : a ≤ 1000000000) : ∃ v h', ACall Try.prog 200 [.string t, .int .i64 a] h v h' ∧ h' = h ∧ ((pWord t a = none ∧ ∃ c : Int, 0 < c ∧ v = .agg #[.string ⟨#[]⟩, .int .i64 0, .int .i64 c]) ∨ ∃ (s : ByteArray) (e : Nat), pWord t a = some (s, e) ∧ v = .agg #[.string s, .int .i64 e, .int .i64 0]) := by
  obtain ⟨v, g, A, hv, rfl⟩ := specGetNum h t a (by omega) ha
  refine acall_q fun Q HQ => ?_
  refine acall_vc (fun _ => false) (fun r => match r with | 8 => [(0, 0, []), (1, 0, []), (3, 0, []), (5, 0, []), (9, 0, []), (11, 0, []), (2, 1, []), (4, 1, []), (6, 1, []), (7, 0, []), (8, 0, []), (10, 1, []), (12, 1, []), (13, 0, []), (14, 0, []), (15, 3, [])] | _ => []) (fun _ => .none) mixed Try.func200 rfl rfl rfl (Nat.le_of_ble_eq_true rfl) (by refine vc_mp (by kernel_rfl : (True ∧ True ∧ (True ∧ (True ∧ True) ∧ True) ∧ (True ∧ (True ∧ True) ∧ True) ∧ (True ∧ (True ∧ True) ∧ True) ∧ True ∧ True) = _) ?_; simp only [and_self]) ?_
  refine vc_mp (by kernel_rfl : (∃ (x : Int), ∃ (x_1 : Int), ∃ (x_2 : Int), ∃ (h' : AHeap), ACall Try.prog (199 : Nat) [Value.string t, Value.int IntKind.i64 (↑a : Int)] g (Value.agg (Array.mk [Value.int IntKind.i64 x, Value.int IntKind.i64 x_1, Value.int IntKind.i64 x_2])) h' ∧ bs (!decide (x_2 = (0 : Int))) (Q (Value.agg (Array.mk [Value.string (ByteArray.mk (Array.mk [])), Value.int IntKind.i64 (Int.ofNat (0 : Nat)), Value.int IntKind.i64 x_2])) h') (bs (decide (x < (0 : Int))) (Q (Value.agg (Array.mk [Value.string (ByteArray.mk (Array.mk [])), Value.int IntKind.i64 (Int.ofNat (0 : Nat)), Value.int IntKind.i64 (3 : Int)])) h') (bs (decide (x > (20000 : Int))) (Q (Value.agg (Array.mk [Value.string (ByteArray.mk (Array.mk [])), Value.int IntKind.i64 (Int.ofNat (0 : Nat)), Value.int IntKind.i64 (3 : Int)])) h') (bs (decide (x_1 > IntKind.wrap IntKind.i64 ((↑(ByteArray.size t) : Int) - x))) (Q (Value.agg (Array.mk [Value.string (ByteArray.mk (Array.mk [])), Value.int IntKind.i64 (Int.ofNat (0 : Nat)), Value.int IntKind.i64 (4 : Int)])) h') ((0 : Int) ≤ x_1 ∧ x_1 ≤ IntKind.wrap IntKind.i64 (x_1 + x) ∧ IntKind.wrap IntKind.i64 (x_1 + x) ≤ (↑(ByteArray.size t) : Int) ∧ Q (Value.agg (Array.mk [Value.string (ByteArray.extract t (Int.toNat x_1) (Int.toNat (IntKind.wrap IntKind.i64 (x_1 + x)))), Value.int IntKind.i64 (IntKind.wrap IntKind.i64 (x_1 + x)), Value.int IntKind.i64 (Int.ofNat (0 : Nat))])) h'))))) = _) ?_
  unfold pWord at HQ
  rcases num_cases hv with ⟨hn, c, h1, h2, rfl⟩ | ⟨n, e, hn, rfl⟩
  · rw [hn] at HQ
    exact ⟨_, _, _, _, A, bs_dn (fun _ => HQ _ _ ⟨rfl, .inl ⟨rfl, c, h1, rfl⟩⟩) (fun e => absurd e (by omega))⟩
  · obtain ⟨q1, q2, q3, q4⟩ := pNum_enc hn
    unfold InR at q4
    rw [hn] at HQ
    dsimp only at HQ
    have no : ∀ c : Int, 0 < c → ¬ (0 ≤ n ∧ n ≤ 20000 ∧ n ≤ (t.size : Int) - e) → Q (.agg #[.string ⟨#[]⟩, .int .i64 0, .int .i64 c]) g := fun c hc H => by
      rw [if_neg H] at HQ
      exact HQ _ _ ⟨rfl, .inl ⟨rfl, c, hc, rfl⟩⟩
    refine ⟨_, _, _, _, A, bs_dn (fun h => absurd rfl h) (fun _ => bs_d (fun h1 => no 3 (by decide) (by omega)) (fun h1 => bs_d (fun h2 => no 3 (by decide) (by omega)) (fun h2 => ?_)))⟩
    have e1 : IntKind.i64.wrap ((t.size : Int) - n) = (t.size : Int) - n := wrap_i64 (by omega)
    rw [e1]
    refine bs_d (fun h3 => no 4 (by decide) (by omega)) (fun h3 => ?_)
    rw [if_pos (by omega)] at HQ
    have e2 : IntKind.i64.wrap ((e : Int) + n) = ((e + n.toNat : Nat) : Int) := by rw [wrap_i64 (by omega)]; omega
    rw [e2]
    exact ⟨by omega, by omega, by omega, HQ _ _ ⟨rfl, .inr ⟨_, _, rfl, rfl⟩⟩⟩
def RdNum (h : AHeap) (l : Nat) (t : ByteArray) (a : Nat) (b : Bool) (v : Value) (h' : AHeap) : Prop :=
  h'.wf ∧ Out [l] h h' ∧ ∃ (x : Int) (a' : Nat) (b' : Bool), v = .int .i64 x ∧ InR (-9223372036854775808) 9223372036854775807 x ∧ h'.get l = some (rdO t a' b') ∧ Rd (pNum t a) t b x a' b'
def RdWord (h : AHeap) (l : Nat) (t : ByteArray) (a : Nat) (b : Bool) (v : Value) (h' : AHeap) : Prop :=
  h'.wf ∧ Out [l] h h' ∧ ∃ (x : ByteArray) (a' : Nat) (b' : Bool), v = .string x ∧ x.size ≤ 20000 ∧ h'.get l = some (rdO t a' b') ∧ Rd (pWord t a) t b x a' b'
def RdMany (k : Int) (h : AHeap) (l : Nat) (t : ByteArray) (a : Nat) (b : Bool) (v : Value) (h' : AHeap) : Prop :=
  h'.wf ∧ Out [l] h h' ∧ ∃ (x : Nat) (a' : Nat) (b' : Bool), v = .int .i64 x ∧ (x : Int) ≤ k ∧ h'.get l = some (rdO t a' b') ∧ Rd (pMany k t a) t b x a' b'
theorem rnum_spec (h : AHeap) (hw : h.wf) (l : Nat) (t : ByteArray) (a : Nat) (b : Bool) (ht : t.size ≤ 20000) (ha : a ≤ t.size) (hg : h.get l = some (rdO t a b)) : ∃ v h', ACall Try.prog 162 [.pointer (some ⟨l, 0, some 0⟩)] h v h' ∧ RdNum h l t a b v h' := by
  obtain ⟨v, g, A, hv, rfl⟩ := getNum_spec h t a (by omega) (by omega)
  obtain ⟨d1, d2, d3, _⟩ := rd_ld hg
  refine acall_q fun Q HQ => ?_
  refine acall_vc (fun _ => false) (fun r => match r with | 1 => [(0, 0, []), (1, 0, []), (2, 0, []), (4, 0, []), (5, 0, []), (6, 0, []), (3, 1, []), (7, 1, []), (8, 3, []), (9, 0, []), (10, 0, []), (11, 0, []), (12, 0, []), (13, 0, []), (14, 0, []), (15, 0, [])] | _ => []) (fun _ => .none) mixed Try.func162 rfl rfl rfl (Nat.le_of_ble_eq_true rfl) (by refine vc_mp (by kernel_rfl : (True ∧ True ∧ (True ∧ (True ∧ True ∧ True) ∧ True) ∧ True ∧ True ∧ True) = _) ?_; simp only [and_self]) ?_
  refine vc_mp (by kernel_rfl : (∃ (x : ByteArray), AHeap.ld g l (0 : Nat) (0 : Nat) (1 : Nat) = some [Value.string x] ∧ ∃ (x_1 : Int), AHeap.ld g l (0 : Nat) (1 : Nat) (1 : Nat) = some [Value.int IntKind.i64 x_1] ∧ ∃ (x_2 : Int), ∃ (x_3 : Int), ∃ (x_4 : Int), ∃ (h' : AHeap), ACall Try.prog (195 : Nat) [Value.string x, Value.int IntKind.i64 x_1] g (Value.tuple (Array.mk [Value.int IntKind.i64 x_2, Value.int IntKind.i64 x_3, Value.int IntKind.i64 x_4])) h' ∧ bs (!decide (x_4 = (0 : Int))) (∃ (h'_1 : AHeap), AHeap.wr h' l (0 : Nat) (2 : Nat) [Value.bool true] = some h'_1 ∧ Q (Value.int IntKind.i64 (0 : Int)) h'_1) (∃ (h'_1 : AHeap), AHeap.wr h' l (0 : Nat) (1 : Nat) [Value.int IntKind.i64 x_3] = some h'_1 ∧ Q (Value.int IntKind.i64 x_2) h'_1)) = _) ?_
  refine ⟨_, d1, _, d2, ?_⟩
  rcases num_cases hv with ⟨hn, c, h1, h2, rfl⟩ | ⟨n, e, hn, rfl⟩
  · exact ⟨_, _, _, _, A, bs_dn (fun _ => ⟨_, rd_wrB hg, HQ _ _ ⟨rd_wf hw hg, rd_out hg, 0, a, true, rfl, by unfold InR; omega, AHeap.get_put_eq, ⟨fun _ => rfl, fun _ e => (by cases e), fun _ _ => hn, ha⟩⟩⟩) (fun e => absurd e (by omega))⟩
  · obtain ⟨q1, q2, q3, q4⟩ := pNum_enc hn
    exact ⟨_, _, _, _, A, bs_dn (fun h => absurd rfl h) (fun _ => ⟨_, rd_wrA hg, HQ _ _ ⟨rd_wf hw hg, rd_out hg, n, e, b, rfl, q4, AHeap.get_put_eq, ⟨fun h => h, fun _ _ => hn, fun h1 h2 => absurd (h1.symm.trans h2) (by decide), q2⟩⟩⟩)⟩
theorem rword_spec (h : AHeap) (hw : h.wf) (l : Nat) (t : ByteArray) (a : Nat) (b : Bool) (ht : t.size ≤ 20000) (ha : a ≤ t.size) (hg : h.get l = some (rdO t a b)) : ∃ v h', ACall Try.prog 163 [.pointer (some ⟨l, 0, some 0⟩)] h v h' ∧ RdWord h l t a b v h' := by
  obtain ⟨v, g, A, rfl, hv⟩ := getText_spec h t a (by omega) (by omega)
  obtain ⟨d1, d2, d3, _⟩ := rd_ld hg
  refine acall_q fun Q HQ => ?_
  refine acall_vc (fun _ => false) (fun r => match r with | 1 => [(0, 0, []), (1, 0, []), (2, 0, []), (4, 0, []), (5, 0, []), (6, 0, []), (3, 1, []), (7, 1, []), (8, 3, []), (9, 0, []), (10, 0, []), (11, 0, []), (12, 0, []), (13, 0, []), (14, 0, []), (15, 0, [])] | _ => []) (fun _ => .none) mixed Try.func163 rfl rfl rfl (Nat.le_of_ble_eq_true rfl) (by refine vc_mp (by kernel_rfl : (True ∧ True ∧ (True ∧ (True ∧ True ∧ True) ∧ True) ∧ True ∧ True ∧ True) = _) ?_; simp only [and_self]) ?_
  refine vc_mp (by kernel_rfl : (∃ (x : ByteArray), AHeap.ld g l (0 : Nat) (0 : Nat) (1 : Nat) = some [Value.string x] ∧ ∃ (x_1 : Int), AHeap.ld g l (0 : Nat) (1 : Nat) (1 : Nat) = some [Value.int IntKind.i64 x_1] ∧ ∃ (x_2 : ByteArray), ∃ (x_3 : Int), ∃ (x_4 : Int), ∃ (h' : AHeap), ACall Try.prog (196 : Nat) [Value.string x, Value.int IntKind.i64 x_1] g (Value.tuple (Array.mk [Value.string x_2, Value.int IntKind.i64 x_3, Value.int IntKind.i64 x_4])) h' ∧ bs (!decide (x_4 = (0 : Int))) (∃ (h'_1 : AHeap), AHeap.wr h' l (0 : Nat) (2 : Nat) [Value.bool true] = some h'_1 ∧ Q (Value.string (ByteArray.mk (Array.mk []))) h'_1) (∃ (h'_1 : AHeap), AHeap.wr h' l (0 : Nat) (1 : Nat) [Value.int IntKind.i64 x_3] = some h'_1 ∧ Q (Value.string x_2) h'_1)) = _) ?_
  refine ⟨_, d1, _, d2, ?_⟩
  rcases hv with ⟨hn, c, h1, rfl⟩ | ⟨n, e, hn, rfl⟩
  · exact ⟨_, _, _, _, A, bs_dn (fun _ => ⟨_, rd_wrB hg, HQ _ _ ⟨rd_wf hw hg, rd_out hg, ⟨#[]⟩, a, true, rfl, Nat.zero_le _, AHeap.get_put_eq, ⟨fun _ => rfl, fun _ e => (by cases e), fun _ _ => hn, ha⟩⟩⟩) (fun e => absurd e (by omega))⟩
  · obtain ⟨q1, q2, q3, q4⟩ := pWord_enc hn
    exact ⟨_, _, _, _, A, bs_dn (fun h => absurd rfl h) (fun _ => ⟨_, rd_wrA hg, HQ _ _ ⟨rd_wf hw hg, rd_out hg, n, e, b, rfl, q4, AHeap.get_put_eq, ⟨fun h => h, fun _ _ => hn, fun h1 h2 => absurd (h1.symm.trans h2) (by decide), q2⟩⟩⟩)⟩
def o3 (a b c : Value) : AObj := ⟨[[a, b, c]], 3, true⟩
theorem o3_wr {h : AHeap} {l : Nat} {a b c a' b' c' : Value} (hg : h.get l = some (o3 a b c)) : h.wr l 0 0 [a', b', c'] = some (h.put l (some (o3 a' b' c'))) := by
  unfold AHeap.wr; rw [hg]; rfl
theorem o3_ld {h : AHeap} {l : Nat} {a b c : Value} (hg : h.get l = some (o3 a b c)) : h.ld l 0 0 1 = some [a] ∧ h.ld l 0 1 1 = some [b] ∧ h.ld l 0 2 1 = some [c] := by
  refine ⟨?_, ?_, ?_⟩ <;> (unfold AHeap.ld; rw [hg]; rfl)
theorem srnum_spec (h : AHeap) (hw : h.wf) (l : Nat) (t : ByteArray) (a : Nat) (b : Bool) (ht : t.size ≤ 20000) (ha : a ≤ t.size) (hg : h.get l = some (rdO t a b)) : ∃ v h', ACall Try.prog 169 [.pointer (some ⟨l, 0, some 0⟩)] h v h' ∧ RdNum h l t a b v h' := by
  have hll := hw.lt hg
  obtain ⟨G, hG⟩ : ∃ G, G = h.push ⟨[[.int .i64 (Int.ofNat 0), .int .i64 (Int.ofNat 0), .int .i64 (Int.ofNat 0)]], 3, true⟩ := ⟨_, rfl⟩
  have w0 : G.wf := by rw [hG]; exact hw.push _
  have le0 : h.Le G := by rw [hG]; exact .push hw _
  have hx0 : G.get h.n = some (o3 (.int .i64 0) (.int .i64 0) (.int .i64 0)) := by rw [hG]; exact AHeap.get_push_eq
  have hg0 := le0.get _ _ hg
  have lt0 := w0.lt hx0
  obtain ⟨v, g, A, hv, eg⟩ := specGetNum G t a (by omega) (by omega)
  rw [eg] at A
  obtain ⟨d1, d2, d3, _⟩ := rd_ld hg0
  refine acall_q fun Q HQ => ?_
  refine acall_vc (fun t => t == 3) (fun r => match r with | 1 => [(9, 2, []), (0, 0, []), (1, 0, []), (2, 0, []), (4, 0, []), (5, 0, []), (6, 0, []), (3, 1, []), (7, 1, []), (8, 3, [9]), (10, 3, [])] | _ => []) (fun _ => .none) mixed Try.func169 rfl rfl rfl (Nat.le_of_ble_eq_true rfl) (by refine vc_mp (by kernel_rfl : (True ∧ True ∧ (True ∧ (True ∧ True ∧ True) ∧ True) ∧ True ∧ True ∧ True) = _) ?_; simp only [and_self]) ?_
  refine vc_mp (by kernel_rfl : (∃ (x : ByteArray), AHeap.ld (AHeap.push h (AObj.mk [[Value.int IntKind.i64 (Int.ofNat (0 : Nat)), Value.int IntKind.i64 (Int.ofNat (0 : Nat)), Value.int IntKind.i64 (Int.ofNat (0 : Nat))]] (3 : Nat) true)) l (0 : Nat) (0 : Nat) (1 : Nat) = some [Value.string x] ∧ ∃ (x_1 : Int), AHeap.ld (AHeap.push h (AObj.mk [[Value.int IntKind.i64 (Int.ofNat (0 : Nat)), Value.int IntKind.i64 (Int.ofNat (0 : Nat)), Value.int IntKind.i64 (Int.ofNat (0 : Nat))]] (3 : Nat) true)) l (0 : Nat) (1 : Nat) (1 : Nat) = some [Value.int IntKind.i64 x_1] ∧ ∃ (x_2 : Int), ∃ (x_3 : Int), ∃ (x_4 : Int), ∃ (h' : AHeap), ACall Try.prog (199 : Nat) [Value.string x, Value.int IntKind.i64 x_1] (AHeap.push h (AObj.mk [[Value.int IntKind.i64 (Int.ofNat (0 : Nat)), Value.int IntKind.i64 (Int.ofNat (0 : Nat)), Value.int IntKind.i64 (Int.ofNat (0 : Nat))]] (3 : Nat) true)) (Value.agg (Array.mk [Value.int IntKind.i64 x_2, Value.int IntKind.i64 x_3, Value.int IntKind.i64 x_4])) h' ∧ (AHeap.get h' (AHeap.n h) = AHeap.get (AHeap.push h (AObj.mk [[Value.int IntKind.i64 (Int.ofNat (0 : Nat)), Value.int IntKind.i64 (Int.ofNat (0 : Nat)), Value.int IntKind.i64 (Int.ofNat (0 : Nat))]] (3 : Nat) true)) (AHeap.n h) ∧ AHeap.n (AHeap.push h (AObj.mk [[Value.int IntKind.i64 (Int.ofNat (0 : Nat)), Value.int IntKind.i64 (Int.ofNat (0 : Nat)), Value.int IntKind.i64 (Int.ofNat (0 : Nat))]] (3 : Nat) true)) ≤ AHeap.n h') ∧ ∃ (h'_1 : AHeap), AHeap.wr h' (AHeap.n h) (0 : Nat) (0 : Nat) [Value.int IntKind.i64 x_2, Value.int IntKind.i64 x_3, Value.int IntKind.i64 x_4] = some h'_1 ∧ ∃ (x : Bool), AHeap.ld h'_1 l (0 : Nat) (2 : Nat) (1 : Nat) = some [Value.bool x] ∧ bs x (∃ (h' : AHeap), AHeap.wr h'_1 l (0 : Nat) (2 : Nat) [Value.bool true] = some h' ∧ Q (Value.int IntKind.i64 (0 : Int)) h') (∃ (x : Int), AHeap.ld h'_1 (AHeap.n h) (0 : Nat) (2 : Nat) (1 : Nat) = some [Value.int IntKind.i64 x] ∧ bs (!decide (x = (0 : Int))) (∃ (h' : AHeap), AHeap.wr h'_1 l (0 : Nat) (2 : Nat) [Value.bool true] = some h' ∧ Q (Value.int IntKind.i64 (0 : Int)) h') (∃ (x : Int), AHeap.ld h'_1 (AHeap.n h) (0 : Nat) (1 : Nat) (1 : Nat) = some [Value.int IntKind.i64 x] ∧ ∃ (h' : AHeap), AHeap.wr h'_1 l (0 : Nat) (1 : Nat) [Value.int IntKind.i64 x] = some h' ∧ ∃ (x : Int), AHeap.ld h' (AHeap.n h) (0 : Nat) (0 : Nat) (1 : Nat) = some [Value.int IntKind.i64 x] ∧ Q (Value.int IntKind.i64 x) h'))) = _) ?_
  rw [← hG]
  refine ⟨_, d1, _, d2, ?_⟩
  obtain ⟨n, e, c, rfl, hcase⟩ : ∃ (n : Int) (e : Nat) (c : Int), v = .agg #[.int .i64 n, .int .i64 e, .int .i64 c] ∧ ((pNum t a = none ∧ 0 < c) ∨ (pNum t a = some (n, e) ∧ c = 0)) := by
    rcases num_cases hv with ⟨hn, c, h1, h2, rfl⟩ | ⟨n, e, hn, rfl⟩
    · exact ⟨0, 0, c, rfl, .inl ⟨hn, h1⟩⟩
    · exact ⟨n, e, 0, rfl, .inr ⟨hn, rfl⟩⟩
  have hG1 : (G.put h.n (some (o3 (.int .i64 n) (.int .i64 e) (.int .i64 c)))).get l = some (rdO t a b) := by rw [AHeap.get_put_ne (by omega)]; exact hg0
  have hx1 : (G.put h.n (some (o3 (.int .i64 n) (.int .i64 e) (.int .i64 c)))).get h.n = some (o3 (.int .i64 n) (.int .i64 e) (.int .i64 c)) := AHeap.get_put_eq
  have w1 : (G.put h.n (some (o3 (.int .i64 n) (.int .i64 e) (.int .i64 c)))).wf := w0.put lt0 _
  have o1 : Out [l] h (G.put h.n (some (o3 (.int .i64 n) (.int .i64 e) (.int .i64 c)))) := .of_le (le0.put (hw _ (Nat.le_refl _)) _)
  refine ⟨_, _, _, _, A, ⟨rfl, Nat.le_refl _⟩, _, o3_wr hx0, ?_⟩
  generalize hG' : G.put h.n (some (o3 (.int .i64 n) (.int .i64 e) (.int .i64 c))) = G' at *
  obtain ⟨f1, f2, f3, _⟩ := rd_ld hG1
  obtain ⟨x1, x2, x3⟩ := o3_ld hx1
  refine ⟨_, f3, ?_⟩
  have bad : (b = false → pNum t a = none) → Q (.int .i64 0) (G'.put l (some (rdO t a true))) := fun hb => HQ _ _ ⟨rd_wf w1 hG1, o1.trans (rd_out hG1), 0, a, true, rfl, by unfold InR; omega, AHeap.get_put_eq, ⟨fun _ => rfl, fun _ e => (by cases e), fun h _ => hb h, ha⟩⟩
  cases b with
  | true => exact ⟨_, rd_wrB hG1, bad (fun e => by cases e)⟩
  | false =>
    refine ⟨_, x3, ?_⟩
    rcases hcase with ⟨hn, hc⟩ | ⟨hn, rfl⟩
    · exact bs_dn (fun _ => ⟨_, rd_wrB hG1, bad (fun _ => hn)⟩) (fun e => absurd e (by omega))
    · obtain ⟨q1, q2, q3, q4⟩ := pNum_enc hn
      refine bs_dn (fun h => absurd rfl h) (fun _ => ⟨_, x2, _, rd_wrA hG1, ?_⟩)
      have x4 : (G'.put l (some (rdO t e false))).get h.n = some (o3 (.int .i64 n) (.int .i64 e) (.int .i64 0)) := by rw [AHeap.get_put_ne (by omega)]; exact hx1
      exact ⟨_, (o3_ld x4).1, HQ _ _ ⟨rd_wf w1 hG1, o1.trans (rd_out hG1), n, e, false, rfl, q4, AHeap.get_put_eq, ⟨fun h => h, fun _ _ => hn, fun _ h2 => (by cases h2), q2⟩⟩⟩
theorem srtext_spec (h : AHeap) (hw : h.wf) (l : Nat) (t : ByteArray) (a : Nat) (b : Bool) (ht : t.size ≤ 20000) (ha : a ≤ t.size) (hg : h.get l = some (rdO t a b)) : ∃ v h', ACall Try.prog 170 [.pointer (some ⟨l, 0, some 0⟩)] h v h' ∧ RdWord h l t a b v h' := by
  have hll := hw.lt hg
  obtain ⟨G, hG⟩ : ∃ G, G = h.push ⟨[[.string ⟨#[]⟩, .int .i64 (Int.ofNat 0), .int .i64 (Int.ofNat 0)]], 3, true⟩ := ⟨_, rfl⟩
  have w0 : G.wf := by rw [hG]; exact hw.push _
  have le0 : h.Le G := by rw [hG]; exact .push hw _
  have hx0 : G.get h.n = some (o3 (.string ⟨#[]⟩) (.int .i64 0) (.int .i64 0)) := by rw [hG]; exact AHeap.get_push_eq
  have hg0 := le0.get _ _ hg
  have lt0 := w0.lt hx0
  obtain ⟨v, g, A, eg, hv⟩ := specGetText G t a (by omega) (by omega)
  rw [eg] at A
  obtain ⟨d1, d2, d3, _⟩ := rd_ld hg0
  refine acall_q fun Q HQ => ?_
  refine acall_vc (fun t => t == 3) (fun r => match r with | 1 => [(9, 2, []), (0, 0, []), (1, 0, []), (2, 0, []), (4, 0, []), (5, 0, []), (6, 0, []), (3, 1, []), (7, 1, []), (8, 3, [9]), (10, 3, [])] | _ => []) (fun _ => .none) mixed Try.func170 rfl rfl rfl (Nat.le_of_ble_eq_true rfl) (by refine vc_mp (by kernel_rfl : (True ∧ True ∧ (True ∧ (True ∧ True ∧ True) ∧ True) ∧ True ∧ True ∧ True) = _) ?_; simp only [and_self]) ?_
  refine vc_mp (by kernel_rfl : (∃ (x : ByteArray), AHeap.ld (AHeap.push h (AObj.mk [[Value.string (ByteArray.mk (Array.mk [])), Value.int IntKind.i64 (Int.ofNat (0 : Nat)), Value.int IntKind.i64 (Int.ofNat (0 : Nat))]] (3 : Nat) true)) l (0 : Nat) (0 : Nat) (1 : Nat) = some [Value.string x] ∧ ∃ (x_1 : Int), AHeap.ld (AHeap.push h (AObj.mk [[Value.string (ByteArray.mk (Array.mk [])), Value.int IntKind.i64 (Int.ofNat (0 : Nat)), Value.int IntKind.i64 (Int.ofNat (0 : Nat))]] (3 : Nat) true)) l (0 : Nat) (1 : Nat) (1 : Nat) = some [Value.int IntKind.i64 x_1] ∧ ∃ (x_2 : ByteArray), ∃ (x_3 : Int), ∃ (x_4 : Int), ∃ (h' : AHeap), ACall Try.prog (200 : Nat) [Value.string x, Value.int IntKind.i64 x_1] (AHeap.push h (AObj.mk [[Value.string (ByteArray.mk (Array.mk [])), Value.int IntKind.i64 (Int.ofNat (0 : Nat)), Value.int IntKind.i64 (Int.ofNat (0 : Nat))]] (3 : Nat) true)) (Value.agg (Array.mk [Value.string x_2, Value.int IntKind.i64 x_3, Value.int IntKind.i64 x_4])) h' ∧ (AHeap.get h' (AHeap.n h) = AHeap.get (AHeap.push h (AObj.mk [[Value.string (ByteArray.mk (Array.mk [])), Value.int IntKind.i64 (Int.ofNat (0 : Nat)), Value.int IntKind.i64 (Int.ofNat (0 : Nat))]] (3 : Nat) true)) (AHeap.n h) ∧ AHeap.n (AHeap.push h (AObj.mk [[Value.string (ByteArray.mk (Array.mk [])), Value.int IntKind.i64 (Int.ofNat (0 : Nat)), Value.int IntKind.i64 (Int.ofNat (0 : Nat))]] (3 : Nat) true)) ≤ AHeap.n h') ∧ ∃ (h'_1 : AHeap), AHeap.wr h' (AHeap.n h) (0 : Nat) (0 : Nat) [Value.string x_2, Value.int IntKind.i64 x_3, Value.int IntKind.i64 x_4] = some h'_1 ∧ ∃ (x : Bool), AHeap.ld h'_1 l (0 : Nat) (2 : Nat) (1 : Nat) = some [Value.bool x] ∧ bs x (∃ (h' : AHeap), AHeap.wr h'_1 l (0 : Nat) (2 : Nat) [Value.bool true] = some h' ∧ Q (Value.string (ByteArray.mk (Array.mk []))) h') (∃ (x : Int), AHeap.ld h'_1 (AHeap.n h) (0 : Nat) (2 : Nat) (1 : Nat) = some [Value.int IntKind.i64 x] ∧ bs (!decide (x = (0 : Int))) (∃ (h' : AHeap), AHeap.wr h'_1 l (0 : Nat) (2 : Nat) [Value.bool true] = some h' ∧ Q (Value.string (ByteArray.mk (Array.mk []))) h') (∃ (x : Int), AHeap.ld h'_1 (AHeap.n h) (0 : Nat) (1 : Nat) (1 : Nat) = some [Value.int IntKind.i64 x] ∧ ∃ (h' : AHeap), AHeap.wr h'_1 l (0 : Nat) (1 : Nat) [Value.int IntKind.i64 x] = some h' ∧ ∃ (x : ByteArray), AHeap.ld h' (AHeap.n h) (0 : Nat) (0 : Nat) (1 : Nat) = some [Value.string x] ∧ Q (Value.string x) h'))) = _) ?_
  rw [← hG]
  refine ⟨_, d1, _, d2, ?_⟩
  obtain ⟨n, e, c, rfl, hcase⟩ : ∃ (n : ByteArray) (e : Nat) (c : Int), v = .agg #[.string n, .int .i64 e, .int .i64 c] ∧ ((pWord t a = none ∧ 0 < c) ∨ (pWord t a = some (n, e) ∧ c = 0)) := by
    rcases hv with ⟨hn, c, h1, rfl⟩ | ⟨n, e, hn, rfl⟩
    · exact ⟨⟨#[]⟩, 0, c, rfl, .inl ⟨hn, h1⟩⟩
    · exact ⟨n, e, 0, rfl, .inr ⟨hn, rfl⟩⟩
  have hG1 : (G.put h.n (some (o3 (.string n) (.int .i64 e) (.int .i64 c)))).get l = some (rdO t a b) := by rw [AHeap.get_put_ne (by omega)]; exact hg0
  have hx1 : (G.put h.n (some (o3 (.string n) (.int .i64 e) (.int .i64 c)))).get h.n = some (o3 (.string n) (.int .i64 e) (.int .i64 c)) := AHeap.get_put_eq
  have w1 : (G.put h.n (some (o3 (.string n) (.int .i64 e) (.int .i64 c)))).wf := w0.put lt0 _
  have o1 : Out [l] h (G.put h.n (some (o3 (.string n) (.int .i64 e) (.int .i64 c)))) := .of_le (le0.put (hw _ (Nat.le_refl _)) _)
  refine ⟨_, _, _, _, A, ⟨rfl, Nat.le_refl _⟩, _, o3_wr hx0, ?_⟩
  generalize hG' : G.put h.n (some (o3 (.string n) (.int .i64 e) (.int .i64 c))) = G' at *
  obtain ⟨f1, f2, f3, _⟩ := rd_ld hG1
  obtain ⟨x1, x2, x3⟩ := o3_ld hx1
  refine ⟨_, f3, ?_⟩
  have bad : (b = false → pWord t a = none) → Q (.string ⟨#[]⟩) (G'.put l (some (rdO t a true))) := fun hb => HQ _ _ ⟨rd_wf w1 hG1, o1.trans (rd_out hG1), ⟨#[]⟩, a, true, rfl, by exact Nat.zero_le _, AHeap.get_put_eq, ⟨fun _ => rfl, fun _ e => (by cases e), fun h _ => hb h, ha⟩⟩
  cases b with
  | true => exact ⟨_, rd_wrB hG1, bad (fun e => by cases e)⟩
  | false =>
    refine ⟨_, x3, ?_⟩
    rcases hcase with ⟨hn, hc⟩ | ⟨hn, rfl⟩
    · exact bs_dn (fun _ => ⟨_, rd_wrB hG1, bad (fun _ => hn)⟩) (fun e => absurd e (by omega))
    · obtain ⟨q1, q2, q3, q4⟩ := pWord_enc hn
      refine bs_dn (fun h => absurd rfl h) (fun _ => ⟨_, x2, _, rd_wrA hG1, ?_⟩)
      have x4 : (G'.put l (some (rdO t e false))).get h.n = some (o3 (.string n) (.int .i64 e) (.int .i64 0)) := by rw [AHeap.get_put_ne (by omega)]; exact hx1
      exact ⟨_, (o3_ld x4).1, HQ _ _ ⟨rd_wf w1 hG1, o1.trans (rd_out hG1), n, e, false, rfl, q4, AHeap.get_put_eq, ⟨fun h => h, fun _ _ => hn, fun _ h2 => (by cases h2), q2⟩⟩⟩
theorem rmany_spec (h : AHeap) (hw : h.wf) (l : Nat) (t : ByteArray) (a : Nat) (b : Bool) (k : Int) (hk : 0 ≤ k) (ht : t.size ≤ 20000) (ha : a ≤ t.size) (hg : h.get l = some (rdO t a b)) : ∃ v h', ACall Try.prog 164 [.pointer (some ⟨l, 0, some 0⟩), .int .i64 k] h v h' ∧ RdMany k h l t a b v h' := by
  obtain ⟨v, g, A, w, o, x, a', b', rfl, hx, hg', R⟩ := rnum_spec h hw l t a b ht ha hg
  refine acall_q fun Q HQ => ?_
  refine acall_vc (fun _ => false) (fun _ => []) (fun _ => .none) mixed Try.func164 rfl rfl rfl (Nat.le_of_ble_eq_true rfl) (by refine vc_mp (by kernel_rfl : (True ∧ True ∧ (True ∧ True ∧ True) ∧ (True ∧ (True ∧ True) ∧ True) ∧ True ∧ True) = _) ?_; simp only [and_self]) ?_
  refine vc_mp (by kernel_rfl : (∃ (x : Int), ∃ (h' : AHeap), ACall Try.prog (162 : Nat) [Value.pointer (some (Addr.mk l (0 : Nat) (some (0 : Nat))))] h (Value.int IntKind.i64 x) h' ∧ ∃ (x_1 : Bool), ∃ (h'_1 : AHeap), ACall Try.prog (76 : Nat) [Value.int IntKind.i64 x, Value.int IntKind.i64 (0 : Int), Value.int IntKind.i64 k] h' (Value.bool x_1) h'_1 ∧ bs (!x_1) (∃ (h' : AHeap), AHeap.wr h'_1 l (0 : Nat) (2 : Nat) [Value.bool true] = some h' ∧ ∃ (x_2 : Bool), AHeap.ld h' l (0 : Nat) (2 : Nat) (1 : Nat) = some [Value.bool x_2] ∧ bs x_2 (Q (Value.int IntKind.i64 (0 : Int)) h') (Q (Value.int IntKind.i64 x) h')) (∃ (x_2 : Bool), AHeap.ld h'_1 l (0 : Nat) (2 : Nat) (1 : Nat) = some [Value.bool x_2] ∧ bs x_2 (Q (Value.int IntKind.i64 (0 : Int)) h'_1) (Q (Value.int IntKind.i64 x) h'_1))) = _) ?_
  refine ⟨_, _, A, _, _, within_spec x 0 k g, bs_nb (fun e => ?_) (fun e => ?_)⟩
  · have hno : ¬ (0 ≤ x ∧ x ≤ k) := by intro H; simp [H.1, H.2] at e
    refine ⟨_, rd_wrB hg', ?_⟩
    obtain ⟨_, _, f3, _⟩ := rd_ld (h := g.put l (some (rdO t a' true))) (a := a') (b := true) AHeap.get_put_eq
    refine ⟨_, f3, ?_⟩
    refine HQ _ _ ⟨rd_wf w hg', o.trans (rd_out hg'), 0, a', true, rfl, by omega, AHeap.get_put_eq, ⟨fun _ => rfl, fun _ e => (by cases e), fun h1 _ => ?_, R.le⟩⟩
    unfold pMany
    cases b' with
    | true => rw [R.no h1 rfl]
    | false => rw [R.ok h1 rfl]; dsimp only; rw [if_neg hno]
  · have hy : 0 ≤ x ∧ x ≤ k := by simpa using e
    obtain ⟨_, _, f3, _⟩ := rd_ld hg'
    refine ⟨_, f3, ?_⟩
    cases b' with
    | true => exact HQ _ _ ⟨w, o, 0, a', true, rfl, by omega, hg', ⟨fun _ => rfl, fun _ e => (by cases e), fun h1 _ => by unfold pMany; rw [R.no h1 rfl], R.le⟩⟩
    | false =>
      refine HQ _ _ ⟨w, o, x.toNat, a', false, by rw [show ((x.toNat : Nat) : Int) = x by omega], by omega, hg', ⟨R.bad, fun h1 _ => ?_, fun _ h2 => (by cases h2), R.le⟩⟩
      unfold pMany
      rw [R.ok h1 rfl]; dsimp only; rw [if_pos hy]
theorem srmany_spec (h : AHeap) (hw : h.wf) (l : Nat) (t : ByteArray) (a : Nat) (b : Bool) (k : Int) (hk : 0 ≤ k) (ht : t.size ≤ 20000) (ha : a ≤ t.size) (hg : h.get l = some (rdO t a b)) : ∃ v h', ACall Try.prog 171 [.pointer (some ⟨l, 0, some 0⟩), .int .i64 k] h v h' ∧ RdMany k h l t a b v h' := by
  obtain ⟨v, g, A, w, o, x, a', b', rfl, hx, hg', R⟩ := srnum_spec h hw l t a b ht ha hg
  refine acall_q fun Q HQ => ?_
  refine acall_vc (fun _ => false) (fun _ => []) (fun _ => .none) mixed Try.func171 rfl rfl rfl (Nat.le_of_ble_eq_true rfl) (by refine vc_mp (by kernel_rfl : (True ∧ True ∧ (True ∧ (True ∧ True ∧ True) ∧ True) ∧ True ∧ True) = _) ?_; simp only [and_self]) ?_
  refine vc_mp (by kernel_rfl : (∃ (x : Int), ∃ (h' : AHeap), ACall Try.prog (169 : Nat) [Value.pointer (some (Addr.mk l (0 : Nat) (some (0 : Nat))))] h (Value.int IntKind.i64 x) h' ∧ ∃ (x_1 : Bool), ∃ (h'_1 : AHeap), ACall Try.prog (77 : Nat) [Value.int IntKind.i64 x, Value.int IntKind.i64 (0 : Int), Value.int IntKind.i64 k] h' (Value.bool x_1) h'_1 ∧ bs (!x_1) (∃ (h' : AHeap), AHeap.wr h'_1 l (0 : Nat) (2 : Nat) [Value.bool true] = some h' ∧ Q (Value.int IntKind.i64 (0 : Int)) h') (Q (Value.int IntKind.i64 x) h'_1)) = _) ?_
  refine ⟨_, _, A, _, _, l03Is_spec x 0 k g, bs_nb (fun e => ?_) (fun e => ?_)⟩
  · have hno : ¬ (0 ≤ x ∧ x ≤ k) := by intro H; simp [H.1, H.2] at e
    refine ⟨_, rd_wrB hg', ?_⟩
    refine HQ _ _ ⟨rd_wf w hg', o.trans (rd_out hg'), 0, a', true, rfl, by omega, AHeap.get_put_eq, ⟨fun _ => rfl, fun _ e => (by cases e), fun h1 _ => ?_, R.le⟩⟩
    unfold pMany
    cases b' with
    | true => rw [R.no h1 rfl]
    | false => rw [R.ok h1 rfl]; dsimp only; rw [if_neg hno]
  · have hy : 0 ≤ x ∧ x ≤ k := by simpa using e
    refine HQ _ _ ⟨w, o, x.toNat, a', b', by rw [show ((x.toNat : Nat) : Int) = x by omega], by omega, hg', ⟨R.bad, fun h1 h2 => ?_, fun h1 h2 => ?_, R.le⟩⟩
    · unfold pMany
      rw [R.ok h1 h2]; dsimp only; rw [if_pos hy]
    · unfold pMany
      rw [R.no h1 h2]
end Go.Proofs.Ytanienlcebkijaa
end
section
namespace Go.Dat
open Go.Abs
structure Kp (J : List Nat) (g g' : AHeap) : Prop where
  n : g.n ≤ g'.n
  get : ∀ z o, z ∉ J → g.get z = some o → g'.get z = some o
theorem Kp.refl {J : List Nat} {g : AHeap} : Kp J g g := ⟨Nat.le_refl _, fun _ _ _ h => h⟩
theorem Kp.trans {J : List Nat} {a b c : AHeap} (x : Kp J a b) (y : Kp J b c) : Kp J a c := ⟨Nat.le_trans x.n y.n, fun z o hz h => y.get z o hz (x.get z o hz h)⟩
theorem Kp.widen {J K : List Nat} {a b : AHeap} (x : Kp J a b) (h : ∀ z ∈ J, z ∈ K) : Kp K a b := ⟨x.n, fun z o hz => x.get z o (fun e => hz (h z e))⟩
theorem _root_.Go.Dat.Out.kp {J : List Nat} {a b : AHeap} (x : Out J a b) : Kp J a b := ⟨x.shp.n, x.get⟩
theorem Kp.of_le {J : List Nat} {a b : AHeap} (x : a.Le b) : Kp J a b := ⟨x.n, fun z o _ h => x.get z o h⟩
theorem Kp.drop {J K : List Nat} {a b c : AHeap} (w : a.wf) (x : Kp J a b) (y : Kp K b c) (h : ∀ z ∈ K, z ∈ J ∨ a.n ≤ z) : Kp J a c :=
  ⟨Nat.le_trans x.n y.n, fun z o hz ho => y.get z o (fun e => by
    rcases h z e with h1 | h1
    · exact hz h1
    · have := w.lt ho; omega) (x.get z o hz ho)⟩
theorem Kp.le {J : List Nat} {a b : AHeap} (w : a.wf) (x : Kp J a b) (h : ∀ z ∈ J, a.n ≤ z) : a.Le b := ⟨x.n, fun z o ho => x.get z o (fun e => by have := h z e; have := w.lt ho; omega) ho⟩
def E0 (n : Nat) : AHeap := ⟨n, fun _ => none⟩
theorem E0.le {n : Nat} {h : AHeap} (x : n ≤ h.n) : (E0 n).Le h := ⟨x, fun _ _ e => by cases e⟩
theorem E0.wf {n : Nat} : (E0 n).wf := fun _ _ => rfl
theorem SoB.new {s : Sh} {n : Nat} {h : AHeap} (hw : h.wf) (hn : n ≤ h.n) : SoB s (E0 n) h none 0 0 [] [] := ⟨E0.le hn, hw, E0.wf, rfl, .nil, .inl ⟨rfl, rfl, rfl, rfl⟩⟩
theorem SoB.kp {s : Sh} {n0 : Nat} {h h' : AHeap} {a : Option Addr} {n c : Nat} {xs : List s.T} {ids J : List Nat} (B : SoB s (E0 n0) h a n c xs ids) (k : Kp J h h') (wf : h'.wf) (hJ : ∀ z ∈ ids, z ∉ J) : SoB s (E0 n0) h' a n c xs ids :=
  B.step (E0.le (Nat.le_trans B.le.n k.n)) wf k.n (fun z hz o => k.get z o (hJ z hz))
theorem Sn.kp {s : Sh} {h h' : AHeap} {xs : List s.T} {v : Value} {ids J : List Nat} (x : Sn h s xs v ids) (k : Kp J h h') (hJ : ∀ z ∈ ids, z ∉ J) : Sn h' s xs v ids := x.keep (fun z hz o => k.get z o (hJ z hz))
theorem SoB.app' {s : Sh} {n0 : Nat} {h : AHeap} {a : Option Addr} {n c : Nat} {xs : List s.T} {ids js : List Nat} {x : s.T} {cs : List Value} (B : SoB s (E0 n0) h a n c xs ids) (rn : s.rn h x cs js) (fj : Fresh n0 h.n js) (d : ∀ z ∈ ids, z ∉ js) :
    ∃ l h' ids', h.app (.slice a n c) [cs] s.cells = some (.slice (some ⟨l, 0, some s.cells⟩) (n + 1) 0, h') ∧ SoB s (E0 n0) h' (some ⟨l, 0, some s.cells⟩) (n + 1) 0 (xs ++ [x]) ids' ∧ Kp ids h h' ∧ h'.wf ∧ ∀ z ∈ ids', z = h.n ∨ z ∈ ids ∨ z ∈ js := by
  obtain ⟨l, h', ids', e, B', hn, hm, hk⟩ := B.app rn fj d
  exact ⟨l, h', ids', e, B', ⟨hn, hk⟩, B'.wf, hm⟩
theorem Rd.bind {α β : Type} {p : Option (α × Nat)} {q : α → Nat → Option (β × Nat)} {t : ByteArray} {b b1 b2 : Bool} {x : α} {y : β} {a1 a2 : Nat} (h1 : Rd p t b x a1 b1) (h2 : Rd (q x a1) t b1 y a2 b2) : Rd (p.bind fun z => q z.1 z.2) t b y a2 b2 := by
  refine ⟨fun e => h2.bad (h1.bad e), fun e1 e2 => ?_, fun e1 e2 => ?_, h2.le⟩
  · have hb : b1 = false := by
      cases hb : b1 with
      | false => rfl
      | true => rw [h2.bad hb] at e2; cases e2
    rw [h1.ok e1 hb]; exact h2.ok hb e2
  · cases hb : b1 with
    | true => rw [h1.no e1 hb]; rfl
    | false => rw [h1.ok e1 hb]; exact h2.no hb e2
theorem Rd.pure {α : Type} {t : ByteArray} {b : Bool} {x : α} {a : Nat} (ha : a ≤ t.size) : Rd (some (x, a)) t b x a b := ⟨fun e => e, fun _ _ => rfl, fun e1 e2 => absurd (e1.symm.trans e2) (by decide), ha⟩
def pRep {α : Type} (p : Nat → Option (α × Nat)) : Nat → Nat → List α → Option (List α × Nat)
  | 0, a, xs => some (xs, a)
  | n + 1, a, xs => (p a).bind fun z => pRep p n z.2 (xs ++ [z.1])
structure RepI {α : Type} (p : Nat → Option (α × Nat)) (t : ByteArray) (N a0 : Nat) (b0 : Bool) (n : Nat) (xs : List α) (a : Nat) (b : Bool) : Prop where
  bad : b0 = true → b = true
  ok : b0 = false → b = false → pRep p N a0 [] = pRep p n a xs
  no : b0 = false → b = true → pRep p N a0 [] = none
  le : a ≤ t.size
  len : xs.length + n = N
theorem RepI.start {α : Type} {p : Nat → Option (α × Nat)} {t : ByteArray} {N a0 : Nat} {b0 : Bool} (ha : a0 ≤ t.size) : RepI p t N a0 b0 N [] a0 b0 := ⟨fun e => e, fun _ _ => rfl, fun e1 e2 => absurd (e1.symm.trans e2) (by decide), ha, by simp⟩
theorem RepI.step {α : Type} {p : Nat → Option (α × Nat)} {t : ByteArray} {N a0 : Nat} {b0 : Bool} {n : Nat} {xs : List α} {a a' : Nat} {b' : Bool} {x : α} (I : RepI p t N a0 b0 (n + 1) xs a false) (h : Rd (p a) t false x a' b') : RepI p t N a0 b0 n (xs ++ [x]) a' b' := by
  refine ⟨fun e => absurd (I.bad e) (by decide), fun e1 e2 => ?_, fun e1 e2 => ?_, h.le, by have := I.len; simp; omega⟩
  · rw [I.ok e1 rfl, pRep, h.ok rfl e2]; rfl
  · rw [I.ok e1 rfl, pRep, h.no rfl e2]; rfl
theorem RepI.finish {α : Type} {p : Nat → Option (α × Nat)} {t : ByteArray} {N a0 : Nat} {b0 : Bool} {n : Nat} {xs : List α} {a : Nat} {b : Bool} (I : RepI p t N a0 b0 n xs a b) (h : n = 0 ∨ b = true) : Rd (pRep p N a0 []) t b0 xs a b := by
  refine ⟨I.bad, fun e1 e2 => ?_, I.no, I.le⟩
  rcases h with rfl | h
  · exact I.ok e1 e2
  · exact absurd (e2.symm.trans h) (by decide)
theorem pRep_enc {α : Type} {p : Nat → Option (α × Nat)} {t : ByteArray} {enc : α → ByteArray} {q : α → Prop} (hp : ∀ a x e, p a = some (x, e) → a ≤ e ∧ e ≤ t.size ∧ t.extract a e = enc x ∧ q x) : ∀ (n a : Nat) (xs ys : List α) (e : Nat), a ≤ t.size → pRep p n a xs = some (ys, e) → a ≤ e ∧ e ≤ t.size ∧ ∃ zs, ys = xs ++ zs ∧ zs.length = n ∧ t.extract a e = cat (zs.map enc) ∧ ∀ z ∈ zs, q z := by
  intro n
  induction n with
  | zero =>
    intro a xs ys e ha h
    simp only [pRep, Option.some.injEq, Prod.mk.injEq] at h
    obtain ⟨rfl, rfl⟩ := h
    refine ⟨Nat.le_refl _, ha, [], by simp, rfl, ?_, fun z hz => by simp at hz⟩
    apply ba_ext; simp [cat]
  | succ n ih =>
    intro a xs ys e ha h
    simp only [pRep] at h
    rw [Option.bind_eq_some_iff] at h
    obtain ⟨⟨x, e1⟩, h1, h2⟩ := h
    obtain ⟨q1, q2, q3, q4⟩ := hp a x e1 h1
    obtain ⟨r1, r2, zs, rfl, r4, r5, r6⟩ := ih e1 _ ys e q2 h2
    refine ⟨by omega, r2, x :: zs, by simp, by simp [r4], ?_, fun z hz => ?_⟩
    · rw [extract_split (b := e1) q1 r1, q3, r5]; rfl
    · rcases List.mem_cons.1 hz with rfl | hz
      · exact q4
      · exact r6 z hz
def pGrp (t : ByteArray) (a : Nat) : Option (groupSh.T × Nat) := (pWord t a).bind fun z => (pNum t z.2).bind fun y => some ((z.1, y.1), y.2)
def pTop (t : ByteArray) (a : Nat) : Option (topicSh.T × Nat) := (pWord t a).bind fun z1 => (pNum t z1.2).bind fun z2 => (pMany 20 t z2.2).bind fun z3 => (pRep (pWord t) z3.1 z3.2 []).bind fun z4 => (pMany 4 t z4.2).bind fun z5 => (pRep (pGrp t) z5.1 z5.2 []).bind fun z6 => some ((z1.1, z2.1, z4.1, z6.1), z6.2)
theorem Rd.grp {t : ByteArray} {a a1 a2 : Nat} {b b1 b2 : Bool} {s : ByteArray} {n : Int} (R1 : Rd (pWord t a) t b s a1 b1) (R2 : Rd (pNum t a1) t b1 n a2 b2) : Rd (pGrp t a) t b (s, n) a2 b2 :=
  R1.bind (q := fun s a1 => (pNum t a1).bind fun y => some ((s, y.1), y.2)) (R2.bind (q := fun n a2 => some ((s, n), a2)) (Rd.pure R2.le))
theorem Rd.top {t : ByteArray} {a a1 a2 a3 a4 a5 a6 : Nat} {b b1 b2 b3 b4 b5 b6 : Bool} {nm : ByteArray} {bs : Int} {N3 N5 : Nat} {hs : List Sh.str.T} {gs : List groupSh.T} (R1 : Rd (pWord t a) t b nm a1 b1) (R2 : Rd (pNum t a1) t b1 bs a2 b2) (R3 : Rd (pMany 20 t a2) t b2 N3 a3 b3) (R4 : Rd (pRep (pWord t) N3 a3 []) t b3 hs a4 b4) (R5 : Rd (pMany 4 t a4) t b4 N5 a5 b5) (R6 : Rd (pRep (pGrp t) N5 a5 []) t b5 gs a6 b6) : Rd (pTop t a) t b (nm, bs, hs, gs) a6 b6 :=
  R1.bind (q := fun x1 e1 => (pNum t e1).bind fun z2 => (pMany 20 t z2.2).bind fun z3 => (pRep (pWord t) z3.1 z3.2 []).bind fun z4 => (pMany 4 t z4.2).bind fun z5 => (pRep (pGrp t) z5.1 z5.2 []).bind fun z6 => some ((x1, z2.1, z4.1, z6.1), z6.2))
    (R2.bind (q := fun x2 e2 => (pMany 20 t e2).bind fun z3 => (pRep (pWord t) z3.1 z3.2 []).bind fun z4 => (pMany 4 t z4.2).bind fun z5 => (pRep (pGrp t) z5.1 z5.2 []).bind fun z6 => some ((nm, x2, z4.1, z6.1), z6.2))
    (R3.bind (q := fun x3 e3 => (pRep (pWord t) x3 e3 []).bind fun z4 => (pMany 4 t z4.2).bind fun z5 => (pRep (pGrp t) z5.1 z5.2 []).bind fun z6 => some ((nm, bs, z4.1, z6.1), z6.2))
    (R4.bind (q := fun x4 e4 => (pMany 4 t e4).bind fun z5 => (pRep (pGrp t) z5.1 z5.2 []).bind fun z6 => some ((nm, bs, x4, z6.1), z6.2))
    (R5.bind (q := fun x5 e5 => (pRep (pGrp t) x5 e5 []).bind fun z6 => some ((nm, bs, hs, z6.1), z6.2))
    (R6.bind (q := fun x6 e6 => some ((nm, bs, hs, x6), e6)) (Rd.pure R6.le))))))
end Go.Dat
end
section
namespace Go.Dat
open Go.Abs
theorem ba_app_inj {a b c d : ByteArray} (h : a ++ b = c ++ d) (hs : a.size = c.size) : a = c ∧ b = d := by
  have h1 : a.data.toList ++ b.data.toList = c.data.toList ++ d.data.toList := by
    have := congrArg (fun x : ByteArray => x.data.toList) h
    simpa using this
  have hl : a.data.toList.length = c.data.toList.length := by rw [Array.length_toList, Array.length_toList]; exact hs
  obtain ⟨e1, e2⟩ := List.append_inj h1 hl
  exact ⟨ba_ext e1, ba_ext e2⟩
def At (t : ByteArray) (a : Nat) (x : ByteArray) : Prop := t.extract a (a + x.size) = x ∧ a + x.size ≤ t.size
theorem At.self (t : ByteArray) : At t 0 t := ⟨by rw [Nat.zero_add]; apply ba_ext; simp, by omega⟩
theorem At.split {t : ByteArray} {a : Nat} {x y : ByteArray} (h : At t a (x ++ y)) : At t a x ∧ At t (a + x.size) y := by
  obtain ⟨h1, h2⟩ := h
  rw [ByteArray.size_append] at h1 h2
  rw [extract_split (b := a + x.size) (by omega) (by omega)] at h1
  have e1 : (t.extract a (a + x.size)).size = x.size := by rw [ByteArray.size_extract]; omega
  obtain ⟨e2, e3⟩ := ba_app_inj h1 e1
  exact ⟨⟨e2, by omega⟩, ⟨by rw [Nat.add_assoc]; exact e3, by omega⟩⟩
theorem gn_fwd : ∀ (w : Nat) (t : ByteArray) (a i u0 : Nat), i ≤ 9 → At t (a + i) (vb w) → w * 128 ^ i < 18446744073709551616 → (0 < i → 0 < w) → gn t a i u0 = some (u0 + w * 128 ^ i, a + i + (vb w).size) := by
  intro w
  induction w using Nat.strongRecOn with
  | ind w ih =>
    intro t a i u0 hi h hw hp
    rw [gn]
    by_cases hlo : w < 128
    · rw [vb_lo hlo] at h ⊢
      obtain ⟨h1, h2⟩ := h
      have hs : (oneB w).size = 1 := rfl
      rw [hs] at h1 h2 ⊢
      rw [extract_one (by omega)] at h1
      have hb := oneB_inj (bN_lt _ _) (by omega) h1
      rw [if_neg (by omega), hb, if_neg (fun e => by
        obtain ⟨e1, e2⟩ := e
        subst e1
        have h9 : 128 ^ 9 = 9223372036854775808 := by decide
        rw [h9] at hw
        omega), if_neg (by omega), if_neg (fun e => by have := hp e.2; omega)]
    · rw [vb_hi hlo] at h ⊢
      obtain ⟨A1, A2⟩ := h.split
      have hs : (oneB (w % 128 + 128)).size = 1 := rfl
      rw [hs] at A2
      obtain ⟨h1, h2⟩ := A1
      rw [hs] at h1 h2
      rw [extract_one (by omega)] at h1
      have hb := oneB_inj (bN_lt _ _) (by omega) h1
      have hi8 : i ≤ 8 := by
        by_cases e : i = 9
        · subst e
          have h9 : 128 ^ 9 = 9223372036854775808 := by decide
          rw [h9] at hw
          omega
        · omega
      have e1 : 128 ^ (i + 1) = 128 ^ i * 128 := Nat.pow_succ _ _
      have e2 : w * 128 ^ i = w % 128 * 128 ^ i + w / 128 * 128 ^ (i + 1) := by
        rw [e1, Nat.mul_comm (128 ^ i) 128, ← Nat.mul_assoc, ← Nat.add_mul]
        congr 1; omega
      rw [if_neg (by omega), hb, if_neg (by omega), if_pos (by omega)]
      have := ih (w / 128) (by omega) t a (i + 1) (u0 + (w % 128 + 128) % 128 * 128 ^ i) (by omega) (by rw [← Nat.add_assoc]; exact A2) (by omega) (by omega)
      rw [this, ByteArray.size_append, hs, show (w % 128 + 128) % 128 = w % 128 by omega]
      congr 2
      · omega
      · omega
theorem unfold_fold {n : Int} (h : -9223372036854775808 ≤ n ∧ n ≤ 9223372036854775807) : unfoldN (foldN n) = n := by
  unfold foldN unfoldN
  split <;> (split <;> omega)
theorem pNum_fwd {t : ByteArray} {a : Nat} {n : Int} (hn : -9223372036854775808 ≤ n ∧ n ≤ 9223372036854775807) (h : At t a (vb (foldN n))) : pNum t a = some (n, a + (vb (foldN n)).size) := by
  unfold pNum
  have hf := foldN_lt hn
  rw [gn_fwd (foldN n) t a 0 0 (by omega) h (by omega) (by omega)]
  simp only [Option.map_some, Nat.pow_zero, Nat.mul_one, Nat.zero_add, Nat.add_zero, unfold_fold hn]
theorem pWord_fwd {t : ByteArray} {a : Nat} {s : ByteArray} (hs : s.size ≤ 20000) (h : At t a (vt s)) : pWord t a = some (s, a + (vt s).size) := by
  unfold vt at h ⊢
  obtain ⟨A1, A2⟩ := h.split
  have h2 := A2.2
  unfold pWord
  rw [pNum_fwd (by omega) A1]
  dsimp only
  rw [if_pos (by omega), ByteArray.size_append, show ((s.size : Int)).toNat = s.size from rfl, A2.1, Nat.add_assoc]
theorem pMany_fwd {t : ByteArray} {a n : Nat} {k : Int} (hn : (n : Int) ≤ k) (hk : k ≤ 1000000) (h : At t a (vb (foldN n))) : pMany k t a = some (n, a + (vb (foldN n)).size) := by
  unfold pMany
  rw [pNum_fwd (by omega) h]
  dsimp only
  rw [if_pos (by omega)]; rfl
theorem Rd.get {α : Type} {p : Option (α × Nat)} {t : ByteArray} {x y : α} {a' e : Nat} {b' : Bool} (r : Rd p t false x a' b') (h : p = some (y, e)) : y = x ∧ e = a' ∧ b' = false := by
  cases b' with
  | true => have := r.no rfl rfl; rw [h] at this; cases this
  | false =>
    have := r.ok rfl rfl
    rw [h] at this
    cases this
    exact ⟨rfl, rfl, rfl⟩
end Go.Dat
end
