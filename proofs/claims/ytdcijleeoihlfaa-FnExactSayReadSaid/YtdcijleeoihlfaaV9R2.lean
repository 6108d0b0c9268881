/- Contracts: texts read from bytes; readers. -/
import Derived.Test.YtdcijleeoihlfaaV9R1
import Derived.Test.YtdcijleeoihlfaaV9N0
namespace Go.Dat
open Go.Abs
theorem extract_one {t : ByteArray} {k : Nat} (h : k < t.size) : t.extract k (k + 1) = oneB (bN t k) := by
  apply ba_ext
  have h2 : k < t.data.toList.length := by rw [Array.length_toList]; exact h
  have e : bN t k = (t.data.toList[k]).toNat := by unfold bN; rw [List.getD_eq_getElem?_getD, List.getElem?_eq_getElem h2]; rfl
  rw [e]
  unfold oneB
  simp only [ByteArray.data_extract, Array.toList_extract, List.extract_eq_take_drop]
  rw [show k + 1 - k = 1 by omega, List.drop_eq_getElem_cons h2]
  simp
theorem extract_split {t : ByteArray} {a b c : Nat} (h1 : a ≤ b) (h2 : b ≤ c) : t.extract a c = t.extract a b ++ t.extract b c := by
  rw [ByteArray.extract_append_extract, Nat.min_eq_left h1, Nat.max_eq_right h2]
theorem gn_enc : ∀ (m : Nat) (t : ByteArray) (a i u0 u e : Nat), 10 - i ≤ m → i ≤ 9 → gn t a i u0 = some (u, e) → ∃ w, u = u0 + w * 128 ^ i ∧ a + i < e ∧ e ≤ t.size ∧ t.extract (a + i) e = vb w ∧ (0 < i → 0 < w) ∧ w * 128 ^ i < 18446744073709551616 - 128 ^ i + 1 := by
  intro m
  induction m with
  | zero => intro t a i u0 u e hm hi; omega
  | succ m ih =>
    intro t a i u0 u e hm hi h
    have hb := bN_lt t (a + i)
    have hp : 0 < 128 ^ i := Nat.pow_pos (by omega)
    rw [gn] at h
    split at h
    · cases h
    rename_i h1
    split at h
    · cases h
    rename_i h2
    have hx : t.extract (a + i) (a + i + 1) = oneB (bN t (a + i)) := extract_one (by omega)
    split at h
    · rename_i h3
      have hi8 : i ≤ 8 := by omega
      obtain ⟨w, hu, hlt, he, hw, hpos, hbd⟩ := ih t a (i + 1) _ u e (by omega) (by omega) h
      have hpw := hpos (by omega)
      have e1 : 128 ^ (i + 1) = 128 ^ i * 128 := Nat.pow_succ _ _
      refine ⟨bN t (a + i) % 128 + 128 * w, ?_, by omega, he, ?_, fun _ => by omega, ?_⟩
      · rw [hu, e1, Nat.add_mul, show 128 * w * 128 ^ i = w * (128 ^ i * 128) from by rw [Nat.mul_comm 128 w, Nat.mul_assoc, Nat.mul_comm 128]]; omega
      · rw [extract_split (b := a + i + 1) (by omega) (by omega), hx, vb_hi (by omega), show (bN t (a + i) % 128 + 128 * w) % 128 + 128 = bN t (a + i) by omega, show (bN t (a + i) % 128 + 128 * w) / 128 = w by omega, ← hw]; rfl
      · rw [e1] at hbd
        rw [Nat.add_mul, show 128 * w * 128 ^ i = w * (128 ^ i * 128) from by rw [Nat.mul_comm 128 w, Nat.mul_assoc, Nat.mul_comm 128]]
        have h9 := pow128 hi8
        rw [e1] at h9
        have : bN t (a + i) % 128 * 128 ^ i + 128 ^ i ≤ 128 * 128 ^ i := by
          rw [← Nat.succ_mul]; exact Nat.mul_le_mul_right _ (by omega)
        omega
    · rename_i h3
      split at h
      · cases h
      rename_i h4
      cases h
      refine ⟨bN t (a + i), rfl, by omega, by omega, ?_, fun hi0 => by omega, ?_⟩
      · rw [hx, vb_lo (by omega)]
      · rcases Nat.lt_or_ge i 9 with h8 | h8
        · have h9 := pow128 (i := i) (by omega)
          rw [Nat.pow_succ] at h9
          have : bN t (a + i) * 128 ^ i + 128 ^ i ≤ 128 * 128 ^ i := by rw [← Nat.succ_mul]; exact Nat.mul_le_mul_right _ (by omega)
          omega
        · have e9 : i = 9 := by omega
          subst e9
          have h9 : 128 ^ 9 = 9223372036854775808 := by decide
          rw [h9]
          omega
def pNum (t : ByteArray) (a : Nat) : Option (Int × Nat) := (gn t a 0 0).map fun p => (unfoldN p.1, p.2)
def pWord (t : ByteArray) (a : Nat) : Option (ByteArray × Nat) := match pNum t a with
  | none => none
  | some (n, e) => if 0 ≤ n ∧ n ≤ 20000 ∧ n ≤ (t.size : Int) - e then some (t.extract e (e + n.toNat), e + n.toNat) else none
def pMany (k : Int) (t : ByteArray) (a : Nat) : Option (Nat × Nat) := match pNum t a with
  | none => none
  | some (n, e) => if 0 ≤ n ∧ n ≤ k then some (n.toNat, e) else none
theorem pNum_enc {t : ByteArray} {a e : Nat} {n : Int} (h : pNum t a = some (n, e)) : a < e ∧ e ≤ t.size ∧ t.extract a e = nb n ∧ InR (-9223372036854775808) 9223372036854775807 n := by
  unfold pNum at h
  rw [Option.map_eq_some_iff] at h
  obtain ⟨⟨u, e'⟩, h1, h2⟩ := h
  cases h2
  obtain ⟨w, hu, hlt, he, hw, _, hbd⟩ := gn_enc 10 t a 0 0 u e' (by omega) (by omega) h1
  simp only [Nat.pow_zero, Nat.mul_one, Nat.zero_add, Nat.add_zero] at hu hlt hw hbd
  subst hu
  have hf := fold_unfold (u := u) (by omega)
  refine ⟨hlt, he, ?_, hf.2⟩
  dsimp only
  unfold nb
  rw [hf.1, hw]
theorem pWord_enc {t : ByteArray} {a e : Nat} {s : ByteArray} (h : pWord t a = some (s, e)) : a < e ∧ e ≤ t.size ∧ t.extract a e = vt s ∧ s.size ≤ 20000 := by
  unfold pWord at h
  split at h
  · cases h
  rename_i n e0 h1
  obtain ⟨h2, h3, h4, h5⟩ := pNum_enc h1
  split at h
  · rename_i hc
    cases h
    have hs : (t.extract e0 (e0 + n.toNat)).size = n.toNat := by rw [ByteArray.size_extract]; omega
    refine ⟨by omega, by omega, ?_, by omega⟩
    rw [extract_split (b := e0) (by omega) (by omega), h4]
    unfold vt nb
    rw [hs, show ((n.toNat : Nat) : Int) = n by omega]
  · cases h
theorem pMany_enc {t : ByteArray} {a e m : Nat} {k : Int} (h : pMany k t a = some (m, e)) : a < e ∧ e ≤ t.size ∧ t.extract a e = nb m ∧ (m : Int) ≤ k := by
  unfold pMany at h
  split at h
  · cases h
  rename_i n e0 h1
  obtain ⟨h2, h3, h4, h5⟩ := pNum_enc h1
  split at h
  · rename_i hc
    cases h
    exact ⟨h2, h3, by rw [h4, show ((n.toNat : Nat) : Int) = n by omega], by omega⟩
  · cases h
def rdO (t : ByteArray) (a : Nat) (b : Bool) : AObj := ⟨[[.string t, .int .i64 a, .bool b]], 3, true⟩
structure Rd {α : Type} (p : Option (α × Nat)) (t : ByteArray) (b : Bool) (x : α) (a' : Nat) (b' : Bool) : Prop where
  bad : b = true → b' = true
  ok : b = false → b' = false → p = some (x, a')
  no : b = false → b' = true → p = none
  le : a' ≤ t.size
theorem rd_ld {h : AHeap} {l : Nat} {t : ByteArray} {a : Nat} {b : Bool} (hg : h.get l = some (rdO t a b)) : h.ld l 0 0 1 = some [.string t] ∧ h.ld l 0 1 1 = some [.int .i64 a] ∧ h.ld l 0 2 1 = some [.bool b] ∧ h.ld l 0 0 3 = some [.string t, .int .i64 a, .bool b] := by
  refine ⟨?_, ?_, ?_, ?_⟩ <;> (unfold AHeap.ld; rw [hg]; rfl)
theorem rd_wrA {h : AHeap} {l : Nat} {t : ByteArray} {a a' : Nat} {b : Bool} (hg : h.get l = some (rdO t a b)) : h.wr l 0 1 [.int .i64 a'] = some (h.put l (some (rdO t a' b))) := by
  unfold AHeap.wr; rw [hg]; rfl
theorem rd_wrB {h : AHeap} {l : Nat} {t : ByteArray} {a : Nat} {b b' : Bool} (hg : h.get l = some (rdO t a b)) : h.wr l 0 2 [.bool b'] = some (h.put l (some (rdO t a b'))) := by
  unfold AHeap.wr; rw [hg]; rfl
theorem rd_out {h : AHeap} {l : Nat} {t : ByteArray} {a a' : Nat} {b b' : Bool} (hg : h.get l = some (rdO t a b)) : Out [l] h (h.put l (some (rdO t a' b'))) := Out.put hg rfl
theorem rd_wf {h : AHeap} {l : Nat} {o o' : AObj} (hw : h.wf) (hg : h.get l = some o) : (h.put l (some o')).wf := hw.put (hw.lt hg) _
end Go.Dat
namespace Go.Proofs.Ytdcijleeoihlfaa
open Go.Abs Go.Dat
set_option maxRecDepth 100000
set_option maxHeartbeats 8000000
theorem num_cases {f : Int → Int → Int → Value} {t : ByteArray} {a : Nat} {v : Value} (hv : numTo f (gn t a 0 0) v) : (pNum t a = none ∧ ∃ c : Int, 0 < c ∧ c < 100 ∧ v = f 0 0 c) ∨ ∃ (n : Int) (e : Nat), pNum t a = some (n, e) ∧ v = f n e 0 := by
  unfold pNum
  cases hg : gn t a 0 0 with
  | none => rw [hg] at hv; exact .inl ⟨rfl, hv⟩
  | some p => rw [hg] at hv; exact .inr ⟨_, _, rfl, hv⟩
theorem getText_spec (h : AHeap) (t : ByteArray) (a : Nat) (ht : t.size ≤ 20000) (ha : a ≤ 1000000000) : ∃ v h', ACall Try.prog 119 [.string t, .int .i64 a] h v h' ∧ h' = h ∧ ((pWord t a = none ∧ ∃ c : Int, 0 < c ∧ v = .tuple #[.string ⟨#[]⟩, .int .i64 0, .int .i64 c]) ∨ ∃ (s : ByteArray) (e : Nat), pWord t a = some (s, e) ∧ v = .tuple #[.string s, .int .i64 e, .int .i64 0]) := by
  obtain ⟨v, g, A, hv, rfl⟩ := getNum_spec h t a (by omega) ha
  refine acall_q fun Q HQ => ?_
  refine acall_vc (fun _ => false) (fun _ => []) (fun _ => .none) mixed Try.func119 rfl rfl rfl (Nat.le_of_ble_eq_true rfl) (by refine vc_mp (by kernel_rfl : (True ∧ True ∧ (True ∧ (True ∧ True) ∧ True ∧ (True ∧ True) ∧ True ∧ (True ∧ True) ∧ True) ∧ True ∧ True) = _) ?_; simp only [and_self]) ?_
  refine vc_mp (by kernel_rfl : (∃ (x : Int), ∃ (x_1 : Int), ∃ (x_2 : Int), ∃ (h' : AHeap), ACall Try.prog (118 : Nat) [Value.string t, Value.int IntKind.i64 (↑a : Int)] g (Value.tuple (Array.mk [Value.int IntKind.i64 x, Value.int IntKind.i64 x_1, Value.int IntKind.i64 x_2])) h' ∧ bs (!decide (x_2 = (0 : Int))) (Q (Value.tuple (Array.mk [Value.string (ByteArray.mk (Array.mk [])), Value.int IntKind.i64 (0 : Int), Value.int IntKind.i64 x_2])) h') (∃ (x_3 : Bool), ∃ (h'_1 : AHeap), ACall Try.prog (93 : Nat) [Value.int IntKind.i64 x, Value.int IntKind.i64 (0 : Int), Value.int IntKind.i64 (20000 : Int)] h' (Value.bool x_3) h'_1 ∧ bs (!x_3) (Q (Value.tuple (Array.mk [Value.string (ByteArray.mk (Array.mk [])), Value.int IntKind.i64 (0 : Int), Value.int IntKind.i64 (3 : Int)])) h'_1) (bs (decide (x > IntKind.wrap IntKind.i64 ((↑(ByteArray.size t) : Int) - x_1))) (Q (Value.tuple (Array.mk [Value.string (ByteArray.mk (Array.mk [])), Value.int IntKind.i64 (0 : Int), Value.int IntKind.i64 (4 : Int)])) h'_1) ((0 : Int) ≤ x_1 ∧ x_1 ≤ IntKind.wrap IntKind.i64 (x_1 + x) ∧ IntKind.wrap IntKind.i64 (x_1 + x) ≤ (↑(ByteArray.size t) : Int) ∧ Q (Value.tuple (Array.mk [Value.string (ByteArray.extract t (Int.toNat x_1) (Int.toNat (IntKind.wrap IntKind.i64 (x_1 + x)))), Value.int IntKind.i64 (IntKind.wrap IntKind.i64 (x_1 + x)), Value.int IntKind.i64 (0 : Int)])) h'_1)))) = _) ?_
  unfold pWord at HQ
  rcases num_cases hv with ⟨hn, c, h1, h2, rfl⟩ | ⟨n, e, hn, rfl⟩
  · rw [hn] at HQ
    exact ⟨_, _, _, _, A, bs_dn (fun _ => HQ _ _ ⟨rfl, .inl ⟨rfl, c, h1, rfl⟩⟩) (fun e => absurd e (by omega))⟩
  · obtain ⟨q1, q2, q3, q4⟩ := pNum_enc hn
    unfold InR at q4
    rw [hn] at HQ
    dsimp only at HQ
    have e1 : IntKind.i64.wrap ((t.size : Int) - (e : Int)) = (t.size : Int) - e := wrap_i64 (by omega)
    refine ⟨_, _, _, _, A, bs_dn (fun h => absurd rfl h) (fun _ => ⟨_, _, within_spec n 0 20000 _, bs_nb (fun h1 => ?_) (fun h1 => ?_)⟩)⟩
    · rw [if_neg (by intro H; simp [H.1, H.2.1] at h1)] at HQ
      exact HQ _ _ ⟨rfl, .inl ⟨rfl, 3, by decide, rfl⟩⟩
    rw [e1]
    refine bs_d (fun h2 => ?_) (fun h2 => ?_)
    · rw [if_neg (by intro H; omega)] at HQ
      exact HQ _ _ ⟨rfl, .inl ⟨rfl, 4, by decide, rfl⟩⟩
    · have h3 : 0 ≤ n ∧ n ≤ 20000 := by simpa using h1
      rw [if_pos (by omega)] at HQ
      have e2 : IntKind.i64.wrap ((e : Int) + n) = ((e + n.toNat : Nat) : Int) := by rw [wrap_i64 (by omega)]; omega
      rw [e2]
      exact ⟨by omega, by omega, by omega, HQ _ _ ⟨rfl, .inr ⟨_, _, rfl, rfl⟩⟩⟩
theorem specGetText (h : AHeap) (t : ByteArray) (a : Nat) (ht : t.size ≤ 20000) (ha : a ≤ 1000000000) : ∃ v h', ACall Try.prog 117 [.string t, .int .i64 a] h v h' ∧ h' = h ∧ ((pWord t a = none ∧ ∃ c : Int, 0 < c ∧ v = .agg #[.string ⟨#[]⟩, .int .i64 0, .int .i64 c]) ∨ ∃ (s : ByteArray) (e : Nat), pWord t a = some (s, e) ∧ v = .agg #[.string s, .int .i64 e, .int .i64 0]) := by
  obtain ⟨v, g, A, hv, rfl⟩ := specGetNum h t a (by omega) ha
  refine acall_q fun Q HQ => ?_
  refine acall_vc (fun _ => false) (fun r => match r with | 8 => [(0, 0, []), (1, 0, []), (3, 0, []), (5, 0, []), (9, 0, []), (11, 0, []), (2, 1, []), (4, 1, []), (6, 1, []), (7, 0, []), (8, 0, []), (10, 1, []), (12, 1, []), (13, 0, []), (14, 0, []), (15, 3, [])] | _ => []) (fun _ => .none) mixed Try.func117 rfl rfl rfl (Nat.le_of_ble_eq_true rfl) (by refine vc_mp (by kernel_rfl : (True ∧ True ∧ (True ∧ (True ∧ True) ∧ True) ∧ (True ∧ (True ∧ True) ∧ True) ∧ (True ∧ (True ∧ True) ∧ True) ∧ True ∧ True) = _) ?_; simp only [and_self]) ?_
  refine vc_mp (by kernel_rfl : (∃ (x : Int), ∃ (x_1 : Int), ∃ (x_2 : Int), ∃ (h' : AHeap), ACall Try.prog (114 : Nat) [Value.string t, Value.int IntKind.i64 (↑a : Int)] g (Value.agg (Array.mk [Value.int IntKind.i64 x, Value.int IntKind.i64 x_1, Value.int IntKind.i64 x_2])) h' ∧ bs (!decide (x_2 = (0 : Int))) (Q (Value.agg (Array.mk [Value.string (ByteArray.mk (Array.mk [])), Value.int IntKind.i64 (Int.ofNat (0 : Nat)), Value.int IntKind.i64 x_2])) h') (bs (decide (x < (0 : Int))) (Q (Value.agg (Array.mk [Value.string (ByteArray.mk (Array.mk [])), Value.int IntKind.i64 (Int.ofNat (0 : Nat)), Value.int IntKind.i64 (3 : Int)])) h') (bs (decide (x > (20000 : Int))) (Q (Value.agg (Array.mk [Value.string (ByteArray.mk (Array.mk [])), Value.int IntKind.i64 (Int.ofNat (0 : Nat)), Value.int IntKind.i64 (3 : Int)])) h') (bs (decide (x_1 > IntKind.wrap IntKind.i64 ((↑(ByteArray.size t) : Int) - x))) (Q (Value.agg (Array.mk [Value.string (ByteArray.mk (Array.mk [])), Value.int IntKind.i64 (Int.ofNat (0 : Nat)), Value.int IntKind.i64 (4 : Int)])) h') ((0 : Int) ≤ x_1 ∧ x_1 ≤ IntKind.wrap IntKind.i64 (x_1 + x) ∧ IntKind.wrap IntKind.i64 (x_1 + x) ≤ (↑(ByteArray.size t) : Int) ∧ Q (Value.agg (Array.mk [Value.string (ByteArray.extract t (Int.toNat x_1) (Int.toNat (IntKind.wrap IntKind.i64 (x_1 + x)))), Value.int IntKind.i64 (IntKind.wrap IntKind.i64 (x_1 + x)), Value.int IntKind.i64 (Int.ofNat (0 : Nat))])) h'))))) = _) ?_
  unfold pWord at HQ
  rcases num_cases hv with ⟨hn, c, h1, h2, rfl⟩ | ⟨n, e, hn, rfl⟩
  · rw [hn] at HQ
    exact ⟨_, _, _, _, A, bs_dn (fun _ => HQ _ _ ⟨rfl, .inl ⟨rfl, c, h1, rfl⟩⟩) (fun e => absurd e (by omega))⟩
  · obtain ⟨q1, q2, q3, q4⟩ := pNum_enc hn
    unfold InR at q4
    rw [hn] at HQ
    dsimp only at HQ
    have no : ∀ c : Int, 0 < c → ¬ (0 ≤ n ∧ n ≤ 20000 ∧ n ≤ (t.size : Int) - e) → Q (.agg #[.string ⟨#[]⟩, .int .i64 0, .int .i64 c]) g := fun c hc H => by
      rw [if_neg H] at HQ
      exact HQ _ _ ⟨rfl, .inl ⟨rfl, c, hc, rfl⟩⟩
    refine ⟨_, _, _, _, A, bs_dn (fun h => absurd rfl h) (fun _ => bs_d (fun h1 => no 3 (by decide) (by omega)) (fun h1 => bs_d (fun h2 => no 3 (by decide) (by omega)) (fun h2 => ?_)))⟩
    have e1 : IntKind.i64.wrap ((t.size : Int) - n) = (t.size : Int) - n := wrap_i64 (by omega)
    rw [e1]
    refine bs_d (fun h3 => no 4 (by decide) (by omega)) (fun h3 => ?_)
    rw [if_pos (by omega)] at HQ
    have e2 : IntKind.i64.wrap ((e : Int) + n) = ((e + n.toNat : Nat) : Int) := by rw [wrap_i64 (by omega)]; omega
    rw [e2]
    exact ⟨by omega, by omega, by omega, HQ _ _ ⟨rfl, .inr ⟨_, _, rfl, rfl⟩⟩⟩
def RdNum (h : AHeap) (l : Nat) (t : ByteArray) (a : Nat) (b : Bool) (v : Value) (h' : AHeap) : Prop :=
  h'.wf ∧ Out [l] h h' ∧ ∃ (x : Int) (a' : Nat) (b' : Bool), v = .int .i64 x ∧ InR (-9223372036854775808) 9223372036854775807 x ∧ h'.get l = some (rdO t a' b') ∧ Rd (pNum t a) t b x a' b'
def RdWord (h : AHeap) (l : Nat) (t : ByteArray) (a : Nat) (b : Bool) (v : Value) (h' : AHeap) : Prop :=
  h'.wf ∧ Out [l] h h' ∧ ∃ (x : ByteArray) (a' : Nat) (b' : Bool), v = .string x ∧ x.size ≤ 20000 ∧ h'.get l = some (rdO t a' b') ∧ Rd (pWord t a) t b x a' b'
def RdMany (k : Int) (h : AHeap) (l : Nat) (t : ByteArray) (a : Nat) (b : Bool) (v : Value) (h' : AHeap) : Prop :=
  h'.wf ∧ Out [l] h h' ∧ ∃ (x : Nat) (a' : Nat) (b' : Bool), v = .int .i64 x ∧ (x : Int) ≤ k ∧ h'.get l = some (rdO t a' b') ∧ Rd (pMany k t a) t b x a' b'
theorem rnum_spec (h : AHeap) (hw : h.wf) (l : Nat) (t : ByteArray) (a : Nat) (b : Bool) (ht : t.size ≤ 20000) (ha : a ≤ t.size) (hg : h.get l = some (rdO t a b)) : ∃ v h', ACall Try.prog 65 [.pointer (some ⟨l, 0, some 0⟩)] h v h' ∧ RdNum h l t a b v h' := by
  obtain ⟨v, g, A, hv, rfl⟩ := getNum_spec h t a (by omega) (by omega)
  obtain ⟨d1, d2, d3, _⟩ := rd_ld hg
  refine acall_q fun Q HQ => ?_
  refine acall_vc (fun _ => false) (fun r => match r with | 1 => [(0, 0, []), (1, 0, []), (2, 0, []), (4, 0, []), (5, 0, []), (6, 0, []), (3, 1, []), (7, 1, []), (8, 3, []), (9, 0, []), (10, 0, []), (11, 0, []), (12, 0, []), (13, 0, []), (14, 0, []), (15, 0, [])] | _ => []) (fun _ => .none) mixed Try.func65 rfl rfl rfl (Nat.le_of_ble_eq_true rfl) (by refine vc_mp (by kernel_rfl : (True ∧ True ∧ (True ∧ (True ∧ True ∧ True) ∧ True) ∧ True ∧ True ∧ True) = _) ?_; simp only [and_self]) ?_
  refine vc_mp (by kernel_rfl : (∃ (x : ByteArray), AHeap.ld g l (0 : Nat) (0 : Nat) (1 : Nat) = some [Value.string x] ∧ ∃ (x_1 : Int), AHeap.ld g l (0 : Nat) (1 : Nat) (1 : Nat) = some [Value.int IntKind.i64 x_1] ∧ ∃ (x_2 : Int), ∃ (x_3 : Int), ∃ (x_4 : Int), ∃ (h' : AHeap), ACall Try.prog (118 : Nat) [Value.string x, Value.int IntKind.i64 x_1] g (Value.tuple (Array.mk [Value.int IntKind.i64 x_2, Value.int IntKind.i64 x_3, Value.int IntKind.i64 x_4])) h' ∧ bs (!decide (x_4 = (0 : Int))) (∃ (h'_1 : AHeap), AHeap.wr h' l (0 : Nat) (2 : Nat) [Value.bool true] = some h'_1 ∧ Q (Value.int IntKind.i64 (0 : Int)) h'_1) (∃ (h'_1 : AHeap), AHeap.wr h' l (0 : Nat) (1 : Nat) [Value.int IntKind.i64 x_3] = some h'_1 ∧ Q (Value.int IntKind.i64 x_2) h'_1)) = _) ?_
  refine ⟨_, d1, _, d2, ?_⟩
  rcases num_cases hv with ⟨hn, c, h1, h2, rfl⟩ | ⟨n, e, hn, rfl⟩
  · exact ⟨_, _, _, _, A, bs_dn (fun _ => ⟨_, rd_wrB hg, HQ _ _ ⟨rd_wf hw hg, rd_out hg, 0, a, true, rfl, by unfold InR; omega, AHeap.get_put_eq, ⟨fun _ => rfl, fun _ e => (by cases e), fun _ _ => hn, ha⟩⟩⟩) (fun e => absurd e (by omega))⟩
  · obtain ⟨q1, q2, q3, q4⟩ := pNum_enc hn
    exact ⟨_, _, _, _, A, bs_dn (fun h => absurd rfl h) (fun _ => ⟨_, rd_wrA hg, HQ _ _ ⟨rd_wf hw hg, rd_out hg, n, e, b, rfl, q4, AHeap.get_put_eq, ⟨fun h => h, fun _ _ => hn, fun h1 h2 => absurd (h1.symm.trans h2) (by decide), q2⟩⟩⟩)⟩
theorem rword_spec (h : AHeap) (hw : h.wf) (l : Nat) (t : ByteArray) (a : Nat) (b : Bool) (ht : t.size ≤ 20000) (ha : a ≤ t.size) (hg : h.get l = some (rdO t a b)) : ∃ v h', ACall Try.prog 66 [.pointer (some ⟨l, 0, some 0⟩)] h v h' ∧ RdWord h l t a b v h' := by
  obtain ⟨v, g, A, rfl, hv⟩ := getText_spec h t a (by omega) (by omega)
  obtain ⟨d1, d2, d3, _⟩ := rd_ld hg
  refine acall_q fun Q HQ => ?_
  refine acall_vc (fun _ => false) (fun r => match r with | 1 => [(0, 0, []), (1, 0, []), (2, 0, []), (4, 0, []), (5, 0, []), (6, 0, []), (3, 1, []), (7, 1, []), (8, 3, []), (9, 0, []), (10, 0, []), (11, 0, []), (12, 0, []), (13, 0, []), (14, 0, []), (15, 0, [])] | _ => []) (fun _ => .none) mixed Try.func66 rfl rfl rfl (Nat.le_of_ble_eq_true rfl) (by refine vc_mp (by kernel_rfl : (True ∧ True ∧ (True ∧ (True ∧ True ∧ True) ∧ True) ∧ True ∧ True ∧ True) = _) ?_; simp only [and_self]) ?_
  refine vc_mp (by kernel_rfl : (∃ (x : ByteArray), AHeap.ld g l (0 : Nat) (0 : Nat) (1 : Nat) = some [Value.string x] ∧ ∃ (x_1 : Int), AHeap.ld g l (0 : Nat) (1 : Nat) (1 : Nat) = some [Value.int IntKind.i64 x_1] ∧ ∃ (x_2 : ByteArray), ∃ (x_3 : Int), ∃ (x_4 : Int), ∃ (h' : AHeap), ACall Try.prog (119 : Nat) [Value.string x, Value.int IntKind.i64 x_1] g (Value.tuple (Array.mk [Value.string x_2, Value.int IntKind.i64 x_3, Value.int IntKind.i64 x_4])) h' ∧ bs (!decide (x_4 = (0 : Int))) (∃ (h'_1 : AHeap), AHeap.wr h' l (0 : Nat) (2 : Nat) [Value.bool true] = some h'_1 ∧ Q (Value.string (ByteArray.mk (Array.mk []))) h'_1) (∃ (h'_1 : AHeap), AHeap.wr h' l (0 : Nat) (1 : Nat) [Value.int IntKind.i64 x_3] = some h'_1 ∧ Q (Value.string x_2) h'_1)) = _) ?_
  refine ⟨_, d1, _, d2, ?_⟩
  rcases hv with ⟨hn, c, h1, rfl⟩ | ⟨n, e, hn, rfl⟩
  · exact ⟨_, _, _, _, A, bs_dn (fun _ => ⟨_, rd_wrB hg, HQ _ _ ⟨rd_wf hw hg, rd_out hg, ⟨#[]⟩, a, true, rfl, Nat.zero_le _, AHeap.get_put_eq, ⟨fun _ => rfl, fun _ e => (by cases e), fun _ _ => hn, ha⟩⟩⟩) (fun e => absurd e (by omega))⟩
  · obtain ⟨q1, q2, q3, q4⟩ := pWord_enc hn
    exact ⟨_, _, _, _, A, bs_dn (fun h => absurd rfl h) (fun _ => ⟨_, rd_wrA hg, HQ _ _ ⟨rd_wf hw hg, rd_out hg, n, e, b, rfl, q4, AHeap.get_put_eq, ⟨fun h => h, fun _ _ => hn, fun h1 h2 => absurd (h1.symm.trans h2) (by decide), q2⟩⟩⟩)⟩
def o3 (a b c : Value) : AObj := ⟨[[a, b, c]], 3, true⟩
theorem o3_wr {h : AHeap} {l : Nat} {a b c a' b' c' : Value} (hg : h.get l = some (o3 a b c)) : h.wr l 0 0 [a', b', c'] = some (h.put l (some (o3 a' b' c'))) := by
  unfold AHeap.wr; rw [hg]; rfl
theorem o3_ld {h : AHeap} {l : Nat} {a b c : Value} (hg : h.get l = some (o3 a b c)) : h.ld l 0 0 1 = some [a] ∧ h.ld l 0 1 1 = some [b] ∧ h.ld l 0 2 1 = some [c] := by
  refine ⟨?_, ?_, ?_⟩ <;> (unfold AHeap.ld; rw [hg]; rfl)
theorem srnum_spec (h : AHeap) (hw : h.wf) (l : Nat) (t : ByteArray) (a : Nat) (b : Bool) (ht : t.size ≤ 20000) (ha : a ≤ t.size) (hg : h.get l = some (rdO t a b)) : ∃ v h', ACall Try.prog 62 [.pointer (some ⟨l, 0, some 0⟩)] h v h' ∧ RdNum h l t a b v h' := by
  have hll := hw.lt hg
  obtain ⟨G, hG⟩ : ∃ G, G = h.push ⟨[[.int .i64 (Int.ofNat 0), .int .i64 (Int.ofNat 0), .int .i64 (Int.ofNat 0)]], 3, true⟩ := ⟨_, rfl⟩
  have w0 : G.wf := by rw [hG]; exact hw.push _
  have le0 : h.Le G := by rw [hG]; exact .push hw _
  have hx0 : G.get h.n = some (o3 (.int .i64 0) (.int .i64 0) (.int .i64 0)) := by rw [hG]; exact AHeap.get_push_eq
  have hg0 := le0.get _ _ hg
  have lt0 := w0.lt hx0
  obtain ⟨v, g, A, hv, eg⟩ := specGetNum G t a (by omega) (by omega)
  rw [eg] at A
  obtain ⟨d1, d2, d3, _⟩ := rd_ld hg0
  refine acall_q fun Q HQ => ?_
  refine acall_vc (fun t => t == 3) (fun r => match r with | 1 => [(9, 2, []), (0, 0, []), (1, 0, []), (2, 0, []), (4, 0, []), (5, 0, []), (6, 0, []), (3, 1, []), (7, 1, []), (8, 3, [9]), (10, 3, [])] | _ => []) (fun _ => .none) mixed Try.func62 rfl rfl rfl (Nat.le_of_ble_eq_true rfl) (by refine vc_mp (by kernel_rfl : (True ∧ True ∧ (True ∧ (True ∧ True ∧ True) ∧ True) ∧ True ∧ True ∧ True) = _) ?_; simp only [and_self]) ?_
  refine vc_mp (by kernel_rfl : (∃ (x : ByteArray), AHeap.ld (AHeap.push h (AObj.mk [[Value.int IntKind.i64 (Int.ofNat (0 : Nat)), Value.int IntKind.i64 (Int.ofNat (0 : Nat)), Value.int IntKind.i64 (Int.ofNat (0 : Nat))]] (3 : Nat) true)) l (0 : Nat) (0 : Nat) (1 : Nat) = some [Value.string x] ∧ ∃ (x_1 : Int), AHeap.ld (AHeap.push h (AObj.mk [[Value.int IntKind.i64 (Int.ofNat (0 : Nat)), Value.int IntKind.i64 (Int.ofNat (0 : Nat)), Value.int IntKind.i64 (Int.ofNat (0 : Nat))]] (3 : Nat) true)) l (0 : Nat) (1 : Nat) (1 : Nat) = some [Value.int IntKind.i64 x_1] ∧ ∃ (x_2 : Int), ∃ (x_3 : Int), ∃ (x_4 : Int), ∃ (h' : AHeap), ACall Try.prog (114 : Nat) [Value.string x, Value.int IntKind.i64 x_1] (AHeap.push h (AObj.mk [[Value.int IntKind.i64 (Int.ofNat (0 : Nat)), Value.int IntKind.i64 (Int.ofNat (0 : Nat)), Value.int IntKind.i64 (Int.ofNat (0 : Nat))]] (3 : Nat) true)) (Value.agg (Array.mk [Value.int IntKind.i64 x_2, Value.int IntKind.i64 x_3, Value.int IntKind.i64 x_4])) h' ∧ (AHeap.get h' (AHeap.n h) = AHeap.get (AHeap.push h (AObj.mk [[Value.int IntKind.i64 (Int.ofNat (0 : Nat)), Value.int IntKind.i64 (Int.ofNat (0 : Nat)), Value.int IntKind.i64 (Int.ofNat (0 : Nat))]] (3 : Nat) true)) (AHeap.n h) ∧ AHeap.n (AHeap.push h (AObj.mk [[Value.int IntKind.i64 (Int.ofNat (0 : Nat)), Value.int IntKind.i64 (Int.ofNat (0 : Nat)), Value.int IntKind.i64 (Int.ofNat (0 : Nat))]] (3 : Nat) true)) ≤ AHeap.n h') ∧ ∃ (h'_1 : AHeap), AHeap.wr h' (AHeap.n h) (0 : Nat) (0 : Nat) [Value.int IntKind.i64 x_2, Value.int IntKind.i64 x_3, Value.int IntKind.i64 x_4] = some h'_1 ∧ ∃ (x : Bool), AHeap.ld h'_1 l (0 : Nat) (2 : Nat) (1 : Nat) = some [Value.bool x] ∧ bs x (∃ (h' : AHeap), AHeap.wr h'_1 l (0 : Nat) (2 : Nat) [Value.bool true] = some h' ∧ Q (Value.int IntKind.i64 (0 : Int)) h') (∃ (x : Int), AHeap.ld h'_1 (AHeap.n h) (0 : Nat) (2 : Nat) (1 : Nat) = some [Value.int IntKind.i64 x] ∧ bs (!decide (x = (0 : Int))) (∃ (h' : AHeap), AHeap.wr h'_1 l (0 : Nat) (2 : Nat) [Value.bool true] = some h' ∧ Q (Value.int IntKind.i64 (0 : Int)) h') (∃ (x : Int), AHeap.ld h'_1 (AHeap.n h) (0 : Nat) (1 : Nat) (1 : Nat) = some [Value.int IntKind.i64 x] ∧ ∃ (h' : AHeap), AHeap.wr h'_1 l (0 : Nat) (1 : Nat) [Value.int IntKind.i64 x] = some h' ∧ ∃ (x : Int), AHeap.ld h' (AHeap.n h) (0 : Nat) (0 : Nat) (1 : Nat) = some [Value.int IntKind.i64 x] ∧ Q (Value.int IntKind.i64 x) h'))) = _) ?_
  rw [← hG]
  refine ⟨_, d1, _, d2, ?_⟩
  obtain ⟨n, e, c, rfl, hcase⟩ : ∃ (n : Int) (e : Nat) (c : Int), v = .agg #[.int .i64 n, .int .i64 e, .int .i64 c] ∧ ((pNum t a = none ∧ 0 < c) ∨ (pNum t a = some (n, e) ∧ c = 0)) := by
    rcases num_cases hv with ⟨hn, c, h1, h2, rfl⟩ | ⟨n, e, hn, rfl⟩
    · exact ⟨0, 0, c, rfl, .inl ⟨hn, h1⟩⟩
    · exact ⟨n, e, 0, rfl, .inr ⟨hn, rfl⟩⟩
  have hG1 : (G.put h.n (some (o3 (.int .i64 n) (.int .i64 e) (.int .i64 c)))).get l = some (rdO t a b) := by rw [AHeap.get_put_ne (by omega)]; exact hg0
  have hx1 : (G.put h.n (some (o3 (.int .i64 n) (.int .i64 e) (.int .i64 c)))).get h.n = some (o3 (.int .i64 n) (.int .i64 e) (.int .i64 c)) := AHeap.get_put_eq
  have w1 : (G.put h.n (some (o3 (.int .i64 n) (.int .i64 e) (.int .i64 c)))).wf := w0.put lt0 _
  have o1 : Out [l] h (G.put h.n (some (o3 (.int .i64 n) (.int .i64 e) (.int .i64 c)))) := .of_le (le0.put (hw _ (Nat.le_refl _)) _)
  refine ⟨_, _, _, _, A, ⟨rfl, Nat.le_refl _⟩, _, o3_wr hx0, ?_⟩
  generalize hG' : G.put h.n (some (o3 (.int .i64 n) (.int .i64 e) (.int .i64 c))) = G' at *
  obtain ⟨f1, f2, f3, _⟩ := rd_ld hG1
  obtain ⟨x1, x2, x3⟩ := o3_ld hx1
  refine ⟨_, f3, ?_⟩
  have bad : (b = false → pNum t a = none) → Q (.int .i64 0) (G'.put l (some (rdO t a true))) := fun hb => HQ _ _ ⟨rd_wf w1 hG1, o1.trans (rd_out hG1), 0, a, true, rfl, by unfold InR; omega, AHeap.get_put_eq, ⟨fun _ => rfl, fun _ e => (by cases e), fun h _ => hb h, ha⟩⟩
  cases b with
  | true => exact ⟨_, rd_wrB hG1, bad (fun e => by cases e)⟩
  | false =>
    refine ⟨_, x3, ?_⟩
    rcases hcase with ⟨hn, hc⟩ | ⟨hn, rfl⟩
    · exact bs_dn (fun _ => ⟨_, rd_wrB hG1, bad (fun _ => hn)⟩) (fun e => absurd e (by omega))
    · obtain ⟨q1, q2, q3, q4⟩ := pNum_enc hn
      refine bs_dn (fun h => absurd rfl h) (fun _ => ⟨_, x2, _, rd_wrA hG1, ?_⟩)
      have x4 : (G'.put l (some (rdO t e false))).get h.n = some (o3 (.int .i64 n) (.int .i64 e) (.int .i64 0)) := by rw [AHeap.get_put_ne (by omega)]; exact hx1
      exact ⟨_, (o3_ld x4).1, HQ _ _ ⟨rd_wf w1 hG1, o1.trans (rd_out hG1), n, e, false, rfl, q4, AHeap.get_put_eq, ⟨fun h => h, fun _ _ => hn, fun _ h2 => (by cases h2), q2⟩⟩⟩
theorem srtext_spec (h : AHeap) (hw : h.wf) (l : Nat) (t : ByteArray) (a : Nat) (b : Bool) (ht : t.size ≤ 20000) (ha : a ≤ t.size) (hg : h.get l = some (rdO t a b)) : ∃ v h', ACall Try.prog 64 [.pointer (some ⟨l, 0, some 0⟩)] h v h' ∧ RdWord h l t a b v h' := by
  have hll := hw.lt hg
  obtain ⟨G, hG⟩ : ∃ G, G = h.push ⟨[[.string ⟨#[]⟩, .int .i64 (Int.ofNat 0), .int .i64 (Int.ofNat 0)]], 3, true⟩ := ⟨_, rfl⟩
  have w0 : G.wf := by rw [hG]; exact hw.push _
  have le0 : h.Le G := by rw [hG]; exact .push hw _
  have hx0 : G.get h.n = some (o3 (.string ⟨#[]⟩) (.int .i64 0) (.int .i64 0)) := by rw [hG]; exact AHeap.get_push_eq
  have hg0 := le0.get _ _ hg
  have lt0 := w0.lt hx0
  obtain ⟨v, g, A, eg, hv⟩ := specGetText G t a (by omega) (by omega)
  rw [eg] at A
  obtain ⟨d1, d2, d3, _⟩ := rd_ld hg0
  refine acall_q fun Q HQ => ?_
  refine acall_vc (fun t => t == 3) (fun r => match r with | 1 => [(9, 2, []), (0, 0, []), (1, 0, []), (2, 0, []), (4, 0, []), (5, 0, []), (6, 0, []), (3, 1, []), (7, 1, []), (8, 3, [9]), (10, 3, [])] | _ => []) (fun _ => .none) mixed Try.func64 rfl rfl rfl (Nat.le_of_ble_eq_true rfl) (by refine vc_mp (by kernel_rfl : (True ∧ True ∧ (True ∧ (True ∧ True ∧ True) ∧ True) ∧ True ∧ True ∧ True) = _) ?_; simp only [and_self]) ?_
  refine vc_mp (by kernel_rfl : (∃ (x : ByteArray), AHeap.ld (AHeap.push h (AObj.mk [[Value.string (ByteArray.mk (Array.mk [])), Value.int IntKind.i64 (Int.ofNat (0 : Nat)), Value.int IntKind.i64 (Int.ofNat (0 : Nat))]] (3 : Nat) true)) l (0 : Nat) (0 : Nat) (1 : Nat) = some [Value.string x] ∧ ∃ (x_1 : Int), AHeap.ld (AHeap.push h (AObj.mk [[Value.string (ByteArray.mk (Array.mk [])), Value.int IntKind.i64 (Int.ofNat (0 : Nat)), Value.int IntKind.i64 (Int.ofNat (0 : Nat))]] (3 : Nat) true)) l (0 : Nat) (1 : Nat) (1 : Nat) = some [Value.int IntKind.i64 x_1] ∧ ∃ (x_2 : ByteArray), ∃ (x_3 : Int), ∃ (x_4 : Int), ∃ (h' : AHeap), ACall Try.prog (117 : Nat) [Value.string x, Value.int IntKind.i64 x_1] (AHeap.push h (AObj.mk [[Value.string (ByteArray.mk (Array.mk [])), Value.int IntKind.i64 (Int.ofNat (0 : Nat)), Value.int IntKind.i64 (Int.ofNat (0 : Nat))]] (3 : Nat) true)) (Value.agg (Array.mk [Value.string x_2, Value.int IntKind.i64 x_3, Value.int IntKind.i64 x_4])) h' ∧ (AHeap.get h' (AHeap.n h) = AHeap.get (AHeap.push h (AObj.mk [[Value.string (ByteArray.mk (Array.mk [])), Value.int IntKind.i64 (Int.ofNat (0 : Nat)), Value.int IntKind.i64 (Int.ofNat (0 : Nat))]] (3 : Nat) true)) (AHeap.n h) ∧ AHeap.n (AHeap.push h (AObj.mk [[Value.string (ByteArray.mk (Array.mk [])), Value.int IntKind.i64 (Int.ofNat (0 : Nat)), Value.int IntKind.i64 (Int.ofNat (0 : Nat))]] (3 : Nat) true)) ≤ AHeap.n h') ∧ ∃ (h'_1 : AHeap), AHeap.wr h' (AHeap.n h) (0 : Nat) (0 : Nat) [Value.string x_2, Value.int IntKind.i64 x_3, Value.int IntKind.i64 x_4] = some h'_1 ∧ ∃ (x : Bool), AHeap.ld h'_1 l (0 : Nat) (2 : Nat) (1 : Nat) = some [Value.bool x] ∧ bs x (∃ (h' : AHeap), AHeap.wr h'_1 l (0 : Nat) (2 : Nat) [Value.bool true] = some h' ∧ Q (Value.string (ByteArray.mk (Array.mk []))) h') (∃ (x : Int), AHeap.ld h'_1 (AHeap.n h) (0 : Nat) (2 : Nat) (1 : Nat) = some [Value.int IntKind.i64 x] ∧ bs (!decide (x = (0 : Int))) (∃ (h' : AHeap), AHeap.wr h'_1 l (0 : Nat) (2 : Nat) [Value.bool true] = some h' ∧ Q (Value.string (ByteArray.mk (Array.mk []))) h') (∃ (x : Int), AHeap.ld h'_1 (AHeap.n h) (0 : Nat) (1 : Nat) (1 : Nat) = some [Value.int IntKind.i64 x] ∧ ∃ (h' : AHeap), AHeap.wr h'_1 l (0 : Nat) (1 : Nat) [Value.int IntKind.i64 x] = some h' ∧ ∃ (x : ByteArray), AHeap.ld h' (AHeap.n h) (0 : Nat) (0 : Nat) (1 : Nat) = some [Value.string x] ∧ Q (Value.string x) h'))) = _) ?_
  rw [← hG]
  refine ⟨_, d1, _, d2, ?_⟩
  obtain ⟨n, e, c, rfl, hcase⟩ : ∃ (n : ByteArray) (e : Nat) (c : Int), v = .agg #[.string n, .int .i64 e, .int .i64 c] ∧ ((pWord t a = none ∧ 0 < c) ∨ (pWord t a = some (n, e) ∧ c = 0)) := by
    rcases hv with ⟨hn, c, h1, rfl⟩ | ⟨n, e, hn, rfl⟩
    · exact ⟨⟨#[]⟩, 0, c, rfl, .inl ⟨hn, h1⟩⟩
    · exact ⟨n, e, 0, rfl, .inr ⟨hn, rfl⟩⟩
  have hG1 : (G.put h.n (some (o3 (.string n) (.int .i64 e) (.int .i64 c)))).get l = some (rdO t a b) := by rw [AHeap.get_put_ne (by omega)]; exact hg0
  have hx1 : (G.put h.n (some (o3 (.string n) (.int .i64 e) (.int .i64 c)))).get h.n = some (o3 (.string n) (.int .i64 e) (.int .i64 c)) := AHeap.get_put_eq
  have w1 : (G.put h.n (some (o3 (.string n) (.int .i64 e) (.int .i64 c)))).wf := w0.put lt0 _
  have o1 : Out [l] h (G.put h.n (some (o3 (.string n) (.int .i64 e) (.int .i64 c)))) := .of_le (le0.put (hw _ (Nat.le_refl _)) _)
  refine ⟨_, _, _, _, A, ⟨rfl, Nat.le_refl _⟩, _, o3_wr hx0, ?_⟩
  generalize hG' : G.put h.n (some (o3 (.string n) (.int .i64 e) (.int .i64 c))) = G' at *
  obtain ⟨f1, f2, f3, _⟩ := rd_ld hG1
  obtain ⟨x1, x2, x3⟩ := o3_ld hx1
  refine ⟨_, f3, ?_⟩
  have bad : (b = false → pWord t a = none) → Q (.string ⟨#[]⟩) (G'.put l (some (rdO t a true))) := fun hb => HQ _ _ ⟨rd_wf w1 hG1, o1.trans (rd_out hG1), ⟨#[]⟩, a, true, rfl, by exact Nat.zero_le _, AHeap.get_put_eq, ⟨fun _ => rfl, fun _ e => (by cases e), fun h _ => hb h, ha⟩⟩
  cases b with
  | true => exact ⟨_, rd_wrB hG1, bad (fun e => by cases e)⟩
  | false =>
    refine ⟨_, x3, ?_⟩
    rcases hcase with ⟨hn, hc⟩ | ⟨hn, rfl⟩
    · exact bs_dn (fun _ => ⟨_, rd_wrB hG1, bad (fun _ => hn)⟩) (fun e => absurd e (by omega))
    · obtain ⟨q1, q2, q3, q4⟩ := pWord_enc hn
      refine bs_dn (fun h => absurd rfl h) (fun _ => ⟨_, x2, _, rd_wrA hG1, ?_⟩)
      have x4 : (G'.put l (some (rdO t e false))).get h.n = some (o3 (.string n) (.int .i64 e) (.int .i64 0)) := by rw [AHeap.get_put_ne (by omega)]; exact hx1
      exact ⟨_, (o3_ld x4).1, HQ _ _ ⟨rd_wf w1 hG1, o1.trans (rd_out hG1), n, e, false, rfl, q4, AHeap.get_put_eq, ⟨fun h => h, fun _ _ => hn, fun _ h2 => (by cases h2), q2⟩⟩⟩
theorem rmany_spec (h : AHeap) (hw : h.wf) (l : Nat) (t : ByteArray) (a : Nat) (b : Bool) (k : Int) (hk : 0 ≤ k) (ht : t.size ≤ 20000) (ha : a ≤ t.size) (hg : h.get l = some (rdO t a b)) : ∃ v h', ACall Try.prog 86 [.pointer (some ⟨l, 0, some 0⟩), .int .i64 k] h v h' ∧ RdMany k h l t a b v h' := by
  obtain ⟨v, g, A, w, o, x, a', b', rfl, hx, hg', R⟩ := rnum_spec h hw l t a b ht ha hg
  refine acall_q fun Q HQ => ?_
  refine acall_vc (fun _ => false) (fun _ => []) (fun _ => .none) mixed Try.func86 rfl rfl rfl (Nat.le_of_ble_eq_true rfl) (by refine vc_mp (by kernel_rfl : (True ∧ True ∧ (True ∧ True ∧ True) ∧ (True ∧ (True ∧ True) ∧ True) ∧ True ∧ True) = _) ?_; simp only [and_self]) ?_
  refine vc_mp (by kernel_rfl : (∃ (x : Int), ∃ (h' : AHeap), ACall Try.prog (65 : Nat) [Value.pointer (some (Addr.mk l (0 : Nat) (some (0 : Nat))))] h (Value.int IntKind.i64 x) h' ∧ ∃ (x_1 : Bool), ∃ (h'_1 : AHeap), ACall Try.prog (93 : Nat) [Value.int IntKind.i64 x, Value.int IntKind.i64 (0 : Int), Value.int IntKind.i64 k] h' (Value.bool x_1) h'_1 ∧ bs (!x_1) (∃ (h' : AHeap), AHeap.wr h'_1 l (0 : Nat) (2 : Nat) [Value.bool true] = some h' ∧ ∃ (x_2 : Bool), AHeap.ld h' l (0 : Nat) (2 : Nat) (1 : Nat) = some [Value.bool x_2] ∧ bs x_2 (Q (Value.int IntKind.i64 (0 : Int)) h') (Q (Value.int IntKind.i64 x) h')) (∃ (x_2 : Bool), AHeap.ld h'_1 l (0 : Nat) (2 : Nat) (1 : Nat) = some [Value.bool x_2] ∧ bs x_2 (Q (Value.int IntKind.i64 (0 : Int)) h'_1) (Q (Value.int IntKind.i64 x) h'_1))) = _) ?_
  refine ⟨_, _, A, _, _, within_spec x 0 k g, bs_nb (fun e => ?_) (fun e => ?_)⟩
  · have hno : ¬ (0 ≤ x ∧ x ≤ k) := by intro H; simp [H.1, H.2] at e
    refine ⟨_, rd_wrB hg', ?_⟩
    obtain ⟨_, _, f3, _⟩ := rd_ld (h := g.put l (some (rdO t a' true))) (a := a') (b := true) AHeap.get_put_eq
    refine ⟨_, f3, ?_⟩
    refine HQ _ _ ⟨rd_wf w hg', o.trans (rd_out hg'), 0, a', true, rfl, by omega, AHeap.get_put_eq, ⟨fun _ => rfl, fun _ e => (by cases e), fun h1 _ => ?_, R.le⟩⟩
    unfold pMany
    cases b' with
    | true => rw [R.no h1 rfl]
    | false => rw [R.ok h1 rfl]; dsimp only; rw [if_neg hno]
  · have hy : 0 ≤ x ∧ x ≤ k := by simpa using e
    obtain ⟨_, _, f3, _⟩ := rd_ld hg'
    refine ⟨_, f3, ?_⟩
    cases b' with
    | true => exact HQ _ _ ⟨w, o, 0, a', true, rfl, by omega, hg', ⟨fun _ => rfl, fun _ e => (by cases e), fun h1 _ => by unfold pMany; rw [R.no h1 rfl], R.le⟩⟩
    | false =>
      refine HQ _ _ ⟨w, o, x.toNat, a', false, by rw [show ((x.toNat : Nat) : Int) = x by omega], by omega, hg', ⟨R.bad, fun h1 _ => ?_, fun _ h2 => (by cases h2), R.le⟩⟩
      unfold pMany
      rw [R.ok h1 rfl]; dsimp only; rw [if_pos hy]
theorem srmany_spec (h : AHeap) (hw : h.wf) (l : Nat) (t : ByteArray) (a : Nat) (b : Bool) (k : Int) (hk : 0 ≤ k) (ht : t.size ≤ 20000) (ha : a ≤ t.size) (hg : h.get l = some (rdO t a b)) : ∃ v h', ACall Try.prog 83 [.pointer (some ⟨l, 0, some 0⟩), .int .i64 k] h v h' ∧ RdMany k h l t a b v h' := by
  obtain ⟨v, g, A, w, o, x, a', b', rfl, hx, hg', R⟩ := srnum_spec h hw l t a b ht ha hg
  refine acall_q fun Q HQ => ?_
  refine acall_vc (fun _ => false) (fun _ => []) (fun _ => .none) mixed Try.func83 rfl rfl rfl (Nat.le_of_ble_eq_true rfl) (by refine vc_mp (by kernel_rfl : (True ∧ True ∧ (True ∧ (True ∧ True ∧ True) ∧ True) ∧ True ∧ True) = _) ?_; simp only [and_self]) ?_
  refine vc_mp (by kernel_rfl : (∃ (x : Int), ∃ (h' : AHeap), ACall Try.prog (62 : Nat) [Value.pointer (some (Addr.mk l (0 : Nat) (some (0 : Nat))))] h (Value.int IntKind.i64 x) h' ∧ ∃ (x_1 : Bool), ∃ (h'_1 : AHeap), ACall Try.prog (48 : Nat) [Value.int IntKind.i64 x, Value.int IntKind.i64 (0 : Int), Value.int IntKind.i64 k] h' (Value.bool x_1) h'_1 ∧ bs (!x_1) (∃ (h' : AHeap), AHeap.wr h'_1 l (0 : Nat) (2 : Nat) [Value.bool true] = some h' ∧ Q (Value.int IntKind.i64 (0 : Int)) h') (Q (Value.int IntKind.i64 x) h'_1)) = _) ?_
  refine ⟨_, _, A, _, _, l03Is_spec x 0 k g, bs_nb (fun e => ?_) (fun e => ?_)⟩
  · have hno : ¬ (0 ≤ x ∧ x ≤ k) := by intro H; simp [H.1, H.2] at e
    refine ⟨_, rd_wrB hg', ?_⟩
    refine HQ _ _ ⟨rd_wf w hg', o.trans (rd_out hg'), 0, a', true, rfl, by omega, AHeap.get_put_eq, ⟨fun _ => rfl, fun _ e => (by cases e), fun h1 _ => ?_, R.le⟩⟩
    unfold pMany
    cases b' with
    | true => rw [R.no h1 rfl]
    | false => rw [R.ok h1 rfl]; dsimp only; rw [if_neg hno]
  · have hy : 0 ≤ x ∧ x ≤ k := by simpa using e
    refine HQ _ _ ⟨w, o, x.toNat, a', b', by rw [show ((x.toNat : Nat) : Int) = x by omega], by omega, hg', ⟨R.bad, fun h1 h2 => ?_, fun h1 h2 => ?_, R.le⟩⟩
    · unfold pMany
      rw [R.ok h1 h2]; dsimp only; rw [if_pos hy]
    · unfold pMany
      rw [R.no h1 h2]
end Go.Proofs.Ytdcijleeoihlfaa
