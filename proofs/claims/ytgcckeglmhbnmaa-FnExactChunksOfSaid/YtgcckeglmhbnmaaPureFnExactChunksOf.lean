/- The law FnExactChunksOf at its plain functions: after some rounds they tell true. Conditions: the argument is an int64, the string has a size that a machine holds. -/
import Derived.Test.YtgcckeglmhbnmaaPFnExactChunksOfx2
namespace Go.Proofs.Ytgcckeglmhbnmaa.Pure
open Go.RowKit Go.Proofs.Ytgcckeglmhbnmaa.PFnExactChunksOf Go.Proofs.YtgcckeglmhbnmaaW.PrintWords Go.Proofs.YtgcckeglmhbnmaaW.PrintLast Go.Proofs.YtgcckeglmhbnmaaW.PrintMore

theorem w64 (n : Int) (h : -9223372036854775808 ≤ n ∧ n ≤ 9223372036854775807) : wrap64 n = n := by unfold wrap64; omega

theorem strOfNums_one (n : Int) : (strOfNums [n]).size = 1 := by rfl

theorem markText_some : ∀ (m : Nat) (n : Int) (x : ByteArray), n < 10 ^ m → x.size + m ≤ 1000 → ∃ r, laws_markText.l0 (m + 1) n x = some r
  | 0, n, x, hn, hx => by
    refine ⟨_, by rw [laws_markText.l0, if_neg (by simp at hn; omega), if_pos (by omega)]⟩
  | m + 1, n, x, hn, hx => by
    rw [laws_markText.l0]
    by_cases h : n > 0
    · rw [if_pos h]
      simp only [Option.bind_some]
      have h1 := strOfNums_one ((wrap64 (48 + (Int.tmod n 10))) % 256)
      rw [if_pos (by rw [h1]; omega)]
      refine markText_some m _ _ ?_ ?_
      · have h2 : Int.tdiv n 10 = n / 10 := Int.tdiv_eq_ediv_of_nonneg (by omega)
        rw [h2]
        by_cases hb : n ≤ 9223372036854775807
        · rw [w64 _ (by omega)]
          rw [Int.pow_succ] at hn
          omega
        · have : wrap64 (n / 10) ≤ n / 10 := by unfold wrap64; omega
          rw [Int.pow_succ] at hn
          omega
      · rw [ByteArray.size_append, h1]; omega
    · rw [if_neg h, if_pos (by omega)]; exact ⟨_, rfl⟩

theorem markText_f {k : Nat} {n : Int} (hk : 7 ≤ k) (hn : n < 1000000) : ∃ r, laws_markText.f 7 n = some r ∧ laws_markText.f k n = some r := by
  have h : ∃ r, laws_markText.f 7 n = some r := by
    unfold laws_markText.f
    split
    · exact ⟨_, rfl⟩
    · exact markText_some 6 n _ (by simpa using hn) (by decide)
  obtain ⟨r, h⟩ := h
  refine ⟨r, h, ?_⟩
  induction k with
  | zero => omega
  | succ k ih =>
    by_cases e : k + 1 = 7
    · rw [e]; exact h
    · exact laws_markText.mono n k r (ih (by omega))

def text (n : Int) : ByteArray := (laws_markText.f 7 n).getD ByteArray.empty

theorem text_f {k : Nat} {n : Int} (hk : 7 ≤ k) (hn : n < 1000000) : laws_markText.f k n = some (text n) := by
  obtain ⟨r, h1, h2⟩ := markText_f hk hn
  rw [h2]; unfold text; rw [h1]; rfl

theorem mark_l0 : ∀ (d : Nat) (l : List ByteArray) (i : Nat) (k : Nat), l.length - i = d → i ≤ l.length → l.length < 100000 → d + 8 ≤ k → ∃ l', laws_markStringS.l0 k l (i + 1) i = some ((l.length : Int) + 1, l') ∧ l'.length = l.length ∧ (∀ j, i ≤ j → j < l.length → l'[j]? = some (text (j + 1)))  ∧ (∀ j, j < i → l'[j]? = l[j]?)
  | d, l, i, 0, _, _, _, h => by omega
  | 0, l, i, k + 1, hd, hi, hl, hk => by
    refine ⟨l, ?_, rfl, fun j h1 h2 => by omega, fun j _ => rfl⟩
    rw [laws_markStringS.l0, if_neg (by omega)]
    have : i = l.length := by omega
    rw [this]
  | d + 1, l, i, k + 1, hd, hi, hl, hk => by
    rw [laws_markStringS.l0, if_pos (by omega), text_f (by omega) (by omega)]
    simp only [Option.bind_some]
    rw [if_pos (by omega), w64 _ (by omega), w64 _ (by omega)]
    obtain ⟨l', h1, h2, h3, h4⟩ := mark_l0 d (l.set i (text (i + 1))) (i + 1) k (by simp; omega) (by simp; omega) (by simpa using hl) (by omega)
    have e : ((i : Int)).toNat = i := rfl
    refine ⟨l', ?_, by rw [h2]; simp, ?_, ?_⟩
    · rw [e]
      have := h1
      simp only [List.length_set] at this
      exact_mod_cast this
    · intro j hj1 hj2
      by_cases hj : j = i
      · subst hj
        rw [h4 j (by omega)]
        simp [List.getElem?_set, hj2]
      · exact h3 j (by omega) (by simpa using hj2)
    · intro j hj
      rw [h4 j (by omega), List.getElem?_set_ne (by omega)]

theorem rdOf_get {xs : List ByteArray} {i : Nat} {v : ByteArray} (h : xs[i]? = some v) : rdOf ByteArray.empty xs (i : Int) = v := by
  unfold rdOf; rw [List.getD_eq_getElem?_getD]
  show (xs[i]?).getD _ = v
  rw [h]; rfl

theorem held_l0 : ∀ (d : Nat) (l : List ByteArray) (i : Nat) (k : Nat), l.length - i = d → i ≤ l.length → l.length < 100000 → d + 8 ≤ k → (∀ j, i ≤ j → j < l.length → l[j]? = some (text (j + 1))) → laws_heldStringS.l0 k l (i + 1) i = some ((l.length : Int) + 1)
  | d, l, i, 0, _, _, _, h, _ => by omega
  | 0, l, i, k + 1, hd, hi, hl, hk, hh => by
    rw [laws_heldStringS.l0, if_neg (by omega)]
    have : i = l.length := by omega
    rw [this]
  | d + 1, l, i, k + 1, hd, hi, hl, hk, hh => by
    rw [laws_heldStringS.l0, if_pos (by omega), if_pos (by omega), text_f (by omega) (by omega)]
    simp only [Option.bind_some]
    rw [rdOf_get (hh i (by omega) (by omega)), if_pos rfl, w64 _ (by omega), w64 _ (by omega)]
    have := held_l0 d l (i + 1) k (by omega) (by omega) hl (by omega) (fun j h1 h2 => hh j (by omega) h2)
    exact_mod_cast this

theorem eq_l0 : ∀ (d : Nat) (l : List ByteArray) (i : Nat) (k : Nat), l.length - i = d → i ≤ l.length → l.length < 100000 → d + 1 ≤ k → laws_eqStringS.l0 k l l i = some true
  | d, l, i, 0, _, _, _, h => by omega
  | 0, l, i, k + 1, hd, hi, hl, hk => by
    rw [laws_eqStringS.l0, if_neg (by omega)]
  | d + 1, l, i, k + 1, hd, hi, hl, hk => by
    rw [laws_eqStringS.l0, if_pos (by omega), if_pos (by omega), if_pos (by omega), if_pos rfl, w64 _ (by omega)]
    have := eq_l0 d l (i + 1) k (by omega) (by omega) hl (by omega)
    exact_mod_cast this

theorem extract_size (b : ByteArray) (i j : Nat) : (b.extract i j).size = min j b.size - i := by rw [ByteArray.size_extract]

theorem toList_nil (s : ByteArray) : s.toList = [] ↔ s.size = 0 := by
  rw [ByteArray.toList_eq]
  constructor
  · intro h
    have := congrArg List.length h
    simpa using this
  · intro h
    apply List.eq_nil_of_length_eq_zero
    simpa using h

theorem ext2 (b : ByteArray) (x m : Nat) (hm : x + m ≤ b.size) : (b.extract x b.size).extract m (b.extract x b.size).size = b.extract (x + m) b.size := by
  apply ByteArray.ext
  simp only [ByteArray.data_extract, ByteArray.size_extract, Array.extract_extract]
  congr 1
  omega

theorem ext1 (b : ByteArray) (x m : Nat) (hm : x + m ≤ b.size) : (b.extract x b.size).extract 0 m = b.extract x (x + m) := by
  apply ByteArray.ext
  simp only [ByteArray.data_extract, Array.extract_extract]
  congr 1
  omega

theorem chunks_l0 (b : ByteArray) (c : Int) (hc : 1 ≤ c ∧ c ≤ 500) (hb : b.size ≤ 20000) : ∀ (d : Nat) (x : Nat) (acc : List ByteArray) (k : Nat), b.size - x ≤ d → x ≤ 30000 → acc.length + d ≤ 50000 → d + 1 ≤ k →
    ∃ r, spec_ChunksOf.l0 k b c acc x = some r ∧ impl_ChunksOf.l0 k (b.extract x b.size) c acc = some r ∧ r.length ≤ acc.length + d
  | d, x, acc, 0, _, _, _, h => by omega
  | d, x, acc, k + 1, hd, hx, ha, hk => by
    rw [spec_ChunksOf.l0, impl_ChunksOf.l0]
    have hs : (b.extract x b.size).size = b.size - x := by rw [extract_size]; omega
    by_cases h : b.size ≤ x
    · rw [if_neg (by omega), if_pos ((toList_nil _).2 (by omega))]
      exact ⟨acc, rfl, rfl, by omega⟩
    · obtain ⟨n, rfl⟩ : ∃ n : Nat, c = (n : Int) := ⟨c.toNat, by omega⟩
      rw [if_pos (by omega), if_neg (by rw [toList_nil]; omega), w64 _ (by omega)]
      unfold spec_l01Min.f
      cases d with
      | zero => omega
      | succ d =>
      by_cases hm : x + n < b.size
      · have em : mn (n : Int) ((b.extract x b.size).size : Int) = (n : Int) := by unfold mn; rw [hs, if_neg (by omega)]
        rw [em]
        have e1 : ((x : Int) + (n : Int)) = ((x + n : Nat) : Int) := by omega
        rw [if_neg (show ¬ ((b.size : Int) < (x : Int) + (n : Int)) by omega)]
        simp only [Option.bind_some]
        rw [if_pos (by omega), if_pos (by omega), if_pos (by omega), if_pos (by omega), if_pos (by omega), if_pos (by omega), if_pos (by omega), e1]
        show ∃ r, spec_ChunksOf.l0 k b n (acc ++ [b.extract x (x + n)]) ((x + n : Nat) : Int) = some r ∧ impl_ChunksOf.l0 k ((b.extract x b.size).extract n (b.extract x b.size).size) n (acc ++ [(b.extract x b.size).extract 0 n]) = some r ∧ _
        rw [ext2 b x n (by omega), ext1 b x n (by omega)]
        obtain ⟨r, h1, h2, h3⟩ := chunks_l0 b n hc hb d (x + n) (acc ++ [b.extract x (x + n)]) k (by omega) (by omega) (by simp; omega) (by omega)
        exact ⟨r, h1, h2, by simp at h3; omega⟩
      · have em : mn (n : Int) ((b.extract x b.size).size : Int) = ((b.size - x : Nat) : Int) := by
          unfold mn; rw [hs]; split <;> omega
        rw [em]
        have e1 : ((x : Int) + (n : Int)) = ((x + n : Nat) : Int) := by omega
        have e2 : (if ((b.size : Int) < (x : Int) + (n : Int)) then some (b.size : Int) else some ((x : Int) + (n : Int))) = some (b.size : Int) := by
          split
          · rfl
          · congr 1; omega
        rw [e2]
        simp only [Option.bind_some]
        rw [if_pos (by omega), if_pos (by omega), if_pos (by omega), if_pos (by omega), if_pos (by omega), if_pos (by omega), if_pos (by omega), e1]
        show ∃ r, spec_ChunksOf.l0 k b n (acc ++ [b.extract x b.size]) ((x + n : Nat) : Int) = some r ∧ impl_ChunksOf.l0 k ((b.extract x b.size).extract (b.size - x) (b.extract x b.size).size) n (acc ++ [(b.extract x b.size).extract 0 (b.size - x)]) = some r ∧ _
        rw [ext2 b x (b.size - x) (by omega), ext1 b x (b.size - x) (by omega)]
        have e3 : x + (b.size - x) = b.size := by omega
        have e4 : b.extract b.size b.size = b.extract (x + n) b.size := by
          apply ByteArray.ext
          simp only [ByteArray.data_extract]
          rw [Array.extract_eq_empty_iff.2 (by omega), Array.extract_eq_empty_iff.2 (by omega)]
        rw [e3, e4]
        obtain ⟨r, h1, h2, h3⟩ := chunks_l0 b n hc hb d (x + n) (acc ++ [b.extract x b.size]) k (by omega) (by omega) (by simp; omega) (by omega)
        exact ⟨r, h1, h2, by simp at h3; omega⟩

theorem both (a0 : ByteArray) (a1 : Int) (k : Nat) (hk : 60000 ≤ k) (hs : a0.size ≤ 1048576) (hw : -9223372036854775808 ≤ a1 ∧ a1 ≤ 9223372036854775807) : ∃ r, spec_ChunksOf.f k a0 a1 = some r ∧ impl_ChunksOf.f k a0 a1 = some r ∧ r.length < 100000 := by
  obtain ⟨k, rfl⟩ : ∃ j, k = j + 1 := ⟨k - 1, by omega⟩
  unfold spec_ChunksOf.f impl_ChunksOf.f
  simp only [Option.bind_some]
  by_cases h1 : (a0.size : Int) > 20000
  · rw [if_pos h1, if_pos h1, spec_ChunksOf.j0, impl_ChunksOf.j0, if_pos rfl, if_pos rfl]
    exact ⟨_, rfl, rfl, by simp⟩
  rw [if_neg h1, if_neg h1]
  unfold spec_l03Is.f impl_within.f
  by_cases h2 : a1 ≥ 1
  · by_cases h3 : a1 ≤ 500
    · rw [if_pos h2, decide_eq_true h3]
      simp only [Option.bind_some, if_true]
      rw [if_neg (by omega)]
      obtain ⟨n, rfl⟩ : ∃ n : Nat, a1 = (n : Int) := ⟨a1.toNat, by omega⟩
      have e : decide (wrap64 (Int.tdiv (wrap64 (wrap64 ((a0.size : Int) + n) - 1)) n) > 400) = decide ((a0.size : Int) > wrap64 (n * 400)) := by
        rw [w64 ((n : Int) * 400) (by omega), w64 ((a0.size : Int) + n) (by omega), w64 ((a0.size : Int) + n - 1) (by omega), Int.tdiv_eq_ediv_of_nonneg (by omega)]
        have h5 : ((a0.size : Int) + n - 1) / n ≤ (a0.size : Int) + n - 1 := Int.ediv_le_self _ (by omega)
        have h6 : 0 ≤ ((a0.size : Int) + n - 1) / n := Int.ediv_nonneg (by omega) (by omega)
        rw [w64 _ (by omega)]
        have : (((a0.size : Int) + n - 1) / n > 400) ↔ ((a0.size : Int) > n * 400) := by
          have h7 : (401 ≤ ((a0.size : Int) + n - 1) / n) ↔ 401 * (n : Int) ≤ (a0.size : Int) + n - 1 := Int.le_ediv_iff_mul_le (by omega)
          constructor
          · intro h; have := h7.1 (by omega); omega
          · intro h; have := h7.2 (by omega); omega
        simp only [this]
      rw [e, spec_ChunksOf.j0, impl_ChunksOf.j0]
      by_cases h4 : ((a0.size : Int) > wrap64 (n * 400))
      · rw [decide_eq_true h4, if_pos rfl, if_pos rfl]
        exact ⟨_, rfl, rfl, by simp⟩
      · rw [decide_eq_false h4, if_neg (by simp), if_neg (by simp)]
        obtain ⟨r, q1, q2, q3⟩ := chunks_l0 a0 n (by omega) (by omega) 20000 0 [] k (by omega) (by omega) (by simp) (by omega)
        refine ⟨r, q1, ?_, by simp at q3; omega⟩
        have : a0.extract 0 a0.size = a0 := by
          apply ByteArray.ext
          simp [ByteArray.data_extract]
        rw [this] at q2; exact q2
    · rw [if_pos h2, decide_eq_false h3]
      simp only [Option.bind_some, Bool.false_eq_true, if_false]
      rw [spec_ChunksOf.j0, impl_ChunksOf.j0, if_pos rfl, if_pos rfl]
      exact ⟨_, rfl, rfl, by simp⟩
  · rw [if_neg h2]
    simp only [Option.bind_some, Bool.false_eq_true, if_false]
    rw [spec_ChunksOf.j0, impl_ChunksOf.j0, if_pos rfl, if_pos rfl]
    exact ⟨_, rfl, rfl, by simp⟩

theorem FnExactChunksOf : laws_FnExactChunksOf.Pure := by
  intro a0 a1 hs hw
  refine ⟨200000, ?_⟩
  unfold laws_FnExactChunksOf.f
  by_cases h : (a0.size : Int) > 1048576
  · rw [if_pos h]
  rw [if_neg h]
  have hw' : -9223372036854775808 ≤ a1 ∧ a1 ≤ 9223372036854775807 := by
    simp only [Lit.wf, IntKind.min, IntKind.max, IntKind.signed, IntKind.bits, Bool.and_eq_true, decide_eq_true_eq, if_true] at hw
    omega
  obtain ⟨r, h1, h2, h3⟩ := both a0 a1 200000 (by omega) (by omega) hw'
  obtain ⟨l', m1, m2, m3, m4⟩ := mark_l0 r.length r 0 200000 (by omega) (by omega) h3 (by omega)
  have m1' : laws_markStringS.f 200000 r 1 = some ((r.length : Int) + 1, l') := m1
  have q := held_l0 l'.length l' 0 200000 (by omega) (by omega) (by omega) (by omega) (fun j _ hj => m3 j (by omega) (by omega))
  have q' : laws_heldStringS.f 200000 l' 1 = some ((r.length : Int) + 1) := by rw [← m2]; exact q
  have e : laws_eqStringS.f 200000 r r = some true := by
    unfold laws_eqStringS.f; rw [if_pos rfl]; exact eq_l0 r.length r 0 200000 (by omega) (by omega) h3 (by omega)
  simp only [h1, h2, Option.bind_some, e, if_true, m1', q']
  rw [if_neg (by omega), if_neg (by omega)]

end Go.Proofs.Ytgcckeglmhbnmaa.Pure
