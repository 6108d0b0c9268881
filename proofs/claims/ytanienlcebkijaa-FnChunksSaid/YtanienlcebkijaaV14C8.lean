/- Y5, L3, L4, L5, N1, Y3, C4, C5, C6, C7, C8. -/
import Derived.Test.YtanienlcebkijaaV14J2
import Derived.Test.YtanienlcebkijaaV14R1
import Derived.Test.YtanienlcebkijaaV14W1
section
namespace Go.Dat
open Go.Abs
def cutC (t : ByteArray) (z i : Nat) : Nat := min (i * z) t.size
def chunkL (t : ByteArray) (z : Nat) : Nat → List Sh.str.T
  | 0 => []
  | i + 1 => chunkL t z i ++ [t.extract (cutC t z i) (cutC t z (i + 1))]
def chunkN (t : ByteArray) (z : Nat) : Nat := (t.size + z - 1) / z
def ChunkOk (t : ByteArray) (size : Int) : Prop := t.size ≤ 20000 ∧ (1 ≤ size ∧ size ≤ 500) ∧ (t.size : Int) ≤ size * 400
open Classical in
noncomputable def chunksM (t : ByteArray) (size : Int) : List Sh.str.T := if ChunkOk t size then chunkL t size.toNat (chunkN t size.toNat) else []
theorem chunks_pos {t : ByteArray} {size : Int} (h : ChunkOk t size) : chunksM t size = chunkL t size.toNat (chunkN t size.toNat) := if_pos h
theorem chunks_neg {t : ByteArray} {size : Int} (h : ¬ ChunkOk t size) : chunksM t size = [] := if_neg h
theorem lt_chunkN {t : ByteArray} {z i : Nat} (hz : 0 < z) : i < chunkN t z ↔ i * z < t.size := by
  unfold chunkN
  rw [Nat.lt_iff_add_one_le, Nat.le_div_iff_mul_le hz, Nat.add_mul, Nat.one_mul]; omega
theorem chunkL_len {t : ByteArray} {z : Nat} : ∀ i, (chunkL t z i).length = i
  | 0 => rfl
  | i + 1 => by rw [chunkL, List.length_append, chunkL_len i]; rfl
theorem cut_le {t : ByteArray} {z i : Nat} : cutC t z i ≤ cutC t z (i + 1) ∧ cutC t z (i + 1) ≤ t.size := by
  unfold cutC; rw [Nat.add_mul, Nat.one_mul]; omega
theorem ext_app {t : ByteArray} {a b c : Nat} (h1 : a ≤ b) (h2 : b ≤ c) (h3 : c ≤ t.size) : t.extract a b ++ t.extract b c = t.extract a c := by
  rw [ByteArray.extract_append_extract]; congr 1 <;> omega
theorem cat_chunkL {t : ByteArray} {z : Nat} : ∀ i, cat (chunkL t z i) = t.extract 0 (cutC t z i)
  | 0 => by unfold cutC; rw [Nat.zero_mul, Nat.zero_min]; apply ba_ext; simp [chunkL, cat]
  | i + 1 => by
    have h := cut_le (t := t) (z := z) (i := i)
    rw [chunkL, cat_append, cat_chunkL i]
    show _ ++ (_ ++ (⟨#[]⟩ : ByteArray)) = _
    rw [ba_append_nil, ext_app (Nat.zero_le _) h.1 h.2]
theorem chunkL_at {t : ByteArray} {z : Nat} : ∀ (n i : Nat), i < n → (chunkL t z n)[i]? = some (t.extract (cutC t z i) (cutC t z (i + 1)))
  | n + 1, i, h => by
    rw [chunkL]
    by_cases e : i = n
    · subst e; rw [List.getElem?_append_right (by rw [chunkL_len]; exact Nat.le_refl _), chunkL_len, Nat.sub_self]; rfl
    · rw [List.getElem?_append_left (by rw [chunkL_len]; omega)]; exact chunkL_at n i (by omega)
theorem chunk_size {t : ByteArray} {z i : Nat} (hz : 0 < z) (hi : i < chunkN t z) : 1 ≤ (t.extract (cutC t z i) (cutC t z (i + 1))).size ∧ (t.extract (cutC t z i) (cutC t z (i + 1))).size ≤ z ∧ (i + 1 < chunkN t z → (t.extract (cutC t z i) (cutC t z (i + 1))).size = z) := by
  have h := (lt_chunkN hz).1 hi
  have c := cut_le (t := t) (z := z) (i := i)
  have e : (t.extract (cutC t z i) (cutC t z (i + 1))).size = cutC t z (i + 1) - cutC t z i := by rw [ByteArray.size_extract]; omega
  rw [e]
  unfold cutC
  refine ⟨?_, ?_, fun h2 => ?_⟩
  · rw [Nat.add_mul, Nat.one_mul]; omega
  · rw [Nat.add_mul, Nat.one_mul]; omega
  · have := (lt_chunkN hz).1 h2
    rw [Nat.add_mul, Nat.one_mul] at this ⊢; omega
theorem chunks_join {t : ByteArray} {z : Nat} (hz : 0 < z) : cat (chunkL t z (chunkN t z)) = t := by
  have h : ¬ chunkN t z < chunkN t z := Nat.lt_irrefl _
  rw [lt_chunkN hz] at h
  rw [cat_chunkL]
  have e : cutC t z (chunkN t z) = t.size := by unfold cutC; omega
  rw [e]; apply ba_ext; simp
theorem ext_sz {t : ByteArray} {a : Nat} : (t.extract a t.size).size = t.size - a := by rw [ByteArray.size_extract, Nat.min_self]
theorem ext_one {t : ByteArray} {z i : Nat} (h : i * z < t.size) : (t.extract (cutC t z i) t.size).extract 0 (cutC t z (i + 1) - cutC t z i) = t.extract (cutC t z i) (cutC t z (i + 1)) := by
  have c := cut_le (t := t) (z := z) (i := i)
  rw [ByteArray.extract_extract]; congr 1 <;> omega
theorem ext_rest {t : ByteArray} {z i : Nat} : (t.extract (cutC t z i) t.size).extract (cutC t z (i + 1) - cutC t z i) (t.size - cutC t z i) = t.extract (cutC t z (i + 1)) t.size := by
  have c := cut_le (t := t) (z := z) (i := i)
  rw [ByteArray.extract_extract]; congr 1 <;> omega
theorem chunkN_le {t : ByteArray} {z : Nat} (hz : 0 < z) : chunkN t z ≤ t.size := by
  by_cases h : t.size < chunkN t z
  · rw [lt_chunkN hz] at h
    have := Nat.mul_le_mul_left t.size hz
    omega
  · omega
theorem chunkN_lt {t : ByteArray} {z : Nat} (hz : 0 < z) : 400 < chunkN t z ↔ 400 * z < t.size := lt_chunkN hz
end Go.Dat
namespace Go.Proofs.Ytanienlcebkijaa
open Go.Abs Go.Dat
set_option maxRecDepth 100000
set_option maxHeartbeats 8000000
theorem l01Min_spec (h : AHeap) (a b : Int) : ACall Try.prog 78 [.int .i64 a, .int .i64 b] h (.int .i64 (min a b)) h := by
  refine acall_out ?_
  refine acall_vc (fun _ => false) (fun _ => []) (fun _ => .none) mixed Try.func78 rfl rfl rfl (Nat.le_of_ble_eq_true rfl) (by refine vc_mp (by kernel_rfl : (True ∧ (True ∧ (True ∧ True) ∧ True) ∧ True ∧ True) = _) ?_; simp only [and_self]) ?_
  refine vc_mp (by kernel_rfl : (bs (decide (a < b)) (Value.int IntKind.i64 a = Value.int IntKind.i64 (min a b) ∧ h = h) (Value.int IntKind.i64 b = Value.int IntKind.i64 (min a b) ∧ h = h)) = _) ?_
  exact bs_d (fun e => ⟨by congr 1; omega, rfl⟩) (fun e => ⟨by congr 1; omega, rfl⟩)
def icL (h : AHeap) (t : ByteArray) (z : Nat) : LSpec where
  ι := Nat × OX Sh.str.T
  κ := OX Sh.str.T
  I := fun i => (0 < z ∧ z ≤ 500 ∧ t.size ≤ 20000) ∧ i.1 ≤ chunkN t z ∧ OXok Sh.str h i.2 ∧ i.2.xs = chunkL t z i.1
  μ := fun i => chunkN t z - i.1
  head := fun i => ⟨[(0, .string (t.extract (cutC t z i.1) t.size)), (1, .int .i64 z), (5, .slice i.2.a i.2.xs.length i.2.c)], [], i.2.g⟩
  post := fun o => ⟨[(5, .slice o.a o.xs.length o.c)], [], o.g⟩
  R := fun _ o => OXok Sh.str h o ∧ o.xs = chunkL t z (chunkN t z)
  ret := fun _ _ _ => False
def scL' (h : AHeap) (t : ByteArray) (z : Nat) : LSpec where
  ι := Nat × OX Sh.str.T
  κ := OX Sh.str.T
  I := fun i => (0 < z ∧ z ≤ 500 ∧ t.size ≤ 20000) ∧ i.1 ≤ chunkN t z ∧ OXok Sh.str h i.2 ∧ i.2.xs = chunkL t z i.1
  μ := fun i => chunkN t z - i.1
  head := fun i => ⟨[(0, .string t), (1, .int .i64 z), (5, .slice i.2.a i.2.xs.length i.2.c), (6, .int .i64 ((i.1 * z : Nat) : Int))], [], i.2.g⟩
  post := fun o => ⟨[(5, .slice o.a o.xs.length o.c)], [], o.g⟩
  R := fun _ o => OXok Sh.str h o ∧ o.xs = chunkL t z (chunkN t z)
  ret := fun _ _ _ => False
theorem implChunksOf_spec (h : AHeap) (hw : h.wf) (t : ByteArray) (size : Int) :
    ∃ r h', ACall Try.prog 13 [.string t, .int .i64 size] h r h' ∧ ∃ o : OX Sh.str.T, r = .slice o.a o.xs.length o.c ∧ h' = o.g ∧ OXok Sh.str h o ∧ o.xs = chunksM t size := by
  refine acall_q fun Q HQ => ?_
  refine acall_vc (fun _ => false) (fun _ => []) (fun _ => icL h t size.toNat) mixed Try.func13 rfl rfl rfl (Nat.le_of_ble_eq_true rfl) ?_ ?_
  · refine vc_mp (by kernel_rfl : (True ∧ (True ∧ (True ∧ True) ∧ True) ∧ True ∧ ((∀ (i : Nat × OX (Sh.T Sh.str)), ((0 : Nat) < Int.toNat size ∧ Int.toNat size ≤ (500 : Nat) ∧ ByteArray.size t ≤ (20000 : Nat)) ∧ Prod.fst i ≤ chunkN t (Int.toNat size) ∧ OXok Sh.str h (Prod.snd i) ∧ OX.xs (Prod.snd i) = chunkL t (Int.toNat size) (Prod.fst i) → bs (!decide (ByteArray.extract t (cutC t (Int.toNat size) (Prod.fst i)) (ByteArray.size t) = ByteArray.mk (Array.mk []))) ((0 : Int) ≤ (0 : Int) ∧ ((0 : Int) ≤ if (↑(ByteArray.size (ByteArray.extract t (cutC t (Int.toNat size) (Prod.fst i)) (ByteArray.size t))) : Int) < (↑(Int.toNat size) : Int) then (↑(ByteArray.size (ByteArray.extract t (cutC t (Int.toNat size) (Prod.fst i)) (ByteArray.size t))) : Int) else (↑(Int.toNat size) : Int)) ∧ (if (↑(ByteArray.size (ByteArray.extract t (cutC t (Int.toNat size) (Prod.fst i)) (ByteArray.size t))) : Int) < (↑(Int.toNat size) : Int) then (↑(ByteArray.size (ByteArray.extract t (cutC t (Int.toNat size) (Prod.fst i)) (ByteArray.size t))) : Int) else (↑(Int.toNat size) : Int)) ≤ (↑(ByteArray.size (ByteArray.extract t (cutC t (Int.toNat size) (Prod.fst i)) (ByteArray.size t))) : Int) ∧ ∃ (xs : List (List Value)), rowsV (AHeap.push (OX.g (Prod.snd i)) (AObj.mk [[Value.string (ByteArray.extract (ByteArray.extract t (cutC t (Int.toNat size) (Prod.fst i)) (ByteArray.size t)) (Int.toNat (0 : Int)) (Int.toNat (if (↑(ByteArray.size (ByteArray.extract t (cutC t (Int.toNat size) (Prod.fst i)) (ByteArray.size t))) : Int) < (↑(Int.toNat size) : Int) then (↑(ByteArray.size (ByteArray.extract t (cutC t (Int.toNat size) (Prod.fst i)) (ByteArray.size t))) : Int) else (↑(Int.toNat size) : Int))))]] (1 : Nat) true)) (Value.slice (some (Addr.mk (AHeap.n (OX.g (Prod.snd i))) (0 : Nat) (some (1 : Nat)))) (1 : Nat) (2 : Nat)) = some xs ∧ (List.all xs fun (row : List Value) => decide (List.length row = (1 : Nat)) && List.all row fun (v : Value) => match v with | Value.agg cells => false | Value.tuple cells => false | Value.complex k re im => false | Value.chan r => false | x => true) = true ∧ (List.length (OX.xs (Prod.snd i)) + List.length xs) * (16 : Nat) ≤ (140737488355328 : Nat) ∧ ∃ (a : Option Addr), ∃ (n : Nat), ∃ (c : Nat), ∃ (h' : AHeap), AHeap.app (AHeap.push (OX.g (Prod.snd i)) (AObj.mk [[Value.string (ByteArray.extract (ByteArray.extract t (cutC t (Int.toNat size) (Prod.fst i)) (ByteArray.size t)) (Int.toNat (0 : Int)) (Int.toNat (if (↑(ByteArray.size (ByteArray.extract t (cutC t (Int.toNat size) (Prod.fst i)) (ByteArray.size t))) : Int) < (↑(Int.toNat size) : Int) then (↑(ByteArray.size (ByteArray.extract t (cutC t (Int.toNat size) (Prod.fst i)) (ByteArray.size t))) : Int) else (↑(Int.toNat size) : Int))))]] (1 : Nat) true)) (Value.slice (OX.a (Prod.snd i)) (List.length (OX.xs (Prod.snd i))) (OX.c (Prod.snd i))) xs (1 : Nat) = some (Value.slice a n c, h') ∧ ((0 : Int) ≤ if (↑(ByteArray.size (ByteArray.extract t (cutC t (Int.toNat size) (Prod.fst i)) (ByteArray.size t))) : Int) < (↑(Int.toNat size) : Int) then (↑(ByteArray.size (ByteArray.extract t (cutC t (Int.toNat size) (Prod.fst i)) (ByteArray.size t))) : Int) else (↑(Int.toNat size) : Int)) ∧ (if (↑(ByteArray.size (ByteArray.extract t (cutC t (Int.toNat size) (Prod.fst i)) (ByteArray.size t))) : Int) < (↑(Int.toNat size) : Int) then (↑(ByteArray.size (ByteArray.extract t (cutC t (Int.toNat size) (Prod.fst i)) (ByteArray.size t))) : Int) else (↑(Int.toNat size) : Int)) ≤ (↑(ByteArray.size (ByteArray.extract t (cutC t (Int.toNat size) (Prod.fst i)) (ByteArray.size t))) : Int) ∧ (↑(ByteArray.size (ByteArray.extract t (cutC t (Int.toNat size) (Prod.fst i)) (ByteArray.size t))) : Int) ≤ (↑(ByteArray.size (ByteArray.extract t (cutC t (Int.toNat size) (Prod.fst i)) (ByteArray.size t))) : Int) ∧ ∃ (j : Nat × OX (Sh.T Sh.str)), Value.string (ByteArray.extract (ByteArray.extract t (cutC t (Int.toNat size) (Prod.fst i)) (ByteArray.size t)) (Int.toNat (if (↑(ByteArray.size (ByteArray.extract t (cutC t (Int.toNat size) (Prod.fst i)) (ByteArray.size t))) : Int) < (↑(Int.toNat size) : Int) then (↑(ByteArray.size (ByteArray.extract t (cutC t (Int.toNat size) (Prod.fst i)) (ByteArray.size t))) : Int) else (↑(Int.toNat size) : Int))) (Int.toNat (↑(ByteArray.size (ByteArray.extract t (cutC t (Int.toNat size) (Prod.fst i)) (ByteArray.size t))) : Int))) = Value.string (ByteArray.extract t (cutC t (Int.toNat size) (Prod.fst j)) (ByteArray.size t)) ∧ Value.int IntKind.i64 (↑(Int.toNat size) : Int) = Value.int IntKind.i64 (↑(Int.toNat size) : Int) ∧ Value.slice a n c = Value.slice (OX.a (Prod.snd j)) (List.length (OX.xs (Prod.snd j))) (OX.c (Prod.snd j)) ∧ OX.g (Prod.snd j) = h' ∧ (((0 : Nat) < Int.toNat size ∧ Int.toNat size ≤ (500 : Nat) ∧ ByteArray.size t ≤ (20000 : Nat)) ∧ Prod.fst j ≤ chunkN t (Int.toNat size) ∧ OXok Sh.str h (Prod.snd j) ∧ OX.xs (Prod.snd j) = chunkL t (Int.toNat size) (Prod.fst j)) ∧ chunkN t (Int.toNat size) - Prod.fst j < chunkN t (Int.toNat size) - Prod.fst i ∧ (∀ (k : OX (Sh.T Sh.str)), OXok Sh.str h k ∧ OX.xs k = chunkL t (Int.toNat size) (chunkN t (Int.toNat size)) → OXok Sh.str h k ∧ OX.xs k = chunkL t (Int.toNat size) (chunkN t (Int.toNat size))) ∧ ∀ (v : Value) (h : AHeap), False → False) (∃ (j : OX (Sh.T Sh.str)), Value.slice (OX.a (Prod.snd i)) (List.length (OX.xs (Prod.snd i))) (OX.c (Prod.snd i)) = Value.slice (OX.a j) (List.length (OX.xs j)) (OX.c j) ∧ OX.g j = OX.g (Prod.snd i) ∧ OXok Sh.str h j ∧ OX.xs j = chunkL t (Int.toNat size) (chunkN t (Int.toNat size)))) ∧ (True ∧ True ∧ True) ∧ True ∧ True) ∧ True ∧ True) = _) ?_
    simp only [true_and, and_true]
    rintro ⟨i, o⟩ ⟨⟨hz, hz5, ht⟩, hi, B, hx⟩
    dsimp only at *
    have c := cut_le (t := t) (z := size.toNat) (i := i)
    have cl := chunkN_le (t := t) hz
    have len : o.xs.length = i := by rw [hx]; exact chunkL_len i
    have hm : (if ((t.extract (cutC t size.toNat i) t.size).size : Int) < (size.toNat : Int) then ((t.extract (cutC t size.toNat i) t.size).size : Int) else (size.toNat : Int)) = ((cutC t size.toNat (i + 1) - cutC t size.toNat i : Nat) : Int) := by
      rw [ext_sz]
      unfold cutC at *
      rw [Nat.add_mul, Nat.one_mul] at *
      split <;> omega
    rw [hm]
    refine bs_dn (fun hne => ?_) (fun heq => ⟨o, rfl, rfl, B, ?_⟩)
    · have hlt : i * size.toNat < t.size := by
        by_cases e : i * size.toNat < t.size
        · exact e
        · refine absurd ?_ hne
          have e2 : cutC t size.toNat i = t.size := by unfold cutC; omega
          rw [e2]; apply ba_ext; simp
      have hk := (lt_chunkN hz).2 hlt
      obtain ⟨o', e6, B', hx', _⟩ := B.app (x := t.extract (cutC t size.toNat i) (cutC t size.toNat (i + 1))) (cs := [.string (t.extract (cutC t size.toNat i) (cutC t size.toNat (i + 1)))]) (js := []) ⟨rfl, rfl⟩ .nil (by simp)
      rw [ext_sz]
      refine ⟨by omega, by omega, by omega, ?_⟩
      rw [show (((cutC t size.toNat (i + 1) - cutC t size.toNat i : Nat) : Int)).toNat = cutC t size.toNat (i + 1) - cutC t size.toNat i from rfl, show Int.toNat 0 = 0 from rfl, ext_one hlt, show (((t.size - cutC t size.toNat i : Nat) : Int)).toNat = t.size - cutC t size.toNat i from rfl, ext_rest]
      exact ⟨_, rowsV_push, rfl, by simp only [List.length_cons, List.length_nil]; omega, _, _, _, o'.g, e6, by omega, by omega, by omega, (i + 1, o'), rfl, rfl, rfl, ⟨⟨hz, hz5, ht⟩, by dsimp only; omega, B', by dsimp only; rw [hx', hx]; rfl⟩, by dsimp only; omega, fun _ h => h, fun _ _ h => h⟩
    · have e2 : i = chunkN t size.toNat := by
        by_cases e : i < chunkN t size.toNat
        · have := (lt_chunkN hz).1 e
          have e3 := congrArg ByteArray.size heq
          rw [ext_sz] at e3
          have : t.size - cutC t size.toNat i = 0 := e3
          unfold cutC at this
          omega
        · omega
      rw [hx, e2]
  refine vc_mp (by kernel_rfl : (bs (decide ((↑(ByteArray.size t) : Int) > (20000 : Int))) (Q (Value.slice none (0 : Nat) (0 : Nat)) h) (∃ (x : Bool), ∃ (h' : AHeap), ACall Try.prog (76 : Nat) [Value.int IntKind.i64 size, Value.int IntKind.i64 (1 : Int), Value.int IntKind.i64 (500 : Int)] h (Value.bool x) h' ∧ bs (!x) (Q (Value.slice none (0 : Nat) (0 : Nat)) h') (size ≠ (0 : Int) ∧ bs (decide (IntKind.wrap IntKind.i64 (Int.tdiv (IntKind.wrap IntKind.i64 (IntKind.wrap IntKind.i64 ((↑(ByteArray.size t) : Int) + size) - (1 : Int))) size) > (400 : Int))) (Q (Value.slice none (0 : Nat) (0 : Nat)) h') (∃ (i : Nat × OX (Sh.T Sh.str)), Value.string t = Value.string (ByteArray.extract t (cutC t (Int.toNat size) (Prod.fst i)) (ByteArray.size t)) ∧ Value.int IntKind.i64 size = Value.int IntKind.i64 (↑(Int.toNat size) : Int) ∧ Value.slice none (0 : Nat) (0 : Nat) = Value.slice (OX.a (Prod.snd i)) (List.length (OX.xs (Prod.snd i))) (OX.c (Prod.snd i)) ∧ OX.g (Prod.snd i) = h' ∧ (((0 : Nat) < Int.toNat size ∧ Int.toNat size ≤ (500 : Nat) ∧ ByteArray.size t ≤ (20000 : Nat)) ∧ Prod.fst i ≤ chunkN t (Int.toNat size) ∧ OXok Sh.str h (Prod.snd i) ∧ OX.xs (Prod.snd i) = chunkL t (Int.toNat size) (Prod.fst i)) ∧ (∀ (j : OX (Sh.T Sh.str)), OXok Sh.str h j ∧ OX.xs j = chunkL t (Int.toNat size) (chunkN t (Int.toNat size)) → Q (Value.slice (OX.a j) (List.length (OX.xs j)) (OX.c j)) (OX.g j)) ∧ ∀ (v : Value) (h : AHeap), False → Q v h)))) = _) ?_
  have no : ¬ ChunkOk t size → Q (.slice none 0 0) h := fun hn => HQ _ _ ⟨⟨none, 0, [], [], h⟩, rfl, rfl, OXok.nil hw, (chunks_neg hn).symm⟩
  refine bs_d (fun e => no fun H => by have := H.1; omega) (fun e1 => ⟨_, _, within_spec size 1 500 h, bs_nb (fun hf => no fun H => ?_) (fun ht => ?_)⟩)
  · have := H.2.1
    simp only [Bool.and_eq_false_iff, decide_eq_false_iff_not] at hf
    omega
  · simp only [Bool.and_eq_true, decide_eq_true_eq] at ht
    have hz : 0 < size.toNat := by omega
    have ez : size = (size.toNat : Int) := by omega
    have e5 : IntKind.i64.wrap ((IntKind.i64.wrap (IntKind.i64.wrap ((t.size : Int) + size) - 1)).tdiv size) = (chunkN t size.toNat : Int) := by
      rw [wrap_i64 (n := (t.size : Int) + size) (by omega), wrap_i64 (n := (t.size : Int) + size - 1) (by omega)]
      rw [Int.tdiv_eq_ediv_of_nonneg (by omega)]
      have e6 : ((t.size : Int) + size - 1) / size = (chunkN t size.toNat : Int) := by
        unfold chunkN
        rw [Int.natCast_ediv, ← ez]
        congr 1; omega
      rw [e6]
      have := chunkN_le (t := t) hz
      exact wrap_i64 (by omega)
    rw [e5]
    have e4 := chunkN_lt (t := t) hz
    refine ⟨by omega, bs_d (fun e => no fun H => ?_) (fun e => ⟨(0, ⟨none, 0, [], [], h⟩), ?_, congrArg _ ez, rfl, rfl, ⟨⟨hz, by omega, by omega⟩, Nat.zero_le _, OXok.nil hw, rfl⟩, fun o ⟨B, hx⟩ => HQ _ _ ⟨o, rfl, rfl, B, ?_⟩, fun _ _ h => h.elim⟩)⟩
    · have := H.2.2
      have := e4.1 (by omega)
      omega
    · dsimp only
      unfold cutC
      rw [Nat.zero_mul, Nat.zero_min]
      congr 1; apply ba_ext; simp
    · rw [chunks_pos ⟨by omega, by omega, ?_⟩, hx]
      have : ¬ 400 < chunkN t size.toNat := by omega
      rw [e4] at this
      omega
theorem specChunksOf_spec (h : AHeap) (hw : h.wf) (t : ByteArray) (size : Int) :
    ∃ r h', ACall Try.prog 16 [.string t, .int .i64 size] h r h' ∧ ∃ o : OX Sh.str.T, r = .slice o.a o.xs.length o.c ∧ h' = o.g ∧ OXok Sh.str h o ∧ o.xs = chunksM t size := by
  refine acall_q fun Q HQ => ?_
  refine acall_vc (fun _ => false) (fun _ => []) (fun _ => scL' h t size.toNat) mixed Try.func16 rfl rfl rfl (Nat.le_of_ble_eq_true rfl) ?_ ?_
  · refine vc_mp (by kernel_rfl : (True ∧ True ∧ (True ∧ (True ∧ True) ∧ True) ∧ (True ∧ (∀ (i : Nat × OX (Sh.T Sh.str)), ((0 : Nat) < Int.toNat size ∧ Int.toNat size ≤ (500 : Nat) ∧ ByteArray.size t ≤ (20000 : Nat)) ∧ Prod.fst i ≤ chunkN t (Int.toNat size) ∧ OXok Sh.str h (Prod.snd i) ∧ OX.xs (Prod.snd i) = chunkL t (Int.toNat size) (Prod.fst i) → bs (decide ((↑(Prod.fst i * Int.toNat size) : Int) < (↑(ByteArray.size t) : Int))) (∃ (x : Int), ∃ (h' : AHeap), ACall Try.prog (78 : Nat) [Value.int IntKind.i64 (↑(ByteArray.size t) : Int), Value.int IntKind.i64 (IntKind.wrap IntKind.i64 ((↑(Prod.fst i * Int.toNat size) : Int) + (↑(Int.toNat size) : Int)))] (OX.g (Prod.snd i)) (Value.int IntKind.i64 x) h' ∧ (0 : Int) ≤ (↑(Prod.fst i * Int.toNat size) : Int) ∧ (↑(Prod.fst i * Int.toNat size) : Int) ≤ x ∧ x ≤ (↑(ByteArray.size t) : Int) ∧ ∃ (xs : List (List Value)), rowsV (AHeap.push h' (AObj.mk [[Value.string (ByteArray.extract t (Int.toNat (↑(Prod.fst i * Int.toNat size) : Int)) (Int.toNat x))]] (1 : Nat) true)) (Value.slice (some (Addr.mk (AHeap.n h') (0 : Nat) (some (1 : Nat)))) (1 : Nat) (2 : Nat)) = some xs ∧ (List.all xs fun (row : List Value) => decide (List.length row = (1 : Nat)) && List.all row fun (v : Value) => match v with | Value.agg cells => false | Value.tuple cells => false | Value.complex k re im => false | Value.chan r => false | x => true) = true ∧ (List.length (OX.xs (Prod.snd i)) + List.length xs) * (16 : Nat) ≤ (140737488355328 : Nat) ∧ ∃ (a : Option Addr), ∃ (n : Nat), ∃ (c : Nat), ∃ (h'_1 : AHeap), AHeap.app (AHeap.push h' (AObj.mk [[Value.string (ByteArray.extract t (Int.toNat (↑(Prod.fst i * Int.toNat size) : Int)) (Int.toNat x))]] (1 : Nat) true)) (Value.slice (OX.a (Prod.snd i)) (List.length (OX.xs (Prod.snd i))) (OX.c (Prod.snd i))) xs (1 : Nat) = some (Value.slice a n c, h'_1) ∧ ∃ (j : Nat × OX (Sh.T Sh.str)), Value.string t = Value.string t ∧ Value.int IntKind.i64 (↑(Int.toNat size) : Int) = Value.int IntKind.i64 (↑(Int.toNat size) : Int) ∧ Value.slice a n c = Value.slice (OX.a (Prod.snd j)) (List.length (OX.xs (Prod.snd j))) (OX.c (Prod.snd j)) ∧ Value.int IntKind.i64 (IntKind.wrap IntKind.i64 ((↑(Prod.fst i * Int.toNat size) : Int) + (↑(Int.toNat size) : Int))) = Value.int IntKind.i64 (↑(Prod.fst j * Int.toNat size) : Int) ∧ OX.g (Prod.snd j) = h'_1 ∧ (((0 : Nat) < Int.toNat size ∧ Int.toNat size ≤ (500 : Nat) ∧ ByteArray.size t ≤ (20000 : Nat)) ∧ Prod.fst j ≤ chunkN t (Int.toNat size) ∧ OXok Sh.str h (Prod.snd j) ∧ OX.xs (Prod.snd j) = chunkL t (Int.toNat size) (Prod.fst j)) ∧ chunkN t (Int.toNat size) - Prod.fst j < chunkN t (Int.toNat size) - Prod.fst i ∧ (∀ (k : OX (Sh.T Sh.str)), OXok Sh.str h k ∧ OX.xs k = chunkL t (Int.toNat size) (chunkN t (Int.toNat size)) → OXok Sh.str h k ∧ OX.xs k = chunkL t (Int.toNat size) (chunkN t (Int.toNat size))) ∧ ∀ (v : Value) (h : AHeap), False → False) (∃ (j : OX (Sh.T Sh.str)), Value.slice (OX.a (Prod.snd i)) (List.length (OX.xs (Prod.snd i))) (OX.c (Prod.snd i)) = Value.slice (OX.a j) (List.length (OX.xs j)) (OX.c j) ∧ OX.g j = OX.g (Prod.snd i) ∧ OXok Sh.str h j ∧ OX.xs j = chunkL t (Int.toNat size) (chunkN t (Int.toNat size)))) ∧ (True ∧ True ∧ True) ∧ True ∧ True) ∧ True ∧ True) = _) ?_
    simp only [true_and, and_true]
    rintro ⟨i, o⟩ ⟨⟨hz, hz5, ht⟩, hi, B, hx⟩
    dsimp only at *
    have c := cut_le (t := t) (z := size.toNat) (i := i)
    have cl := chunkN_le (t := t) hz
    have len : o.xs.length = i := by rw [hx]; exact chunkL_len i
    refine bs_d (fun hlt => ?_) (fun hge => ⟨o, rfl, rfl, B, ?_⟩)
    · have hlt : i * size.toNat < t.size := by omega
      have hk := (lt_chunkN hz).2 hlt
      have ei : cutC t size.toNat i = i * size.toNat := by unfold cutC; omega
      have em : min (t.size : Int) (IntKind.i64.wrap (((i * size.toNat : Nat) : Int) + (size.toNat : Int))) = (cutC t size.toNat (i + 1) : Int) := by
        rw [wrap_i64 (by omega)]; unfold cutC; rw [Nat.add_mul, Nat.one_mul]; omega
      have A1 := l01Min_spec o.g (t.size : Int) (IntKind.i64.wrap (((i * size.toNat : Nat) : Int) + (size.toNat : Int)))
      rw [em] at A1
      obtain ⟨o', e6, B', hx', _⟩ := B.app (x := t.extract (cutC t size.toNat i) (cutC t size.toNat (i + 1))) (cs := [.string (t.extract (cutC t size.toNat i) (cutC t size.toNat (i + 1)))]) (js := []) ⟨rfl, rfl⟩ .nil (by simp)
      refine ⟨_, _, A1, by omega, by omega, by omega, ?_⟩
      rw [show (((i * size.toNat : Nat) : Int)).toNat = cutC t size.toNat i from ei.symm, show ((cutC t size.toNat (i + 1) : Nat) : Int).toNat = cutC t size.toNat (i + 1) from rfl]
      exact ⟨_, rowsV_push, rfl, by simp only [List.length_cons, List.length_nil]; omega, _, _, _, o'.g, e6, (i + 1, o'), rfl, by dsimp only; rw [wrap_i64 (by omega), Nat.add_mul, Nat.one_mul]; rfl, rfl, ⟨⟨hz, hz5, ht⟩, by dsimp only; omega, B', by dsimp only; rw [hx', hx]; rfl⟩, by dsimp only; omega, fun _ h => h, fun _ _ h => h⟩
    · have e2 : i = chunkN t size.toNat := by
        by_cases e : i < chunkN t size.toNat
        · have := (lt_chunkN hz).1 e; omega
        · omega
      rw [hx, e2]
  refine vc_mp (by kernel_rfl : (bs (decide ((↑(ByteArray.size t) : Int) > (20000 : Int))) (Q (Value.slice (some (Addr.mk (AHeap.n h) (0 : Nat) (some (1 : Nat)))) (0 : Nat) (1 : Nat)) (AHeap.push h (AObj.mk [] (1 : Nat) true))) (∃ (x : Bool), ∃ (h' : AHeap), ACall Try.prog (77 : Nat) [Value.int IntKind.i64 size, Value.int IntKind.i64 (1 : Int), Value.int IntKind.i64 (500 : Int)] (AHeap.push h (AObj.mk [] (1 : Nat) true)) (Value.bool x) h' ∧ bs (!x) (Q (Value.slice (some (Addr.mk (AHeap.n h) (0 : Nat) (some (1 : Nat)))) (0 : Nat) (1 : Nat)) h') (bs (decide ((↑(ByteArray.size t) : Int) > IntKind.wrap IntKind.i64 (size * (400 : Int)))) (Q (Value.slice (some (Addr.mk (AHeap.n h) (0 : Nat) (some (1 : Nat)))) (0 : Nat) (1 : Nat)) h') (∃ (i : Nat × OX (Sh.T Sh.str)), Value.string t = Value.string t ∧ Value.int IntKind.i64 size = Value.int IntKind.i64 (↑(Int.toNat size) : Int) ∧ Value.slice (some (Addr.mk (AHeap.n h) (0 : Nat) (some (1 : Nat)))) (0 : Nat) (1 : Nat) = Value.slice (OX.a (Prod.snd i)) (List.length (OX.xs (Prod.snd i))) (OX.c (Prod.snd i)) ∧ Value.int IntKind.i64 (0 : Int) = Value.int IntKind.i64 (↑(Prod.fst i * Int.toNat size) : Int) ∧ OX.g (Prod.snd i) = h' ∧ (((0 : Nat) < Int.toNat size ∧ Int.toNat size ≤ (500 : Nat) ∧ ByteArray.size t ≤ (20000 : Nat)) ∧ Prod.fst i ≤ chunkN t (Int.toNat size) ∧ OXok Sh.str h (Prod.snd i) ∧ OX.xs (Prod.snd i) = chunkL t (Int.toNat size) (Prod.fst i)) ∧ (∀ (j : OX (Sh.T Sh.str)), OXok Sh.str h j ∧ OX.xs j = chunkL t (Int.toNat size) (chunkN t (Int.toNat size)) → Q (Value.slice (OX.a j) (List.length (OX.xs j)) (OX.c j)) (OX.g j)) ∧ ∀ (v : Value) (h : AHeap), False → Q v h)))) = _) ?_
  have wp := hw.push ⟨[], 1, true⟩
  have B0 : OXok Sh.str h ⟨some ⟨h.n, 0, some 1⟩, 1, [], [h.n], h.push ⟨[], 1, true⟩⟩ := SoB.flat (s := Sh.str) (g := h) rfl (AHeap.Le.push hw ⟨[], 1, true⟩) wp hw (Nat.le_refl _) rfl AHeap.get_push_eq rfl (.inr rfl) (fun i y row h1 => by cases h1)
  have no : ¬ ChunkOk t size → Q (.slice (some ⟨h.n, 0, some 1⟩) 0 1) (h.push ⟨[], 1, true⟩) := fun hn => HQ _ _ ⟨_, rfl, rfl, B0, (chunks_neg hn).symm⟩
  refine bs_d (fun e => no fun H => by have := H.1; omega) (fun e1 => ⟨_, _, l03Is_spec size 1 500 _, bs_nb (fun hf => no fun H => ?_) (fun ht => ?_)⟩)
  · have := H.2.1
    simp only [Bool.and_eq_false_iff, decide_eq_false_iff_not] at hf
    omega
  · simp only [Bool.and_eq_true, decide_eq_true_eq] at ht
    have hz : 0 < size.toNat := by omega
    have ez : size = (size.toNat : Int) := by omega
    rw [wrap_i64 (n := size * 400) (by omega)]
    refine bs_d (fun e => no fun H => by have := H.2.2; omega) (fun e => ⟨(0, _), rfl, congrArg _ ez, rfl, by dsimp only; rw [Nat.zero_mul]; rfl, rfl, ⟨⟨hz, by omega, by omega⟩, Nat.zero_le _, B0, rfl⟩, fun o ⟨B, hx⟩ => HQ _ _ ⟨o, rfl, rfl, B, ?_⟩, fun _ _ h => h.elim⟩)
    rw [chunks_pos ⟨by omega, by omega, by omega⟩, hx]
end Go.Proofs.Ytanienlcebkijaa
end
section
namespace Go.Dat
open Go.Abs
def NRow (k : IntKind) (h : AHeap) (l n : Nat) : Prop := ∃ rows, h.get l = some ⟨rows, 1, true⟩ ∧ rows.length = n ∧ ∀ row ∈ rows, ∃ x : Int, row = [.int k x]
theorem NRow.ld {k : IntKind} {h : AHeap} {l n : Nat} (r : NRow k h l n) {i : Nat} (hi : i < n) : ∃ x : Int, h.ld l i 0 1 = some [.int k x] := by
  obtain ⟨rows, hg, hl, hr⟩ := r
  have hi' : rows[i]? = some rows[i] := List.getElem?_eq_getElem (by omega)
  obtain ⟨x, hx⟩ := hr _ (List.mem_of_getElem? hi')
  refine ⟨x, ?_⟩
  unfold AHeap.ld
  rw [hg]
  dsimp only
  rw [hi', hx]; rfl
theorem NRow.wr {k : IntKind} {h : AHeap} {l n : Nat} (r : NRow k h l n) {i : Nat} (hi : i < n) (v : Int) : ∃ h', h.wr l i 0 [.int k v] = some h' ∧ NRow k h' l n ∧ h'.n = h.n ∧ ∀ x, x ≠ l → h'.get x = h.get x := by
  obtain ⟨rows, hg, hl, hr⟩ := r
  have hi' : rows[i]? = some rows[i] := List.getElem?_eq_getElem (by omega)
  obtain ⟨x, hx⟩ := hr _ (List.mem_of_getElem? hi')
  refine ⟨h.put l (some ⟨rows.set i [.int k v], 1, true⟩), ?_, ⟨_, AHeap.get_put_eq, by simp [hl], fun row hm => ?_⟩, rfl, fun y hy => AHeap.get_put_ne hy⟩
  · unfold AHeap.wr
    rw [hg]
    dsimp only
    rw [hi', hx]; rfl
  · rcases List.mem_or_eq_of_mem_set hm with hm | rfl
    · exact hr row hm
    · exact ⟨v, rfl⟩
theorem NRow.lt {k : IntKind} {h : AHeap} {l n : Nat} (r : NRow k h l n) (wf : h.wf) : l < h.n := by
  obtain ⟨rows, hg, _⟩ := r
  exact wf.lt hg
theorem NRow.le {k : IntKind} {h h' : AHeap} {l n : Nat} (r : NRow k h l n) (le : h.Le h') : NRow k h' l n := by
  obtain ⟨rows, hg, hl, hr⟩ := r
  exact ⟨rows, le.get _ _ hg, hl, hr⟩
theorem NRow.keep {k : IntKind} {h h' : AHeap} {l n : Nat} (r : NRow k h l n) (e : h'.get l = h.get l) : NRow k h' l n := by
  obtain ⟨rows, hg, hl, hr⟩ := r
  exact ⟨rows, by rw [e]; exact hg, hl, hr⟩
structure RInv (h0 h : AHeap) (a : Option Addr) (n c : Nat) (rows : List (List Value)) : Prop where
  le : h0.Le h
  wf : h.wf
  wf0 : h0.wf
  nb : rows.length = n
  at_ : (a = none ∧ n = 0 ∧ c = 0) ∨ ∃ l, a = some ⟨l, 0, some 1⟩ ∧ h0.n ≤ l ∧ h.get l = some ⟨rows, 1, true⟩ ∧ (c = 0 ∨ c = n + 1)
theorem RInv.rowsOf {h0 h : AHeap} {a : Option Addr} {n c : Nat} {rows : List (List Value)} (I : RInv h0 h a n c rows) : h.rowsOf (.slice a n c) = some rows := by
  have nb := I.nb
  rcases I.at_ with ⟨rfl, rfl, rfl⟩ | ⟨l, rfl, _, hg, _⟩
  · rw [List.eq_nil_of_length_eq_zero nb]; rfl
  · rw [get_rowsOf hg (by omega), List.drop_zero, List.take_of_length_le (by omega)]
theorem RInv.push {h0 h : AHeap} {a : Option Addr} {n c : Nat} {rows : List (List Value)} (I : RInv h0 h a n c rows) (o : AObj) : RInv h0 (h.push o) a n c rows :=
  ⟨I.le.trans (.push I.wf _), I.wf.push _, I.wf0, I.nb, I.at_.imp id fun ⟨l, e, h1, h2, h3⟩ => ⟨l, e, h1, (AHeap.Le.push I.wf o).get l _ h2, h3⟩⟩
theorem RInv.app {h0 h : AHeap} {a : Option Addr} {n c : Nat} {rows : List (List Value)} (I : RInv h0 h a n c rows) (x : List Value) (xs : List (List Value)) :
    ∃ l h', h.app (.slice a n c) (x :: xs) 1 = some (.slice (some ⟨l, 0, some 1⟩) (n + (x :: xs).length) 0, h') ∧ h0.n ≤ l ∧ RInv h0 h' (some ⟨l, 0, some 1⟩) (n + (x :: xs).length) 0 (rows ++ x :: xs) := by
  have nb := I.nb
  have hr := I.rowsOf
  have sz : (rows ++ x :: xs).length = n + (x :: xs).length := by rw [List.length_append, nb]
  unfold AHeap.app
  dsimp only
  rcases I.at_ with ⟨rfl, rfl, rfl⟩ | ⟨l, rfl, hl, hg, hc⟩
  · have e0 : rows = [] := List.eq_nil_of_length_eq_zero nb
    subst e0
    exact ⟨h.n, _, by rw [Nat.zero_add, List.nil_append], I.le.n, I.le.trans (.push I.wf _), I.wf.push _, I.wf0, sz, .inr ⟨h.n, rfl, I.le.n, AHeap.get_push_eq, .inl rfl⟩⟩
  · dsimp only
    rw [hr]
    dsimp only
    rw [beq_self_eq_true, cond_true]
    cases hcc : (c != 0 && decide (c ≤ n + (x :: xs).length)) with
    | true =>
      rw [cond_true]
      exact ⟨h.n, _, rfl, I.le.n, I.le.trans (.push I.wf _), I.wf.push _, I.wf0, sz, .inr ⟨h.n, rfl, I.le.n, AHeap.get_push_eq, .inl rfl⟩⟩
    | false =>
      rw [cond_false, hg]
      dsimp only
      have hno : (c != 0 && decide (0 + n + (x :: xs).length ≤ rows.length)) = false := by
        rw [Bool.and_eq_false_iff]; right; rw [decide_eq_false_iff_not]; simp only [List.length_cons]; omega
      rw [cond_true, hno, cond_false]
      have w2 : (h.put l none).wf := I.wf.put (I.wf.lt hg) _
      refine ⟨h.n, _, rfl, I.le.n, (I.le.put (I.wf0 l hl) none).trans (.push w2 _), w2.push _, I.wf0, sz, .inr ⟨h.n, rfl, I.le.n, ?_, .inl rfl⟩⟩
      show ((h.put l none).push _).get (h.put l none).n = _
      rw [AHeap.get_push_eq]
end Go.Dat
namespace Go.Proofs.Ytanienlcebkijaa
open Go.Abs Go.Dat
set_option maxRecDepth 100000
set_option maxHeartbeats 8000000
end Go.Proofs.Ytanienlcebkijaa
end
section
namespace Go.Dat
open Go.Abs
end Go.Dat
namespace Go.Proofs.Ytanienlcebkijaa
open Go.Abs Go.Dat
set_option maxRecDepth 100000
set_option maxHeartbeats 8000000
end Go.Proofs.Ytanienlcebkijaa
end
section
namespace Go.Dat
open Go.Abs
structure BX where
  a : Option Addr
  n : Nat
  c : Nat
  b : ByteArray
  g : AHeap
def BXok (h : AHeap) (x : BX) : Prop := BInv h x.g x.a x.n x.c x.b
theorem BInv.grow {h0 h h' : AHeap} {a : Option Addr} {n c : Nat} {b : ByteArray} (I : BInv h0 h a n c b) (le : h.Le h') (wf : h'.wf) : BInv h0 h' a n c b :=
  ⟨I.le.trans le, wf, I.wf0, I.nb, I.at_.imp id fun ⟨l, e, h1, h2, h3⟩ => ⟨l, e, h1, le.get l _ h2, h3⟩⟩
theorem BXok.app {h : AHeap} {x : BX} (I : BXok h x) (d : ByteArray) (o : AObj) : ∃ y : BX, (x.g.push o).app (.slice x.a x.n x.c) (bytesRows d) 1 = some (.slice y.a y.n y.c, y.g) ∧ BXok h y ∧ y.n = x.n + d.size := by
  obtain ⟨a', c', h', e, I'⟩ := BInv.app (BInv.push I o) d
  exact ⟨⟨a', x.n + d.size, c', x.b ++ d, h'⟩, e, I', rfl⟩
theorem rowsB (xs : List Int) (hb : ∀ x ∈ xs, 0 ≤ x ∧ x ≤ 255) : ∃ s : ByteArray, bytesRows s = xs.map (fun x => [Value.int .u8 x]) ∧ s.size = xs.length := by
  refine ⟨⟨(xs.map fun x => UInt8.ofNat x.toNat).toArray⟩, ?_, ?_⟩
  · unfold bytesRows
    simp only [List.map_map]
    refine List.map_congr_left fun x hxm => ?_
    have := hb x hxm
    simp only [Function.comp, List.cons.injEq, Value.int.injEq, true_and, and_true]
    rw [UInt8.toNat_ofNat']
    omega
  · show (List.toArray _).size = _
    simp
theorem u8_bd (n : Int) : 0 ≤ IntKind.u8.wrap n ∧ IntKind.u8.wrap n ≤ 255 := by rw [wrap_u8]; omega
theorem rowsV_lit {g : AHeap} {rows : List (List Value)} {z n c : Nat} (hl : rows.length = n) : rowsV (g.push ⟨rows, z, true⟩) (.slice (some ⟨g.n, 0, some z⟩) n c) = some rows := by
  unfold rowsV
  dsimp only
  rw [get_rowsOf AHeap.get_push_eq (by simp; omega), List.drop_zero, List.take_of_length_le (by omega)]
theorem BXok.lit {h : AHeap} {x : BX} (B : BXok h x) (xs : List Int) (hb : ∀ v ∈ xs, 0 ≤ v ∧ v ≤ 255) : ∃ y : BX, (x.g.push ⟨xs.map (fun v => [Value.int .u8 v]), 1, true⟩).app (.slice x.a x.n x.c) (xs.map (fun v => [Value.int .u8 v])) 1 = some (.slice y.a y.n y.c, y.g) ∧ BXok h y ∧ y.n = x.n + xs.length := by
  obtain ⟨d, hd, hs⟩ := rowsB xs hb
  obtain ⟨y, e, B', hn⟩ := B.app d ⟨bytesRows d, 1, true⟩
  rw [hd] at e
  exact ⟨y, e, B', by rw [hn, hs]⟩
end Go.Dat
namespace Go.Proofs.Ytanienlcebkijaa
open Go.Abs Go.Dat
set_option maxRecDepth 100000
set_option maxHeartbeats 8000000
end Go.Proofs.Ytanienlcebkijaa
end
section
namespace Go.Dat
open Go.Abs
end Go.Dat
namespace Go.Proofs.Ytanienlcebkijaa
open Go.Abs Go.Dat
set_option maxRecDepth 100000
set_option maxHeartbeats 4000000
end Go.Proofs.Ytanienlcebkijaa
end
section
namespace Go.Proofs.Ytanienlcebkijaa
open Go.Abs Go.Dat
set_option maxRecDepth 100000
set_option maxHeartbeats 8000000
end Go.Proofs.Ytanienlcebkijaa
end
section
namespace Go.Dat
open Go.Abs
abbrev Opn := Int × ByteArray
end Go.Dat
namespace Go.Proofs.Ytanienlcebkijaa
open Go.Abs Go.Dat
set_option maxRecDepth 100000
end Go.Proofs.Ytanienlcebkijaa
end
section
namespace Go.Dat
open Go.Abs
def opAt (os : List Opn) (i : Nat) : Opn := os.getD i (0, ⟨#[]⟩)
def badOp (os : List Opn) (i : Nat) : Prop := ¬ (0 ≤ (opAt os i).1 ∧ (opAt os i).1 ≤ 3) ∨ (0 < i ∧ (opAt os (i - 1)).1 ≥ (opAt os i).1) ∨ (opAt os i).2.size ≠ 32
instance (os : List Opn) (i : Nat) : Decidable (badOp os i) := by unfold badOp; exact inferInstance
end Go.Dat
namespace Go.Proofs.Ytanienlcebkijaa
open Go.Abs Go.Dat
set_option maxRecDepth 100000
end Go.Proofs.Ytanienlcebkijaa
end
section
namespace Go.Dat
open Go.Abs
end Go.Dat
namespace Go.Proofs.Ytanienlcebkijaa
open Go.Abs Go.Dat
set_option maxRecDepth 100000
end Go.Proofs.Ytanienlcebkijaa
end
section
namespace Go.Dat
open Go.Abs
end Go.Dat
namespace Go.Proofs.Ytanienlcebkijaa
open Go.Abs Go.Dat
set_option maxRecDepth 100000
end Go.Proofs.Ytanienlcebkijaa
end
section
namespace Go.Dat
open Go.Abs
theorem flat_rows {h : AHeap} {s : Sh} {xs : List s.T} {a : Option Addr} {n c : Nat} {f : s.T → List Value} (hf : ∀ x cs, s.rd h x cs → cs = f x) (hx : Sl h s xs (.slice a n c)) : h.rowsOf (.slice a n c) = some (xs.map f) := by
  obtain ⟨a', n', c', rows, e, h1, h2, h3, h4⟩ := hx
  cases e
  rw [h2]
  have hl := rowsOf_len h1 h2
  congr 1
  apply List.ext_getElem?
  intro i
  rw [List.getElem?_map]
  cases hi : xs[i]? with
  | none =>
    have : xs.length ≤ i := by simpa using hi
    rw [List.getElem?_eq_none (by omega)]; rfl
  | some x =>
    have hlt := (List.getElem?_eq_some_iff.1 hi).1
    have hr : rows[i]? = some rows[i] := List.getElem?_eq_getElem (by omega)
    rw [hr, hf x _ (h4 i x _ hi hr)]; rfl
end Go.Dat
namespace Go.Proofs.Ytanienlcebkijaa
open Go.Abs Go.Dat
set_option maxRecDepth 100000
end Go.Proofs.Ytanienlcebkijaa
end
