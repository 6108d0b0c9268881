/- Y6, Y7. -/
import Derived.Test.YtanienlcebkijaaV14J2
import Derived.Test.YtanienlcebkijaaV14C8
section
namespace Go.Dat
open Go.Abs
theorem bytes_text {g : AHeap} {xs : List Int} {a : Option Addr} {n c : Nat} (hx : Sl g Sh.byte xs (.slice a n c)) (hb : ∀ x ∈ xs, 0 ≤ x ∧ x ≤ 255) : ∃ s : ByteArray, g.rowsOf (.slice a n c) = some (bytesRows s) ∧ s.size = n := by
  have en := hx.len
  obtain ⟨t, h1, h2⟩ := rowsB xs hb
  exact ⟨t, by rw [h1]; exact flat_rows (s := Sh.byte) (f := fun x => [Value.int .u8 x]) (fun x cs hc => hc) hx, by rw [h2, en]⟩
theorem lit_at {g : AHeap} {l : Nat} {xs : List Int} {i : Nat} (hg : g.get l = some ⟨xs.map (fun v => [Value.int .i64 v]), 1, true⟩) (hi : i < xs.length) : ∃ v ∈ xs, g.ld l i 0 1 = some [.int .i64 v] := by
  refine ⟨xs[i], List.getElem_mem hi, ?_⟩
  unfold AHeap.ld
  rw [hg]
  dsimp only
  rw [List.getElem?_map, List.getElem?_eq_getElem hi]; rfl
theorem zeros_at {g : AHeap} {l n c : Nat} (hg : g.get l = some ⟨List.replicate n [Value.int .u8 (Int.ofNat 0)], 1, true⟩) : g.rowsOf (.slice (some ⟨l, 0, some 1⟩) n c) = some (bytesRows ⟨Array.replicate n 0⟩) := by
  rw [get_rowsOf hg (by simp), List.drop_zero, List.take_of_length_le (by simp)]
  unfold bytesRows; simp
theorem sl_text {h : AHeap} (x : ByteArray) (c : Nat) : Sl (h.push ⟨bytesRows x, 1, true⟩) Sh.byte (x.data.toList.map fun b => (b.toNat : Int)) (.slice (some ⟨h.n, 0, some 1⟩) x.size c) := by
  have e : (bytesRows x).length = x.size := bytesRows_len x
  refine ⟨_, _, _, bytesRows x, rfl, .inr ⟨h.n, 0, rfl⟩, ?_, by rw [← e]; unfold bytesRows; rw [List.length_map, List.length_map], fun i y row h1 h2 => ?_⟩
  · show (h.push _).rowsOf (.slice (some ⟨h.n, 0, some 1⟩) x.size c) = _
    rw [get_rowsOf AHeap.get_push_eq (by omega), List.drop_zero, List.take_of_length_le (by omega)]
  · unfold bytesRows at h2
    rw [List.getElem?_map] at h1 h2
    cases hb : x.data.toList[i]? with
    | none => rw [hb] at h1; cases h1
    | some b =>
      rw [hb] at h1 h2
      cases h1; cases h2; rfl
theorem text_ok {x : ByteArray} (hx : x.size ≤ 9223372036854775807) : (Sh.sl Sh.byte).ok (x.data.toList.map fun b => (b.toNat : Int)) := by
  have e : (bytesRows x).length = x.size := bytesRows_len x
  have e2 : (bytesRows x).length = x.data.toList.length := by unfold bytesRows; rw [List.length_map]
  refine ⟨by rw [List.length_map]; omega, fun y hy => ?_⟩
  obtain ⟨b, _, rfl⟩ := List.mem_map.1 hy
  have := b.toNat_lt
  show 0 ≤ (b.toNat : Int) ∧ (b.toNat : Int) ≤ 255
  omega
theorem SoB.rebase' {s : Sh} {n0 : Nat} {h0 h : AHeap} {a : Option Addr} {n c : Nat} {xs : List s.T} {ids : List Nat} (B : SoB s h0 h a n c xs ids) (e : n0 = h0.n) : SoB s (E0 n0) h a n c xs ids := by
  subst e
  exact ⟨E0.le B.le.n, B.wf, E0.wf, B.len, B.fr, B.at_⟩
theorem cat_chunks {t : ByteArray} {size : Int} : (cat (chunksM t size)).size ≤ t.size ∧ (chunksM t size).length ≤ t.size := by
  by_cases h : ChunkOk t size
  · rw [chunks_pos h, chunks_join (by have := h.2.1; omega), chunkL_len]
    exact ⟨Nat.le_refl _, chunkN_le (by have := h.2.1; omega)⟩
  · rw [chunks_neg h]; exact ⟨Nat.zero_le _, Nat.zero_le _⟩
end Go.Dat
namespace Go.Proofs.Ytanienlcebkijaa
open Go.Abs Go.Dat
set_option maxRecDepth 100000
set_option maxHeartbeats 8000000
def drbL (h : AHeap) (l : Nat) (n : Int) : LSpec where
  ι := Nat × OX Sh.byte.T
  κ := OX Sh.byte.T
  I := fun i => (i.1 : Int) ≤ n ∧ DL Sh.byte h l i.2 ∧ i.2.xs.length = i.1 ∧ ∀ x ∈ i.2.xs, 0 ≤ x ∧ x ≤ 255
  μ := fun i => n.toNat - i.1
  head := fun i => ⟨[(0, .pointer (some ⟨l, 0, some 0⟩)), (1, .int .i64 n), (5, .slice i.2.a i.2.xs.length i.2.c), (6, .int .i64 i.1)], [], i.2.g⟩
  post := fun o => ⟨[(5, .slice o.a o.xs.length o.c)], [], o.g⟩
  R := fun _ o => DL Sh.byte h l o ∧ (o.xs.length : Int) = n ∧ ∀ x ∈ o.xs, 0 ≤ x ∧ x ≤ 255
  ret := fun _ _ _ => False
theorem dr_bytes (h : AHeap) (l : Nat) (s : Srz h l) (n : Int) (hn : 0 ≤ n ∧ n ≤ 100000) :
    ∃ v h', ACall Try.prog 74 [.pointer (some ⟨l, 0, some 0⟩), .int .i64 n] h v h' ∧ ∃ t : ByteArray, v = .string t ∧ (t.size : Int) = n ∧ Dr l h h' := by
  refine acall_q fun Q HQ => ?_
  refine acall_vc (fun _ => false) (fun _ => []) (fun _ => drbL h l n) mixed Try.func74 rfl rfl rfl (Nat.le_of_ble_eq_true rfl) ?_ ?_
  · refine vc_mp (by kernel_rfl : (True ∧ True ∧ (True ∧ (∀ (i : Nat × OX (Sh.T Sh.byte)), ((↑(Prod.fst i) : Int) ≤ n ∧ DL Sh.byte h l (Prod.snd i) ∧ List.length (OX.xs (Prod.snd i)) = Prod.fst i ∧ ∀ (x : Sh.T Sh.byte), x ∈ OX.xs (Prod.snd i) → (0 : Sh.T Sh.byte) ≤ x ∧ x ≤ (255 : Sh.T Sh.byte)) → bs (decide ((↑(Prod.fst i) : Int) < n)) (∃ (x : Int), ∃ (h' : AHeap), ACall Try.prog (69 : Nat) [Value.pointer (some (Addr.mk l (0 : Nat) (some (0 : Nat)))), Value.int IntKind.i64 (256 : Int)] (OX.g (Prod.snd i)) (Value.int IntKind.i64 x) h' ∧ ∃ (xs : List (List Value)), rowsV (AHeap.push h' (AObj.mk [[Value.int IntKind.u8 (IntKind.wrap IntKind.u8 x)]] (1 : Nat) true)) (Value.slice (some (Addr.mk (AHeap.n h') (0 : Nat) (some (1 : Nat)))) (1 : Nat) (2 : Nat)) = some xs ∧ (List.all xs fun (row : List Value) => decide (List.length row = (1 : Nat)) && List.all row fun (v : Value) => match v with | Value.agg cells => false | Value.tuple cells => false | Value.complex k re im => false | Value.chan r => false | x => true) = true ∧ (List.length (OX.xs (Prod.snd i)) + List.length xs) * (1 : Nat) ≤ (140737488355328 : Nat) ∧ ∃ (a : Option Addr), ∃ (n_1 : Nat), ∃ (c : Nat), ∃ (h'_1 : AHeap), AHeap.app (AHeap.push h' (AObj.mk [[Value.int IntKind.u8 (IntKind.wrap IntKind.u8 x)]] (1 : Nat) true)) (Value.slice (OX.a (Prod.snd i)) (List.length (OX.xs (Prod.snd i))) (OX.c (Prod.snd i))) xs (1 : Nat) = some (Value.slice a n_1 c, h'_1) ∧ ∃ (j : Nat × OX (Sh.T Sh.byte)), Value.pointer (some (Addr.mk l (0 : Nat) (some (0 : Nat)))) = Value.pointer (some (Addr.mk l (0 : Nat) (some (0 : Nat)))) ∧ Value.int IntKind.i64 n = Value.int IntKind.i64 n ∧ Value.slice a n_1 c = Value.slice (OX.a (Prod.snd j)) (List.length (OX.xs (Prod.snd j))) (OX.c (Prod.snd j)) ∧ Value.int IntKind.i64 (IntKind.wrap IntKind.i64 ((↑(Prod.fst i) : Int) + (1 : Int))) = Value.int IntKind.i64 (↑(Prod.fst j) : Int) ∧ OX.g (Prod.snd j) = h'_1 ∧ ((↑(Prod.fst j) : Int) ≤ n ∧ DL Sh.byte h l (Prod.snd j) ∧ List.length (OX.xs (Prod.snd j)) = Prod.fst j ∧ ∀ (x : Sh.T Sh.byte), x ∈ OX.xs (Prod.snd j) → (0 : Sh.T Sh.byte) ≤ x ∧ x ≤ (255 : Sh.T Sh.byte)) ∧ Int.toNat n - Prod.fst j < Int.toNat n - Prod.fst i ∧ (∀ (k : OX (Sh.T Sh.byte)), (DL Sh.byte h l k ∧ (↑(List.length (OX.xs k)) : Int) = n ∧ ∀ (x : Sh.T Sh.byte), x ∈ OX.xs k → (0 : Sh.T Sh.byte) ≤ x ∧ x ≤ (255 : Sh.T Sh.byte)) → DL Sh.byte h l k ∧ (↑(List.length (OX.xs k)) : Int) = n ∧ ∀ (x : Sh.T Sh.byte), x ∈ OX.xs k → (0 : Sh.T Sh.byte) ≤ x ∧ x ≤ (255 : Sh.T Sh.byte)) ∧ ∀ (v : Value) (h : AHeap), False → False) (∃ (j : OX (Sh.T Sh.byte)), Value.slice (OX.a (Prod.snd i)) (List.length (OX.xs (Prod.snd i))) (OX.c (Prod.snd i)) = Value.slice (OX.a j) (List.length (OX.xs j)) (OX.c j) ∧ OX.g j = OX.g (Prod.snd i) ∧ DL Sh.byte h l j ∧ (↑(List.length (OX.xs j)) : Int) = n ∧ ∀ (x : Sh.T Sh.byte), x ∈ OX.xs j → (0 : Sh.T Sh.byte) ≤ x ∧ x ≤ (255 : Sh.T Sh.byte))) ∧ (True ∧ True ∧ True) ∧ True ∧ True) ∧ True ∧ True) = _) ?_
    simp only [true_and, and_true]
    rintro ⟨i, o⟩ ⟨hi, D, hlen, hb⟩
    dsimp only at *
    refine bs_d (fun hlt => ?_) (fun hge => ⟨o, rfl, rfl, D, by omega, hb⟩)
    obtain ⟨r, g1, A1, r1, _, r2, d1⟩ := dr_n o.g l D.out.src 256 (by omega)
    obtain ⟨lo, o', e, ea, D', hx, _⟩ := (D.dr d1).app (x := IntKind.u8.wrap r) (cs := [.int .u8 (IntKind.u8.wrap r)]) (js := []) ⟨rfl, rfl⟩ .nil (by simp)
    have el : o'.xs.length = o.xs.length + 1 := by rw [hx]; simp
    exact ⟨_, _, A1, _, rowsV_lit rfl, rfl, by simp only [List.length_cons, List.length_nil]; omega, _, _, _, _, e, (i + 1, o'), by dsimp only; rw [ea, el], by rw [wrap_i64 (by omega)]; rfl, rfl, ⟨by dsimp only; omega, D', by dsimp only; omega, fun y hy => by
      rw [hx] at hy
      rcases List.mem_append.1 hy with hy | hy
      · exact hb y hy
      · simp only [List.mem_cons, List.not_mem_nil, or_false] at hy
        subst hy; exact u8_bd r⟩, by dsimp only; omega, fun _ h => h, fun _ _ h => h⟩
  refine vc_mp (by kernel_rfl : (∃ (i : Nat × OX (Sh.T Sh.byte)), Value.pointer (some (Addr.mk l (0 : Nat) (some (0 : Nat)))) = Value.pointer (some (Addr.mk l (0 : Nat) (some (0 : Nat)))) ∧ Value.int IntKind.i64 n = Value.int IntKind.i64 n ∧ Value.slice (some (Addr.mk (AHeap.n h) (0 : Nat) (some (1 : Nat)))) (0 : Nat) (1 : Nat) = Value.slice (OX.a (Prod.snd i)) (List.length (OX.xs (Prod.snd i))) (OX.c (Prod.snd i)) ∧ Value.int IntKind.i64 (0 : Int) = Value.int IntKind.i64 (↑(Prod.fst i) : Int) ∧ OX.g (Prod.snd i) = AHeap.push h (AObj.mk [] (1 : Nat) true) ∧ ((↑(Prod.fst i) : Int) ≤ n ∧ DL Sh.byte h l (Prod.snd i) ∧ List.length (OX.xs (Prod.snd i)) = Prod.fst i ∧ ∀ (x : Sh.T Sh.byte), x ∈ OX.xs (Prod.snd i) → (0 : Sh.T Sh.byte) ≤ x ∧ x ≤ (255 : Sh.T Sh.byte)) ∧ (∀ (j : OX (Sh.T Sh.byte)), (DL Sh.byte h l j ∧ (↑(List.length (OX.xs j)) : Int) = n ∧ ∀ (x : Sh.T Sh.byte), x ∈ OX.xs j → (0 : Sh.T Sh.byte) ≤ x ∧ x ≤ (255 : Sh.T Sh.byte)) → ∃ (s : ByteArray), AHeap.rowsOf (OX.g j) (Value.slice (OX.a j) (List.length (OX.xs j)) (OX.c j)) = some (bytesRows s) ∧ Q (Value.string s) (OX.g j)) ∧ ∀ (v : Value) (h : AHeap), False → Q v h) = _) ?_
  refine ⟨(0, ⟨some ⟨h.n, 0, some 1⟩, 1, [], [h.n], h.push ⟨[], 1, true⟩⟩), rfl, rfl, rfl, rfl, rfl, ⟨by dsimp only; omega, DL.lit s, rfl, fun y hy => by cases hy⟩, fun o ⟨D, hlen, hb⟩ => ?_, fun _ _ h => h.elim⟩
  obtain ⟨t, h1, h2⟩ := bytes_text D.sn.so.sl hb
  exact ⟨t, h1, HQ _ _ ⟨t, rfl, by omega, D.out⟩⟩
theorem dr_edge (h : AHeap) (l : Nat) (s : Srz h l) :
    ∃ v h', ACall Try.prog 75 [.pointer (some ⟨l, 0, some 0⟩)] h v h' ∧ ∃ x : Int, v = .int .i64 x ∧ (-9223372036854775808 ≤ x ∧ x ≤ 9223372036854775807) ∧ Dr l h h' := by
  refine acall_q fun Q HQ => ?_
  refine acall_vc (fun _ => false) (fun _ => []) (fun _ => .none) mixed Try.func75 rfl rfl rfl (Nat.le_of_ble_eq_true rfl) (by refine vc_mp (by kernel_rfl : (True ∧ True ∧ True) = _) ?_; simp only [and_self]) ?_
  refine vc_mp (by kernel_rfl : (∃ (x : Int), ∃ (h' : AHeap), ACall Try.prog (69 : Nat) [Value.pointer (some (Addr.mk l (0 : Nat) (some (0 : Nat)))), Value.int IntKind.i64 (14 : Int)] (AHeap.push h (AObj.mk [[Value.int IntKind.i64 (0 : Int)], [Value.int IntKind.i64 (1 : Int)], [Value.int IntKind.i64 (-1 : Int)], [Value.int IntKind.i64 (2 : Int)], [Value.int IntKind.i64 (1000 : Int)], [Value.int IntKind.i64 (1001 : Int)], [Value.int IntKind.i64 (2147483648 : Int)], [Value.int IntKind.i64 (2147483647 : Int)], [Value.int IntKind.i64 (-2147483648 : Int)], [Value.int IntKind.i64 (4611686018427387904 : Int)], [Value.int IntKind.i64 (9223372036854775807 : Int)], [Value.int IntKind.i64 (-9223372036854775808 : Int)], [Value.int IntKind.i64 (1000000 : Int)], [Value.int IntKind.i64 (1000001 : Int)]] (1 : Nat) true)) (Value.int IntKind.i64 x) h' ∧ ∃ (l : Nat), ∃ (r : Nat), some (Addr.mk (AHeap.n h) (0 : Nat) (some (1 : Nat))) = some (Addr.mk l r (some (1 : Nat))) ∧ (0 : Int) ≤ x ∧ x < (↑(14 : Nat) : Int) ∧ ∃ (x_1 : Int), AHeap.ld h' l (r + Int.toNat x) (0 : Nat) (1 : Nat) = some [Value.int IntKind.i64 x_1] ∧ Q (Value.int IntKind.i64 x_1) h') = _) ?_
  have lp := AHeap.Le.push s.wf ⟨[[.int .i64 0], [.int .i64 1], [.int .i64 (-1)], [.int .i64 2], [.int .i64 1000], [.int .i64 1001], [.int .i64 2147483648], [.int .i64 2147483647], [.int .i64 (-2147483648)], [.int .i64 4611686018427387904], [.int .i64 9223372036854775807], [.int .i64 (-9223372036854775808)], [.int .i64 1000000], [.int .i64 1000001]], 1, true⟩
  have wp := s.wf.push ⟨[[.int .i64 0], [.int .i64 1], [.int .i64 (-1)], [.int .i64 2], [.int .i64 1000], [.int .i64 1001], [.int .i64 2147483648], [.int .i64 2147483647], [.int .i64 (-2147483648)], [.int .i64 4611686018427387904], [.int .i64 9223372036854775807], [.int .i64 (-9223372036854775808)], [.int .i64 1000000], [.int .i64 1000001]], 1, true⟩
  have d0 := Dr.of s lp wp
  obtain ⟨r, g1, A1, r1, _, r2, d1⟩ := dr_n _ l d0.src 14 (by omega)
  have r2 := r2 (by omega)
  have hg := d1.kp.get h.n _ (by have := s.lt; simp; omega) AHeap.get_push_eq
  obtain ⟨v, hv, hld⟩ := lit_at (xs := [0, 1, -1, 2, 1000, 1001, 2147483648, 2147483647, -2147483648, 4611686018427387904, 9223372036854775807, -9223372036854775808, 1000000, 1000001]) hg (i := r.toNat) (by simp only [List.length_cons, List.length_nil]; omega)
  refine ⟨r, g1, A1, h.n, 0, rfl, r1, r2, v, by rw [Nat.zero_add]; exact hld, HQ _ _ ⟨v, rfl, ?_, d0.trans d1⟩⟩
  simp only [List.mem_cons, List.not_mem_nil, or_false] at hv
  omega
theorem drawChunksOf_spec (h : AHeap) (hw : h.wf) (a : Option Addr) (n c : Nat) (bytes : List Sh.byte.T) (hx : Sl h Sh.byte bytes (.slice a n c)) (ok : (Sh.sl Sh.byte).ok bytes) :
    ∃ v h', ACall Try.prog 12 [.slice a n c] h v h' ∧ h.Le h' ∧ h'.wf ∧ ∃ (t : ByteArray) (size : Int), v = .tuple #[.string t, .int .i64 size] ∧ t.size ≤ 1000 ∧ (-9223372036854775808 ≤ size ∧ size ≤ 9223372036854775807) := by
  obtain ⟨h1, A1, le1, w1, z1⟩ := dr_new h hw a n c bytes hx ok
  refine acall_q fun Q HQ => ?_
  refine acall_vc (fun _ => false) (fun r => match r with | 4 => [(0, 0, []), (5, 0, []), (8, 0, []), (1, 3, []), (2, 0, []), (3, 2, []), (4, 1, []), (6, 3, [3, 4]), (7, 2, [3, 4]), (9, 3, [3, 4, 7]), (10, 0, []), (12, 0, []), (11, 1, []), (13, 0, [])] | _ => []) (fun _ => .none) mixed Try.func12 rfl rfl rfl (Nat.le_of_ble_eq_true rfl) (by refine vc_mp (by kernel_rfl : (True ∧ True ∧ True ∧ (True ∧ (True ∧ True) ∧ True) ∧ True ∧ True) = _) ?_; simp only [and_self]) ?_
  refine vc_mp (by kernel_rfl : (∃ (a_1 : Option Addr), ∃ (h' : AHeap), ACall Try.prog (65 : Nat) [Value.slice a n c] h (Value.pointer a_1) h' ∧ ∃ (x : Int), ∃ (h'_1 : AHeap), ACall Try.prog (69 : Nat) [Value.pointer a_1, Value.int IntKind.i64 (30 : Int)] h' (Value.int IntKind.i64 x) h'_1 ∧ ∃ (x_1 : ByteArray), ∃ (h' : AHeap), ACall Try.prog (74 : Nat) [Value.pointer a_1, Value.int IntKind.i64 x] h'_1 (Value.string x_1) h' ∧ ∃ (x : Bool), ∃ (h'_2 : AHeap), ACall Try.prog (66 : Nat) [Value.pointer a_1, Value.int IntKind.i64 (8 : Int)] h' (Value.bool x) h'_2 ∧ bs x (∃ (x : Int), ∃ (h' : AHeap), ACall Try.prog (69 : Nat) [Value.pointer a_1, Value.int IntKind.i64 (4 : Int)] h'_2 (Value.int IntKind.i64 x) h' ∧ (0 : Int) ≤ IntKind.wrap IntKind.i64 ((399 : Int) + x) ∧ IntKind.wrap IntKind.i64 ((399 : Int) + x) ≤ IntKind.wrap IntKind.i64 ((399 : Int) + x) ∧ IntKind.wrap IntKind.i64 ((399 : Int) + x) * (↑(1 : Nat) : Int) ≤ (140737488355328 : Int) ∧ ∃ (s : ByteArray), AHeap.rowsOf (AHeap.push h' (AObj.mk (List.replicate (Int.toNat (IntKind.wrap IntKind.i64 ((399 : Int) + x))) [Value.int IntKind.u8 (Int.ofNat (0 : Nat))]) (1 : Nat) true)) (Value.slice (some (Addr.mk (AHeap.n h') (0 : Nat) (some (1 : Nat)))) (Int.toNat (IntKind.wrap IntKind.i64 ((399 : Int) + x))) (Int.toNat (IntKind.wrap IntKind.i64 ((399 : Int) + x)) + (1 : Nat))) = some (bytesRows s) ∧ ∃ (x_2 : Int), ∃ (h'_3 : AHeap), ACall Try.prog (75 : Nat) [Value.pointer a_1] (AHeap.push h' (AObj.mk (List.replicate (Int.toNat (IntKind.wrap IntKind.i64 ((399 : Int) + x))) [Value.int IntKind.u8 (Int.ofNat (0 : Nat))]) (1 : Nat) true)) (Value.int IntKind.i64 x_2) h'_3 ∧ (∃ (s_1 : ByteArray), AHeap.rowsOf h'_3 (Value.slice (some (Addr.mk (AHeap.n h') (0 : Nat) (some (1 : Nat)))) (Int.toNat (IntKind.wrap IntKind.i64 ((399 : Int) + x))) (Int.toNat (IntKind.wrap IntKind.i64 ((399 : Int) + x)) + (1 : Nat))) = some (bytesRows s_1) ∧ Value.string s_1 = Value.string s) ∧ (AHeap.get h'_3 (AHeap.n h') = AHeap.get (AHeap.push h' (AObj.mk (List.replicate (Int.toNat (IntKind.wrap IntKind.i64 ((399 : Int) + x))) [Value.int IntKind.u8 (Int.ofNat (0 : Nat))]) (1 : Nat) true)) (AHeap.n h') ∧ AHeap.n (AHeap.push h' (AObj.mk (List.replicate (Int.toNat (IntKind.wrap IntKind.i64 ((399 : Int) + x))) [Value.int IntKind.u8 (Int.ofNat (0 : Nat))]) (1 : Nat) true)) ≤ AHeap.n h'_3) ∧ (∃ (s_1 : ByteArray), AHeap.rowsOf (AHeap.push h'_3 (AObj.mk [[Value.int IntKind.i64 (0 : Int)], [Value.int IntKind.i64 (1 : Int)], [Value.int IntKind.i64 (500 : Int)], [Value.int IntKind.i64 (501 : Int)], [Value.int IntKind.i64 x_2]] (1 : Nat) true)) (Value.slice (some (Addr.mk (AHeap.n h') (0 : Nat) (some (1 : Nat)))) (Int.toNat (IntKind.wrap IntKind.i64 ((399 : Int) + x))) (Int.toNat (IntKind.wrap IntKind.i64 ((399 : Int) + x)) + (1 : Nat))) = some (bytesRows s_1) ∧ Value.string s_1 = Value.string s) ∧ (AHeap.get (AHeap.push h'_3 (AObj.mk [[Value.int IntKind.i64 (0 : Int)], [Value.int IntKind.i64 (1 : Int)], [Value.int IntKind.i64 (500 : Int)], [Value.int IntKind.i64 (501 : Int)], [Value.int IntKind.i64 x_2]] (1 : Nat) true)) (AHeap.n h') = AHeap.get h'_3 (AHeap.n h') ∧ AHeap.n h'_3 ≤ AHeap.n (AHeap.push h'_3 (AObj.mk [[Value.int IntKind.i64 (0 : Int)], [Value.int IntKind.i64 (1 : Int)], [Value.int IntKind.i64 (500 : Int)], [Value.int IntKind.i64 (501 : Int)], [Value.int IntKind.i64 x_2]] (1 : Nat) true))) ∧ ∃ (x_3 : Int), ∃ (h'_4 : AHeap), ACall Try.prog (69 : Nat) [Value.pointer a_1, Value.int IntKind.i64 (5 : Int)] (AHeap.push h'_3 (AObj.mk [[Value.int IntKind.i64 (0 : Int)], [Value.int IntKind.i64 (1 : Int)], [Value.int IntKind.i64 (500 : Int)], [Value.int IntKind.i64 (501 : Int)], [Value.int IntKind.i64 x_2]] (1 : Nat) true)) (Value.int IntKind.i64 x_3) h'_4 ∧ (AHeap.get h'_4 (AHeap.n h'_3) = AHeap.get (AHeap.push h'_3 (AObj.mk [[Value.int IntKind.i64 (0 : Int)], [Value.int IntKind.i64 (1 : Int)], [Value.int IntKind.i64 (500 : Int)], [Value.int IntKind.i64 (501 : Int)], [Value.int IntKind.i64 x_2]] (1 : Nat) true)) (AHeap.n h'_3) ∧ AHeap.n (AHeap.push h'_3 (AObj.mk [[Value.int IntKind.i64 (0 : Int)], [Value.int IntKind.i64 (1 : Int)], [Value.int IntKind.i64 (500 : Int)], [Value.int IntKind.i64 (501 : Int)], [Value.int IntKind.i64 x_2]] (1 : Nat) true)) ≤ AHeap.n h'_4) ∧ (∃ (s_1 : ByteArray), AHeap.rowsOf h'_4 (Value.slice (some (Addr.mk (AHeap.n h') (0 : Nat) (some (1 : Nat)))) (Int.toNat (IntKind.wrap IntKind.i64 ((399 : Int) + x))) (Int.toNat (IntKind.wrap IntKind.i64 ((399 : Int) + x)) + (1 : Nat))) = some (bytesRows s_1) ∧ Value.string s_1 = Value.string s) ∧ (AHeap.get h'_4 (AHeap.n h') = AHeap.get (AHeap.push h'_3 (AObj.mk [[Value.int IntKind.i64 (0 : Int)], [Value.int IntKind.i64 (1 : Int)], [Value.int IntKind.i64 (500 : Int)], [Value.int IntKind.i64 (501 : Int)], [Value.int IntKind.i64 x_2]] (1 : Nat) true)) (AHeap.n h') ∧ AHeap.n (AHeap.push h'_3 (AObj.mk [[Value.int IntKind.i64 (0 : Int)], [Value.int IntKind.i64 (1 : Int)], [Value.int IntKind.i64 (500 : Int)], [Value.int IntKind.i64 (501 : Int)], [Value.int IntKind.i64 x_2]] (1 : Nat) true)) ≤ AHeap.n h'_4) ∧ ∃ (l : Nat), ∃ (r : Nat), some (Addr.mk (AHeap.n h'_3) (0 : Nat) (some (1 : Nat))) = some (Addr.mk l r (some (1 : Nat))) ∧ (0 : Int) ≤ x_3 ∧ x_3 < (↑(5 : Nat) : Int) ∧ ∃ (x : Int), AHeap.ld h'_4 l (r + Int.toNat x_3) (0 : Nat) (1 : Nat) = some [Value.int IntKind.i64 x] ∧ Q (Value.tuple (Array.mk [Value.string s, Value.int IntKind.i64 x])) h'_4) (∃ (x : Int), ∃ (h' : AHeap), ACall Try.prog (69 : Nat) [Value.pointer a_1, Value.int IntKind.i64 (9 : Int)] h'_2 (Value.int IntKind.i64 x) h' ∧ Q (Value.tuple (Array.mk [Value.string x_1, Value.int IntKind.i64 (IntKind.wrap IntKind.i64 ((1 : Int) + x))])) h')) = _) ?_
  obtain ⟨r1, g1, B1, b1, _, c1, d1⟩ := dr_n h1 h.n z1 30 (by omega)
  have c1 := c1 (by omega)
  obtain ⟨_, g2, B2, t, rfl, ht, d2⟩ := dr_bytes g1 h.n d1.src r1 (by omega)
  obtain ⟨b, g3, B3, d3⟩ := dr_one g2 h.n d2.src 8 (by omega)
  have d13 := (d1.trans d2).trans d3
  refine ⟨_, _, A1, _, _, B1, _, _, B2, _, _, B3, bs_of (fun _ => ?_) (fun _ => ?_)⟩
  · obtain ⟨r4, g4, B4, b4, _, c4, d4⟩ := dr_n g3 h.n d3.src 4 (by omega)
    have c4 := c4 (by omega)
    refine ⟨_, _, B4, ?_⟩
    rw [wrap_i64 (n := 399 + r4) (by omega)]
    have lp4 := AHeap.Le.push d4.wf ⟨List.replicate (399 + r4).toNat [Value.int .u8 (Int.ofNat 0)], 1, true⟩
    have wp4 := d4.wf.push ⟨List.replicate (399 + r4).toNat [Value.int .u8 (Int.ofNat 0)], 1, true⟩
    have d5 := d4.le lp4 wp4
    obtain ⟨_, g6, B6, x, rfl, hx6, d6⟩ := dr_edge _ h.n d5.src
    have q6 := d6.kp.get g4.n _ (by have := d4.src.lt; simp; omega) AHeap.get_push_eq
    have lp6 := AHeap.Le.push d6.wf ⟨[[.int .i64 0], [.int .i64 1], [.int .i64 500], [.int .i64 501], [.int .i64 x]], 1, true⟩
    have wp6 := d6.wf.push ⟨[[.int .i64 0], [.int .i64 1], [.int .i64 500], [.int .i64 501], [.int .i64 x]], 1, true⟩
    have d7 := d6.le lp6 wp6
    have q7 := lp6.get g4.n _ q6
    obtain ⟨r8, g8, B8, b8, _, c8, d8⟩ := dr_n _ h.n d7.src 5 (by omega)
    have c8 := c8 (by omega)
    have q8 := d8.kp.get g4.n _ (by have := d4.src.lt; simp; omega) q7
    have p8 := d8.kp.get g6.n _ (by have := d6.src.lt; simp; omega) AHeap.get_push_eq
    obtain ⟨v, hv, hld⟩ := lit_at (xs := [0, 1, 500, 501, x]) p8 (i := r8.toNat) (by simp only [List.length_cons, List.length_nil]; omega)
    have dt := ((d13.trans d5).trans d7).trans d8
    refine ⟨by omega, by omega, by omega, _, zeros_at AHeap.get_push_eq, _, _, B6, ⟨_, zeros_at q6, rfl⟩, ⟨q6.trans AHeap.get_push_eq.symm, d6.kp.n⟩, ⟨_, zeros_at q7, rfl⟩, ⟨q7.trans q6.symm, lp6.n⟩, _, _, B8, ?_⟩
    refine ⟨⟨p8.trans AHeap.get_push_eq.symm, d8.kp.n⟩, ⟨_, zeros_at q8, rfl⟩, ⟨q8.trans q7.symm, d8.kp.n⟩, g6.n, 0, rfl, b8, c8, v, by rw [Nat.zero_add]; exact hld, HQ _ _ ⟨dt.top hw le1 (Nat.le_refl _), dt.wf, _, v, rfl, ?_, ?_⟩⟩
    · show (Array.replicate _ (0 : UInt8)).size ≤ 1000
      rw [Array.size_replicate]; omega
    · simp only [List.mem_cons, List.not_mem_nil, or_false] at hv
      omega
  · obtain ⟨r4, g4, B4, b4, _, c4, d4⟩ := dr_n g3 h.n d3.src 9 (by omega)
    have c4 := c4 (by omega)
    have dt := d13.trans d4
    refine ⟨_, _, B4, HQ _ _ ⟨dt.top hw le1 (Nat.le_refl _), dt.wf, t, _, rfl, by omega, ?_⟩⟩
    rw [wrap_i64 (by omega)]; omega
theorem drawChunksJoin_spec (h : AHeap) (hw : h.wf) (a : Option Addr) (n c : Nat) (bytes : List Sh.byte.T) (hx : Sl h Sh.byte bytes (.slice a n c)) (ok : (Sh.sl Sh.byte).ok bytes) :
    ∃ v h', ACall Try.prog 14 [.slice a n c] h v h' ∧ h.Le h' ∧ h'.wf ∧ ∃ (a2 : Option Addr) (n2 c2 : Nat) (xs : List Sh.str.T), v = .slice a2 n2 c2 ∧ Sl h' Sh.str xs (.slice a2 n2 c2) ∧ n2 ≤ 2000 ∧ (cat xs).size ≤ 100000 := by
  obtain ⟨h1, A1, le1, w1, z1⟩ := dr_new h hw a n c bytes hx ok
  refine acall_q fun Q HQ => ?_
  refine acall_vc (fun _ => false) (fun _ => []) (fun _ => .none) mixed Try.func14 rfl rfl rfl (Nat.le_of_ble_eq_true rfl) (by refine vc_mp (by kernel_rfl : (True ∧ True ∧ True ∧ True ∧ (True ∧ True ∧ True) ∧ True ∧ True) = _) ?_; simp only [and_self]) ?_
  refine vc_mp (by kernel_rfl : (∃ (a_1 : Option Addr), ∃ (h' : AHeap), ACall Try.prog (65 : Nat) [Value.slice a n c] h (Value.pointer a_1) h' ∧ ∃ (x : ByteArray), ∃ (h'_1 : AHeap), ACall Try.prog (74 : Nat) [Value.pointer a_1, Value.int IntKind.i64 (20 : Int)] h' (Value.string x) h'_1 ∧ ∃ (x_1 : ByteArray), ∃ (x_2 : Int), ∃ (h' : AHeap), ACall Try.prog (12 : Nat) [Value.slice (some (Addr.mk (AHeap.n h'_1) (0 : Nat) (some (1 : Nat)))) (ByteArray.size x) (0 : Nat)] (AHeap.push h'_1 (AObj.mk (bytesRows x) (1 : Nat) true)) (Value.tuple (Array.mk [Value.string x_1, Value.int IntKind.i64 x_2])) h' ∧ ∃ (a : Option Addr), ∃ (n : Nat), ∃ (c : Nat), ∃ (h'_2 : AHeap), ACall Try.prog (16 : Nat) [Value.string x_1, Value.int IntKind.i64 x_2] h' (Value.slice a n c) h'_2 ∧ ∃ (x : Bool), ∃ (h' : AHeap), ACall Try.prog (66 : Nat) [Value.pointer a_1, Value.int IntKind.i64 (8 : Int)] h'_2 (Value.bool x) h' ∧ bs x (∃ (x : Int), ∃ (h'_3 : AHeap), ACall Try.prog (69 : Nat) [Value.pointer a_1, Value.int IntKind.i64 (2 : Int)] h' (Value.int IntKind.i64 x) h'_3 ∧ (0 : Int) ≤ IntKind.wrap IntKind.i64 ((500 : Int) + x) ∧ IntKind.wrap IntKind.i64 ((500 : Int) + x) ≤ IntKind.wrap IntKind.i64 ((500 : Int) + x) ∧ IntKind.wrap IntKind.i64 ((500 : Int) + x) * (↑(1 : Nat) : Int) ≤ (140737488355328 : Int) ∧ ∃ (s : ByteArray), AHeap.rowsOf (AHeap.push h'_3 (AObj.mk (List.replicate (Int.toNat (IntKind.wrap IntKind.i64 ((500 : Int) + x))) [Value.int IntKind.u8 (Int.ofNat (0 : Nat))]) (1 : Nat) true)) (Value.slice (some (Addr.mk (AHeap.n h'_3) (0 : Nat) (some (1 : Nat)))) (Int.toNat (IntKind.wrap IntKind.i64 ((500 : Int) + x))) (Int.toNat (IntKind.wrap IntKind.i64 ((500 : Int) + x)) + (1 : Nat))) = some (bytesRows s) ∧ ∃ (xs : List (List Value)), rowsV (AHeap.push (AHeap.push h'_3 (AObj.mk (List.replicate (Int.toNat (IntKind.wrap IntKind.i64 ((500 : Int) + x))) [Value.int IntKind.u8 (Int.ofNat (0 : Nat))]) (1 : Nat) true)) (AObj.mk [[Value.string s]] (1 : Nat) true)) (Value.slice (some (Addr.mk (AHeap.n (AHeap.push h'_3 (AObj.mk (List.replicate (Int.toNat (IntKind.wrap IntKind.i64 ((500 : Int) + x))) [Value.int IntKind.u8 (Int.ofNat (0 : Nat))]) (1 : Nat) true))) (0 : Nat) (some (1 : Nat)))) (1 : Nat) (2 : Nat)) = some xs ∧ (List.all xs fun (row : List Value) => decide (List.length row = (1 : Nat)) && List.all row fun (v : Value) => match v with | Value.agg cells => false | Value.tuple cells => false | Value.complex k re im => false | Value.chan r => false | x => true) = true ∧ (n + List.length xs) * (16 : Nat) ≤ (140737488355328 : Nat) ∧ ∃ (a_2 : Option Addr), ∃ (n_1 : Nat), ∃ (c_1 : Nat), ∃ (h' : AHeap), AHeap.app (AHeap.push (AHeap.push h'_3 (AObj.mk (List.replicate (Int.toNat (IntKind.wrap IntKind.i64 ((500 : Int) + x))) [Value.int IntKind.u8 (Int.ofNat (0 : Nat))]) (1 : Nat) true)) (AObj.mk [[Value.string s]] (1 : Nat) true)) (Value.slice a n c) xs (1 : Nat) = some (Value.slice a_2 n_1 c_1, h') ∧ Q (Value.slice a_2 n_1 c_1) h') (Q (Value.slice a n c) h')) = _) ?_
  obtain ⟨_, g1, B1, t, rfl, ht, d1⟩ := dr_bytes h1 h.n z1 20 (by omega)
  have lp1 := AHeap.Le.push d1.wf ⟨bytesRows t, 1, true⟩
  have wp1 := d1.wf.push ⟨bytesRows t, 1, true⟩
  obtain ⟨_, g2, B2, le2, w2, u, size, rfl, hu, hsz⟩ := drawChunksOf_spec _ wp1 _ _ 0 _ (sl_text (h := g1) t 0) (text_ok (by omega))
  have d2 := d1.le (lp1.trans le2) w2
  obtain ⟨_, _, B3, o, rfl, rfl, O, hxs⟩ := specChunksOf_spec g2 w2 u size
  have D : DL Sh.str g2 h.n o := ⟨SoB.rebase' O rfl, .of d2.src O.le O.wf⟩
  obtain ⟨b, g4, B4, d4⟩ := dr_one o.g h.n D.out.src 8 (by omega)
  have D4 := D.dr d4
  have cc := cat_chunks (t := u) (size := size)
  rw [← hxs] at cc
  have hn : o.xs.length ≤ 1000 := Nat.le_trans cc.2 hu
  refine ⟨_, _, A1, _, _, B1, _, _, _, B2, _, _, _, _, B3, _, _, B4, bs_of (fun _ => ?_) (fun _ => ?_)⟩
  · obtain ⟨r5, g5, B5, b5, _, c5, d5⟩ := dr_n g4 h.n d4.src 2 (by omega)
    have c5 := c5 (by omega)
    refine ⟨_, _, B5, ?_⟩
    rw [wrap_i64 (n := 500 + r5) (by omega)]
    have lp5 := AHeap.Le.push d5.wf ⟨List.replicate (500 + r5).toNat [Value.int .u8 (Int.ofNat 0)], 1, true⟩
    have d6 := d5.le lp5 (d5.wf.push _)
    obtain ⟨lo7, o7, e7, ea, D7, hx7, _⟩ := (D4.dr d6).app (x := (⟨Array.replicate (500 + r5).toNat 0⟩ : ByteArray)) (cs := [.string ⟨Array.replicate (500 + r5).toNat 0⟩]) (js := []) ⟨rfl, rfl⟩ .nil (by simp)
    have el7 : o7.xs.length = o.xs.length + 1 := by rw [hx7]; simp
    have dt := d2.trans D7.out
    refine ⟨by omega, by omega, by omega, _, zeros_at AHeap.get_push_eq, _, rowsV_lit rfl, rfl, by simp only [List.length_cons, List.length_nil]; omega, _, _, _, _, e7, HQ _ _ ⟨dt.top hw le1 (Nat.le_refl _), dt.wf, _, _, _, o7.xs, rfl, ?_, by dsimp only; omega, ?_⟩⟩
    · have := D7.sn.so.sl
      rw [ea, el7] at this; exact this
    · rw [hx7]
      show (cat (o.xs ++ [_])).size ≤ _
      rw [cat_append, ByteArray.size_append]
      show _ + (_ ++ (⟨#[]⟩ : ByteArray)).size ≤ _
      rw [ba_append_nil]
      show _ + (Array.replicate _ (0 : UInt8)).size ≤ _
      rw [Array.size_replicate]; omega
  · have dt := d2.trans D4.out
    exact HQ _ _ ⟨dt.top hw le1 (Nat.le_refl _), dt.wf, _, _, _, o.xs, rfl, D4.sn.so.sl, by omega, by omega⟩
end Go.Proofs.Ytanienlcebkijaa
end
section
namespace Go.Proofs.Ytanienlcebkijaa
open Go.Abs Go.Dat
set_option maxRecDepth 100000
set_option maxHeartbeats 8000000
def lwtL (h : AHeap) (a b : Option Addr) (n c c2 : Nat) : LSpec where
  ι := Nat
  κ := Unit
  I := fun i => i ≤ n
  μ := fun i => n - i
  head := fun i => ⟨[(0, .slice a n c), (1, .slice b n c2), (5, .int .i64 i)], [], h⟩
  post := fun _ => ⟨[], [], h⟩
  R := fun _ _ => True
  ret := fun _ _ _ => False
theorem lwTexts_same (h : AHeap) (a b : Option Addr) (n c c2 : Nat) (xs : List Sh.str.T) (hx : Sl h Sh.str xs (.slice a n c)) (hy : Sl h Sh.str xs (.slice b n c2)) (hn : n ≤ 9223372036854775807) :
    ACall Try.prog 15 [.slice a n c, .slice b n c2] h (.bool true) h := by
  have en := hx.len
  refine acall_out ?_
  refine acall_vc (fun _ => false) (fun r => match r with | 6 => [(0, 0, []), (1, 0, []), (2, 0, []), (4, 0, []), (5, 0, []), (6, 0, []), (3, 1, []), (7, 1, []), (8, 0, [])] | _ => []) (fun _ => lwtL h a b n c c2) mixed Try.func15 rfl rfl rfl (Nat.le_of_ble_eq_true rfl) ?_ ?_
  · refine vc_mp (by kernel_rfl : (True ∧ (True ∧ (True ∧ True) ∧ True) ∧ (True ∧ (∀ (i : Nat), i ≤ n → bs (decide ((↑i : Int) < (↑n : Int))) (∃ (l : Nat), ∃ (r : Nat), a = some (Addr.mk l r (some (1 : Nat))) ∧ (0 : Int) ≤ (↑i : Int) ∧ (↑i : Int) < (↑n : Int) ∧ ∃ (l_1 : Nat), ∃ (r_1 : Nat), b = some (Addr.mk l_1 r_1 (some (1 : Nat))) ∧ (0 : Int) ≤ (↑i : Int) ∧ (↑i : Int) < (↑n : Int) ∧ ∃ (x : ByteArray), AHeap.ld h l (r + Int.toNat (↑i : Int)) (0 : Nat) (1 : Nat) = some [Value.string x] ∧ ∃ (x_1 : ByteArray), AHeap.ld h l_1 (r_1 + Int.toNat (↑i : Int)) (0 : Nat) (1 : Nat) = some [Value.string x_1] ∧ bs (!decide (x = x_1)) False (∃ (j : Nat), Value.slice a n c = Value.slice a n c ∧ Value.slice b n c2 = Value.slice b n c2 ∧ Value.int IntKind.i64 (IntKind.wrap IntKind.i64 ((↑i : Int) + (1 : Int))) = Value.int IntKind.i64 (↑j : Int) ∧ h = h ∧ j ≤ n ∧ n - j < n - i ∧ (∀ (k : Unit), True → True) ∧ ∀ (v : Value) (h : AHeap), False → False)) (∃ (j : Unit), h = h ∧ True)) ∧ (True ∧ True ∧ True) ∧ (True ∧ (True ∧ True) ∧ True) ∧ True) ∧ True ∧ True) = _) ?_
    simp only [true_and, and_true]
    rintro i hi
    refine bs_d (fun hlt => ?_) (fun hge => ⟨(), trivial⟩)
    obtain ⟨t, hat⟩ : ∃ y : ByteArray, xs[i]? = some y := ⟨_, List.getElem?_eq_getElem (by omega)⟩
    obtain ⟨l1, r1, row1, ha1, _, hrd1, hld1⟩ := hx.elem hat
    obtain rfl : row1 = [.string t] := hrd1
    obtain ⟨l2, r2, row2, ha2, _, hrd2, hld2⟩ := hy.elem hat
    obtain rfl : row2 = [.string t] := hrd2
    exact ⟨l1, r1, ha1, by omega, hlt, l2, r2, ha2, by omega, hlt, _, hld1, _, hld2, bs_dn (fun hne => absurd rfl hne) fun _ => ⟨i + 1, by rw [wrap_i64 (by omega)]; rfl, by omega, by omega, fun _ h => h, fun _ _ h => h⟩⟩
  refine vc_mp (by kernel_rfl : (bs (!decide ((↑n : Int) = (↑n : Int))) (Value.bool false = Value.bool true ∧ h = h) (∃ (i : Nat), Value.slice a n c = Value.slice a n c ∧ Value.slice b n c2 = Value.slice b n c2 ∧ Value.int IntKind.i64 (0 : Int) = Value.int IntKind.i64 (↑i : Int) ∧ h = h ∧ i ≤ n ∧ (∀ (j : Unit), True → Value.bool true = Value.bool true ∧ h = h) ∧ ∀ (v : Value) (h_1 : AHeap), False → v = Value.bool true ∧ h_1 = h)) = _) ?_
  exact bs_dn (fun hne => absurd rfl hne) fun _ => ⟨0, rfl, rfl, rfl, rfl, Nat.zero_le _, fun _ _ => ⟨rfl, rfl⟩, fun _ _ h => h.elim⟩
def fchL (h : AHeap) (a : Option Addr) (c : Nat) (t : ByteArray) (size : Int) (n : Nat) : LSpec where
  ι := Nat
  κ := Unit
  I := fun i => i ≤ n
  μ := fun i => n - i
  head := fun i => ⟨[(5, .string t), (6, .int .i64 size), (7, .slice a n c), (9, .int .i64 i)], [], h⟩
  post := fun _ => ⟨[(5, .string t), (7, .slice a n c)], [], h⟩
  R := fun _ _ => True
  ret := fun _ _ _ => False
theorem lawFChunks (h : AHeap) (hw : h.wf) (a : Option Addr) (n c : Nat) (bytes : List Sh.byte.T) (hx : Sl h Sh.byte bytes (.slice a n c)) (ok : (Sh.sl Sh.byte).ok bytes)
    (a2 : Option Addr) (n2 c2 : Nat) (bytes2 : List Sh.byte.T) (hx2 : Sl h Sh.byte bytes2 (.slice a2 n2 c2)) (ok2 : (Sh.sl Sh.byte).ok bytes2) :
    ∃ v h', ACall Try.prog 4 [.slice a n c, .slice a2 n2 c2] h v h' ∧ v = .bool true := by
  obtain ⟨_, h1, A1, le1, w1, t, size, rfl, ht, hs⟩ := drawChunksOf_spec h hw a n c bytes hx ok
  obtain ⟨_, _, A2, o, rfl, rfl, O, hxs⟩ := implChunksOf_spec h1 w1 t size
  obtain ⟨_, h3, A3, le3, w3, a3, n3, c3, ys, rfl, sy, hn3, hcat⟩ := drawChunksJoin_spec o.g O.wf a2 n2 c2 bytes2 (hx2.mono (le1.trans O.le)) ok2
  obtain ⟨_, _, A4, o4, rfl, rfl, O4, hxs4⟩ := specChunksOf_spec h3 w3 t size
  have so : Sl o.g Sh.str o.xs (.slice o.a o.xs.length o.c) := O.sn.so.sl
  have so4 : Sl o4.g Sh.str o4.xs (.slice o4.a o4.xs.length o4.c) := O4.sn.so.sl
  have cc := cat_chunks (t := t) (size := size)
  have hlen : o.xs.length ≤ 1000 := by rw [hxs]; omega
  have e4 : o4.xs = o.xs := hxs4.trans hxs.symm
  rw [e4] at so4 A4
  have A5 := lwTexts_same o4.g o.a o4.a o.xs.length o.c o4.c o.xs (so.mono (le3.trans O4.le)) so4 (by omega)
  have sy4 := sy.mono O4.le
  have A6 := implChunksJoin o4.g a3 n3 c3 ys sy4 (by omega) (by omega)
  obtain ⟨_, h7, A7, le7, w7, rfl⟩ := specChunksJoin o4.g O4.wf a3 n3 c3 ys sy4 (by omega) (by omega)
  have so7 := so.mono (le3.trans (O4.le.trans le7))
  have A8 := implChunksJoin h7 o.a o.xs.length o.c o.xs so7 (by omega) (by rw [hxs]; omega)
  refine acall_vc (fun _ => false) (fun _ => []) (fun _ => fchL h7 o.a o.c t size o.xs.length) mixed Try.func4 rfl rfl rfl (Nat.le_of_ble_eq_true rfl) ?_ ?_
  · refine vc_mp (by kernel_rfl : (True ∧ (True ∧ (True ∧ True) ∧ True) ∧ True ∧ True ∧ True ∧ (True ∧ (True ∧ True) ∧ True) ∧ (True ∧ (∀ (i : Nat), i ≤ List.length (OX.xs o) → bs (decide ((↑i : Int) < (↑(List.length (OX.xs o)) : Int))) (∃ (l : Nat), ∃ (r : Nat), OX.a o = some (Addr.mk l r (some (1 : Nat))) ∧ (0 : Int) ≤ (↑i : Int) ∧ (↑i : Int) < (↑(List.length (OX.xs o)) : Int) ∧ ∃ (x : ByteArray), AHeap.ld h7 l (r + Int.toNat (↑i : Int)) (0 : Nat) (1 : Nat) = some [Value.string x] ∧ bs (decide ((↑(ByteArray.size x) : Int) < (1 : Int))) False (bs (decide ((↑(ByteArray.size x) : Int) > size)) False (bs (decide ((↑i : Int) < IntKind.wrap IntKind.i64 ((↑(List.length (OX.xs o)) : Int) - (1 : Int)))) (bs (!decide ((↑(ByteArray.size x) : Int) = size)) False (∃ (j : Nat), Value.string t = Value.string t ∧ Value.int IntKind.i64 size = Value.int IntKind.i64 size ∧ Value.slice (OX.a o) (List.length (OX.xs o)) (OX.c o) = Value.slice (OX.a o) (List.length (OX.xs o)) (OX.c o) ∧ Value.int IntKind.i64 (IntKind.wrap IntKind.i64 ((↑i : Int) + (1 : Int))) = Value.int IntKind.i64 (↑j : Int) ∧ h7 = h7 ∧ j ≤ List.length (OX.xs o) ∧ List.length (OX.xs o) - j < List.length (OX.xs o) - i ∧ (∀ (k : Unit), True → True) ∧ ∀ (v : Value) (h : AHeap), False → False)) (∃ (j : Nat), Value.string t = Value.string t ∧ Value.int IntKind.i64 size = Value.int IntKind.i64 size ∧ Value.slice (OX.a o) (List.length (OX.xs o)) (OX.c o) = Value.slice (OX.a o) (List.length (OX.xs o)) (OX.c o) ∧ Value.int IntKind.i64 (IntKind.wrap IntKind.i64 ((↑i : Int) + (1 : Int))) = Value.int IntKind.i64 (↑j : Int) ∧ h7 = h7 ∧ j ≤ List.length (OX.xs o) ∧ List.length (OX.xs o) - j < List.length (OX.xs o) - i ∧ (∀ (k : Unit), True → True) ∧ ∀ (v : Value) (h : AHeap), False → False)))) (∃ (j : Unit), Value.string t = Value.string t ∧ Value.slice (OX.a o) (List.length (OX.xs o)) (OX.c o) = Value.slice (OX.a o) (List.length (OX.xs o)) (OX.c o) ∧ h7 = h7 ∧ True)) ∧ (True ∧ True ∧ True) ∧ (True ∧ True ∧ (True ∧ True) ∧ True) ∧ True) ∧ True ∧ True) = _) ?_
    simp only [true_and, and_true]
    rintro i hi
    refine bs_d (fun hlt => ?_) (fun hge => ⟨(), trivial⟩)
    have hok : ChunkOk t size := Classical.byContradiction fun hno => by
      rw [hxs, chunks_neg hno] at hlt
      have : (i : Int) < ((0 : Nat) : Int) := hlt
      omega
    have hz : 0 < size.toNat := by have := hok.2.1; omega
    have ez : size = (size.toNat : Int) := by omega
    rw [chunks_pos hok] at hxs
    have eN : o.xs.length = chunkN t size.toNat := by rw [hxs]; exact chunkL_len _
    have hiN : i < chunkN t size.toNat := by omega
    have hat := chunkL_at (t := t) (z := size.toNat) _ i hiN
    rw [← hxs] at hat
    have cs := chunk_size hz hiN
    generalize t.extract (cutC t size.toNat i) (cutC t size.toNat (i + 1)) = u at hat cs
    obtain ⟨l1, r1, row1, ha1, _, hrd1, hld1⟩ := so7.elem hat
    obtain rfl : row1 = [.string u] := hrd1
    have tl : ∃ j : Nat, Value.int .i64 (IntKind.i64.wrap ((i : Int) + 1)) = .int .i64 j ∧ j ≤ o.xs.length ∧ o.xs.length - j < o.xs.length - i ∧ (∀ (k : Unit), True → True) ∧ ∀ (v : Value) (h : AHeap), False → False := ⟨i + 1, by rw [wrap_i64 (by omega)]; rfl, by omega, by omega, fun _ h => h, fun _ _ h => h⟩
    refine ⟨l1, r1, ha1, by omega, hlt, _, hld1, bs_d (fun h => by omega) fun _ => bs_d (fun h => by omega) fun _ => bs_d (fun h => bs_dn (fun hne => hne ?_) fun _ => tl) fun _ => tl⟩
    rw [wrap_i64 (by omega)] at h
    have := cs.2.2 (by omega)
    omega
  refine vc_mp (by kernel_rfl : (bs (decide ((↑n : Int) > (1048576 : Int))) (Value.bool true = Value.bool true) (bs (decide ((↑n2 : Int) > (1048576 : Int))) (Value.bool true = Value.bool true) (∃ (x : ByteArray), ∃ (x_1 : Int), ∃ (h' : AHeap), ACall Try.prog (12 : Nat) [Value.slice a n c] h (Value.tuple (Array.mk [Value.string x, Value.int IntKind.i64 x_1])) h' ∧ ∃ (a : Option Addr), ∃ (n : Nat), ∃ (c : Nat), ∃ (h'_1 : AHeap), ACall Try.prog (13 : Nat) [Value.string x, Value.int IntKind.i64 x_1] h' (Value.slice a n c) h'_1 ∧ ∃ (a_1 : Option Addr), ∃ (n_1 : Nat), ∃ (c_1 : Nat), ∃ (h' : AHeap), ACall Try.prog (14 : Nat) [Value.slice a2 n2 c2] h'_1 (Value.slice a_1 n_1 c_1) h' ∧ ∃ (a_2 : Option Addr), ∃ (n_2 : Nat), ∃ (c_2 : Nat), ∃ (h'_2 : AHeap), ACall Try.prog (16 : Nat) [Value.string x, Value.int IntKind.i64 x_1] h' (Value.slice a_2 n_2 c_2) h'_2 ∧ ∃ (x_2 : Bool), ∃ (h' : AHeap), ACall Try.prog (15 : Nat) [Value.slice a n c, Value.slice a_2 n_2 c_2] h'_2 (Value.bool x_2) h' ∧ bs (!x_2) (Value.bool false = Value.bool true) (∃ (x_3 : ByteArray), ∃ (h'_3 : AHeap), ACall Try.prog (17 : Nat) [Value.slice a_1 n_1 c_1] h' (Value.string x_3) h'_3 ∧ ∃ (x_4 : ByteArray), ∃ (h' : AHeap), ACall Try.prog (18 : Nat) [Value.slice a_1 n_1 c_1] h'_3 (Value.string x_4) h' ∧ bs (!decide (x_3 = x_4)) (Value.bool false = Value.bool true) (∃ (i : Nat), Value.string x = Value.string t ∧ Value.int IntKind.i64 x_1 = Value.int IntKind.i64 size ∧ Value.slice a n c = Value.slice (OX.a o) (List.length (OX.xs o)) (OX.c o) ∧ Value.int IntKind.i64 (0 : Int) = Value.int IntKind.i64 (↑i : Int) ∧ h7 = h' ∧ i ≤ List.length (OX.xs o) ∧ (∀ (j : Unit), True → bs (decide ((↑(List.length (OX.xs o)) : Int) = (0 : Int))) (Value.bool true = Value.bool true) (∃ (x : ByteArray), ∃ (h' : AHeap), ACall Try.prog (17 : Nat) [Value.slice (OX.a o) (List.length (OX.xs o)) (OX.c o)] h7 (Value.string x) h' ∧ Value.bool (decide (x = t)) = Value.bool true)) ∧ ∀ (v : Value) (h : AHeap), False → v = Value.bool true))))) = _) ?_
  refine bs_d (fun _ => rfl) fun _ => bs_d (fun _ => rfl) fun _ => ⟨_, _, _, A1, _, _, _, _, A2, _, _, _, _, A3, _, _, _, _, A4, _, _, A5, bs_nb (fun h => by cases h) fun _ => ⟨_, _, A6, _, _, A7, ?_⟩⟩
  refine bs_dn (fun hne => absurd rfl hne) fun _ => ⟨0, rfl, rfl, rfl, rfl, rfl, Nat.zero_le _, fun _ _ => bs_d (fun _ => rfl) fun hne => ⟨_, _, A8, ?_⟩, fun _ _ h => h.elim⟩
  have hok : ChunkOk t size := Classical.byContradiction fun hno => by
    rw [hxs, chunks_neg hno] at hne
    exact hne rfl
  have hz : 0 < size.toNat := by have := hok.2.1; omega
  have ej : joinB o.xs = t := by
    rw [hxs, chunks_pos hok]
    have ct := chunks_join (t := t) hz
    rw [joinB_pos, ct]
    refine ⟨?_, fun j u hj => ?_, by rw [ct]; have := hok.1; omega⟩
    · rw [chunkL_len]
      have h1 := hok.2.2
      have h2 := chunkN_lt (t := t) hz
      omega
    · have hjN : j < chunkN t size.toNat := by
        have := (List.getElem?_eq_some_iff.1 hj).1
        rw [chunkL_len] at this; exact this
      rw [chunkL_at _ j hjN] at hj
      obtain rfl := Option.some.inj hj
      have h1 := (chunk_size hz hjN).2.1
      have h2 := hok.2.1
      omega
  rw [ej, decide_eq_true rfl]
end Go.Proofs.Ytanienlcebkijaa
end
